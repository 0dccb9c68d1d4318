import Derived.Test.YtohmldibkojkfaaGreatDoorJA10
import Derived.Test.YtohmldibkojkfaaGreatDoorJA23
import Derived.Test.YtohmldibkojkfaaGreatDoorJA25
set_option linter.unusedSimpArgs false
set_option linter.unusedVariables false
set_option linter.unusedSectionVars false
section
namespace Go.Proofs.YtohmldibkojkfaaGreatDoor.Aw
open Go Go.RowKit Go.Proofs Go.Maps Go.WideMaps
variable {P : Program} [IsP P]
theorem zux {α : Type} [Inhabited α] {l : List α} {k : Nat} (h : k < l.length) : l.take (k + 1) = l.take k ++ [gti l k] := by
 rw [List.take_add_one, zbp h]; rfl
theorem zuo {n : Int} (h0 : 0 ≤ n) (h1 : n ≤ 255) : IntKind.u8.wrap n = n := IntWalk.u8_in n (by omega)
theorem lo_U (l : List Int) : ∀ e ∈ l.map eU, ∀ c ∈ e.cells, Lo 0 c := by
 intro e he c hc
 obtain ⟨x, _, rfl⟩ := List.mem_map.1 he
 simp [eU, AV.cells] at hc; subst hc; exact .s _
end Go.Proofs.YtohmldibkojkfaaGreatDoor.Aw
end
