import Derived.Test.YtjhdcgaiccnmeaaGreatDoorJG10
import Derived.Test.YtjhdcgaiccnmeaaGreatDoorJG22
import Derived.Test.YtjhdcgaiccnmeaaGreatDoorJG24
set_option linter.unusedSimpArgs false
set_option linter.unusedVariables false
set_option linter.unusedSectionVars false
section
namespace Go.Proofs.YtjhdcgaiccnmeaaGreatDoor.Aw
open Go Go.RowKit Go.Proofs Go.Maps Go.WideMaps
variable {P : Program} [IsP P]
theorem take_snoc {α : Type} [Inhabited α] {l : List α} {k : Nat} (h : k < l.length) : l.take (k + 1) = l.take k ++ [gti l k] := by
 rw [List.take_add_one, zbu h]; rfl
theorem cloneI_pf (l : List Int) (h : l.length ≤ 50) (hn : 1 ≤ l.length) : Pure P 92 [eL eI l] (eL eI l) := by
 have hnn : NonNil (eL eI l) := by
  cases l with
  | nil => simp at hn
  | cons a t => exact .sl _ _
 refine zbb (by rw [IsP.eq (P := P)]; exact Tryz.func92) rfl rfl rfl rfl rfl (zah (zaq fun _ => .s _) zap) (zaq fun _ => .s _) (by simp only [argF]; rfl) ?_
 refine zaf (zae (zbe rfl (zaj (zaf (zaf (zae (zbe rfl (zab rfl rfl (zaa rfl) (does_eqnil rfl ts29 rfl hnn rfl (.inl ⟨rfl, rfl⟩)) (zaj (zak (za6 rfl (zad (zaf (zae (zab rfl rfl (zaa rfl) (does_lit0 rfl rfl ts29 ti3) (zbe rfl ?_))))))))))))))))
 refine zab rfl rfl (zaa rfl) (does_append0 rfl ts29 ti3 rfl (by decide) rfl (.inl rfl) rfl (by first | exact .own _ _ _ rfl rfl _ (by first | rfl | simp) | exact .emp | exact .nil | exact .sl _ (by first | simp; done | intro e he; simp at he; obtain ⟨_, _, rfl⟩ := he; rfl)) (by first | omega | (simp; omega) | (unfold maxLen; simp; omega)) (by first | omega | (simp; omega) | (unfold maxLen; simp; omega))) ?_
 refine zbe rfl (zaj (zak ?_))
 (refine zbd ?_; repeat (first | refine zbn ?_ | refine zbo ?_))
 exact post1f (.inr rfl) rfl (.own _ _ _ _ _ rfl rfl (by simp))
end Go.Proofs.YtjhdcgaiccnmeaaGreatDoor.Aw
end
