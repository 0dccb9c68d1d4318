import Derived.Test.YtohmldibkojkfaaGreatDoorJB23
set_option linter.unusedSimpArgs false
set_option linter.unusedVariables false
set_option linter.unusedSectionVars false
section
namespace Go.Proofs.YtohmldibkojkfaaGreatDoor
open Go.ChangeShapes Go.WideShapes Go.ChangeAt Go.RowKit
namespace Aw
section
variable {H : Type} {enc : TypeId × Value → H} {w : World} {base b0 : Nat} {r : Reach} {sp : Nat → Bool} {held : Bool} {v : Value} {d : DataW H} {p : List MemPlace}
set_option maxRecDepth 100000 in
theorem open_u8 (hv : Value.okWide Tryz.prog w r b0 5 v) (h : DataW.Trod enc Tryz.prog w base sp held 5 v d p) : ∃ q : { n : Int // 0 ≤ n ∧ n ≤ 255 }, Rep (G0 w) v (.s (.int .u8 q.1)) := by
 obtain ⟨n, rfl⟩ := okWide_int Tryz.underlying5 hv
 obtain ⟨fuel, hf⟩ := h
 obtain ⟨m, h1, _, hw⟩ := DataW.trod_int Tryz.underlying5 hf
 simp [Value.cells] at h1
 subst h1
 exact ⟨⟨n, by simpa [Lit.wf, IntKind.min, IntKind.max, IntKind.bits, IntKind.signed] using hw⟩, .s _⟩
end
end Aw
end Go.Proofs.YtohmldibkojkfaaGreatDoor
end
