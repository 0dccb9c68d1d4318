/-
  Texts joined: Best. Conditions: none.
-/
import Derived.Test.YtmoipmnhgdmkpaaGreatJC15
import Derived.Test.YtmoipmnhgdmkpaaGreatJC16
section
namespace Go.Proofs.YtmoipmnhgdmkpaaGreat.Aw
set_option linter.unusedSimpArgs false
set_option linter.unusedVariables false
set_option linter.unusedSectionVars false
open Go Go.RowKit Go.Proofs
variable {P : Program} [IsP P]
def exP : LP := ⟨[⟨3, 1⟩, ⟨4, 1⟩], [[⟨1, 1⟩, ⟨0, 1⟩], [⟨1, 1⟩, ⟨1, 1⟩], [⟨0, 1⟩, ⟨1, 1⟩], [⟨1, 1⟩, ⟨0, 1⟩], [⟨0, 1⟩, ⟨1, 1⟩]], [2, 2, 2, 1, 1], [⟨1, 1⟩, ⟨2, 1⟩, ⟨1, 1⟩, ⟨2, 1⟩, ⟨2, 1⟩]⟩
def exS : AV := .tup [.agg [eI 1, eL eF [⟨1, 1⟩, ⟨1, 1⟩], eL eF [⟨0, 1⟩, ⟨3, 1⟩, ⟨1, 1⟩, ⟨0, 1⟩, ⟨0, 1⟩], .sl [], eI 7, eI 1], eI 0]
theorem solve_ev : chkPureT Tryz.prog orcG (tabOf pivTab) 1000 56 [eP exP] exS = true := by kernel_rfl
theorem solve_pf : Pure P 56 [eP exP] exS := pure_prog (chkPureT_ok hmix orcG_ok (tabOf_ok _ pivTab_ok) solve_ev)
/-- the oracle with the method's answer -/
def orcH : Orc := fun f args => bif Nat.beq f 56 && avsEq args [eP exP] then some exS else orcG f args
theorem orcH_ok : OrcOk P orcH := by
  intro f args r h
  unfold orcH at h
  cases hb : (Nat.beq f 56 && avsEq args [eP exP]) with
  | false => rw [hb] at h; exact orcG_ok f args r h
  | true =>
    rw [hb] at h; cases h
    simp only [Bool.and_eq_true] at hb
    rw [Nat.eq_of_beq_eq_true hb.1, avsEq_of _ _ hb.2]
    exact solve_pf
theorem best_ev : chkPure3 Tryz.prog orcH 1000 9 [eL eI exD, eL eSh exL, eI 100] exR = true := by kernel_rfl
theorem best_pf : Pure P 9 [eL eI exD, eL eSh exL, eI 100] exR := pure_prog (chkPure3_ok hmix orcH_ok best_ev)
theorem awake_pf : Pure P 4 [] (eB true) := awake_of best_pf
end Go.Proofs.YtmoipmnhgdmkpaaGreat.Aw
end
