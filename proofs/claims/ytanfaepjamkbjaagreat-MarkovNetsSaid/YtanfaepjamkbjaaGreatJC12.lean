/-
  Texts joined: MkAwk. Conditions: none.
-/
import Derived.Test.YtanfaepjamkbjaaGreatJC10
section
namespace Go.Proofs.YtanfaepjamkbjaaGreat.Aw
set_option linter.unusedSimpArgs false
set_option linter.unusedVariables false
open Go Go.RowKit Go.Proofs
variable {P : Program} [IsP P]
theorem awake_ev : evTrue Tryz.prog orcF 1000 4 = true := by kernel_rfl
theorem awake_pf : Pure P 4 [] (eB true) :=
  pure_prog (evTrue_ok hmix orcF_ok awake_ev)
end Go.Proofs.YtanfaepjamkbjaaGreat.Aw
end
