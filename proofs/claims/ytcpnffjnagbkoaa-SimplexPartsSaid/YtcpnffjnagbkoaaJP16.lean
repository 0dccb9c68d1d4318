/-
  Texts joined: Awake. Conditions: none.
-/
import Derived.Test.YtcpnffjnagbkoaaJP12
section
namespace Go.Proofs.Ytcpnffjnagbkoaa.Aw
set_option linter.unusedSimpArgs false
set_option linter.unusedVariables false
open Go Go.RowKit Go.Proofs
variable {P : Program} [IsP P]
theorem awake_ev : evTrue Try.prog orcF 1000 5 = true := by kernel_rfl
theorem awake_pf : Pure P 5 [] (eB true) :=
  pure_prog (evTrue_ok hmix orcF_ok awake_ev)
end Go.Proofs.Ytcpnffjnagbkoaa.Aw
end
