import Derived.Test.YtjdpnadhgjohnaaGreatDoorJN0
import Derived.Test.YtjdpnadhgjohnaaGreatDoorJN31
set_option linter.unusedSimpArgs false
set_option linter.unusedVariables false
set_option linter.unusedSectionVars false
section
namespace Go.Proofs.YtjdpnadhgjohnaaGreatDoor.Aw
open Go Go.RowKit Go.Proofs
variable {P:Program}[IsP P]
theorem z24:zq6 Tryz.prog orcW (zyi pTab) 1000 57 [eP exP] (.tup [eSol exS,eI 0])=true:=by kernel_rfl
theorem z23:Pure P 57 [eP exP] (.tup [eSol exS,eI 0]):=
 zdw (zuh hmix z7e (zp4 _ z7c) z24)
end Go.Proofs.YtjdpnadhgjohnaaGreatDoor.Aw
end
