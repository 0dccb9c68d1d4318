import Derived.Test.YtjdpnadhgjohnaaGreatDoorJN0
import Derived.Test.YtjdpnadhgjohnaaGreatDoorJN16
import Derived.Test.YtjdpnadhgjohnaaGreatDoorJN18
import Derived.RangeFuncNested
import Derived.RangeFuncBound
import Derived.RangeFuncCalls
import Derived.RangeFuncLeaves
import Derived.TacticsIn
import Derived.LoopNIn
set_option linter.unusedSimpArgs false
set_option linter.unusedVariables false
set_option linter.unusedSectionVars false
namespace Go.Proofs.YtjdpnadhgjohnaaGreatDoor
namespace Aw
open Go Go.RowKit Go.Proofs
def ztl (o:Oper):Bool:=match o.op with| .defer _=>false|_=>true
theorem ztl.ne {o:Oper}(h:ztl o=true): ∀c,o.op≠ .defer c:=fun c e=>by simp[ztl,e] at h
section
variable {P:Program}{r n:Nat}
end
section
variable {P:Program}{N r n:Nat}{F:Frm}{σ:List Ob}{Q:Exit→Frm→List Ob→Prop}
end
end Aw
namespace Aw
open Go Go.RowKit Go.Proofs
section
variable {P:Program}{N:Nat}{F:Frm}{σ:List Ob}{Q:Exit→Frm→List Ob→Prop}
end
end Aw
end Go.Proofs.YtjdpnadhgjohnaaGreatDoor
