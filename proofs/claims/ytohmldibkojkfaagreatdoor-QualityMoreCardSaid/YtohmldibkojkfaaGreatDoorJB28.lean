import Derived.Test.YtohmldibkojkfaaGreatDoorJB17
import Derived.Test.YtohmldibkojkfaaGreatDoorJB19
import Derived.RangeFuncNested
import Derived.RangeFuncBound
import Derived.RangeFuncCalls
import Derived.RangeFuncLeaves
import Derived.TacticsIn
import Derived.LoopNIn
set_option linter.unusedSimpArgs false
set_option linter.unusedVariables false
set_option linter.unusedSectionVars false
section
namespace Go.Proofs.YtohmldibkojkfaaGreatDoor.Aw
open Go Go.RowKit Go.Proofs
def zrm (o : Oper) : Bool := match o.op with | .defer _ => false | _ => true
theorem zrm.ne {o : Oper} (h : zrm o = true) : ∀ c, o.op ≠ .defer c := fun c e => by simp [zrm, e] at h
section
variable {P : Program} {r n : Nat}
end
section
variable {P : Program} {N r n : Nat} {F : Frm} {σ : List Ob} {Q : Exit → Frm → List Ob → Prop}
end
end Go.Proofs.YtohmldibkojkfaaGreatDoor.Aw
end
section
namespace Go.Proofs.YtohmldibkojkfaaGreatDoor.Aw
open Go Go.RowKit Go.Proofs
section
variable {P : Program} {N : Nat} {F : Frm} {σ : List Ob} {Q : Exit → Frm → List Ob → Prop}
end
end Go.Proofs.YtohmldibkojkfaaGreatDoor.Aw
end
