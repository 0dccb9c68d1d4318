import Derived.Test.YtjdpnadhgjohnaaGreatDoorJN0
import Derived.Test.YtjdpnadhgjohnaaGreatDoorJN27
import Derived.Test.YtjdpnadhgjohnaaGreatDoorJN21
set_option linter.unusedSimpArgs false
set_option linter.unusedVariables false
set_option linter.unusedSectionVars false
namespace Go.Proofs.YtjdpnadhgjohnaaGreatDoor
namespace Aw
open Go Go.RowKit Go.Proofs
section
variable {P:Program}
end
end Aw
namespace Aw
open Go Go.RowKit Go.Proofs
section
variable {P:Program}{N:Nat}{F:Frm}{σ:List Ob}{Q:Exit→Frm→List Ob→Prop}
structure KeepN (n:Nat)(G G':Cx):Prop where
 step:G.Step G'
 mu: ∀i y,i<n→G.mu i=some y→G'.mu i=some y
 rows:zce G.w G'.w
theorem KeepN.trans {n:Nat}{G H K:Cx}(h:KeepN n G H)(k:KeepN n H K):KeepN n G K:=⟨h.step.trans k.step,fun i y hi x=>k.mu i y hi (h.mu i y hi x),h.rows.trans k.rows⟩
theorem KeepN.of {n:Nat}{G G':Cx}(e:G.Ext G'):KeepN n G G':=⟨e.step,fun i y _ h=>e.mu i y h,e.rows⟩
end
end Aw
namespace Aw
open Go Go.RowKit Go.Proofs
section
variable {P:Program}{N:Nat}{F:Frm}{σ:List Ob}{Q:Exit→Frm→List Ob→Prop}
end
end Aw
end Go.Proofs.YtjdpnadhgjohnaaGreatDoor
