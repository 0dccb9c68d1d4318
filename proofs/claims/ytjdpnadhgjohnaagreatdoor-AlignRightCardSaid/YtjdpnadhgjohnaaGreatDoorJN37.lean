import Derived.Test.YtjdpnadhgjohnaaGreatDoorJN0
import Derived.Test.YtjdpnadhgjohnaaGreatDoorJN35
import Derived.Test.YtjdpnadhgjohnaaGreatDoorJN18
import Derived.Test.YtjdpnadhgjohnaaGreatDoorJN21
import Derived.OrdersIn
set_option linter.unusedSimpArgs false
set_option linter.unusedVariables false
set_option linter.unusedSectionVars false
section
namespace Go.Proofs.YtjdpnadhgjohnaaGreatDoor.Aw
open Go Go.RowKit Go.Proofs
section
variable {P:Program}{N:Nat}{F:Frm}{σ:List Ob}{Q:Exit→Frm→List Ob→Prop}
end
section
variable {P:Program}{r n:Nat}
variable {N:Nat}{F:Frm}{σ:List Ob}{Q:Exit→Frm→List Ob→Prop}
end
theorem zdu {P:Program}{N:Nat}{l:List Oper}{F:Frm}{σ:List Ob}{Q:Exit→Frm→List Ob→Prop}(h:EX P N l.toArray l [] l F σ (fun F' σ'=>Q .normal F' σ')):zkw P N l F σ Q:=by
 obtain⟨F',σ',out,ks,sts,h1,h2,h3⟩:=h
 exact zfb h1 (by simpa using h2) h3
end Go.Proofs.YtjdpnadhgjohnaaGreatDoor.Aw
end
