import Derived.Test.YtjdpnadhgjohnaaGreatDoorJN0
import Derived.Test.YtjdpnadhgjohnaaGreatDoorJN23
import Derived.Test.YtjdpnadhgjohnaaGreatDoorJN43
import Derived.Test.YtjdpnadhgjohnaaGreatDoorCards
import Derived.Test.YtjdpnadhgjohnaaGreatDoorTie
import Derived.LaidMore
import Derived.Lay
import Derived.SevenTiedAt
import Derived.Stop.Joined
import Derived.Stop.LaidErr
import Derived.MakeChecks
import Derived.Lib.LaidTab
import Derived.Carry
set_option linter.unusedSimpArgs false
set_option linter.unusedVariables false
set_option linter.unusedSectionVars false
section
namespace Go.Proofs.YtjdpnadhgjohnaaGreatDoor
open Go.ChangeShapes Go.WideShapes Go.ChangeAt Go.RowKit
section
variable {H:Type}{enc:TypeId × Value→H}{P:Program}{w:World}{base:Nat}{spare:Nat→Bool}{held:Bool}
end
namespace Aw
open Dl
theorem tab_of_laid {W:World}(h:laidMetH Tryz.prog Rows.alignLeastRow.laid W):TabP W:=by
 rw[MakeChecks.laidMetH_plain _ _ _ (by kernel_rfl)] at h
 have h1:laidMet Tryz.prog [("internal/strconv.uint64pow10",Lib.tabData .u64 Lib.pow10Tab)] W:=laidMet.tail (laidMet.tail h)
 have hg:Tryz.prog.globalNamed "internal/strconv.uint64pow10" =some 0:=by kernel_rfl
 have h2:=Lib.tabIs_of_head (t:=283) (e:=245) (n:=20) hg (by kernel_rfl) (by kernel_rfl) (by kernel_rfl) (by kernel_rfl) (by kernel_rfl) h1
 unfold Lib.TabIs World.var? at h2
 rw[hg] at h2
 simp only[Option.bind_some] at h2
 cases hx:W.heap[0]? with
 |none=>rw[hx] at h2;cases h2
 | some ob=>
  rw[hx] at h2
  cases ob with
  |cells cs t f=>
   replace h2:some cs=some _:=h2
   injection h2 with h2
   subst h2
   exact⟨_,_,hx⟩
  |_=>cases h2
theorem pure_lawT {P:Program}{f:FuncId}{args:List AV}(hp:Pure P f args (eB true))(W:World)(ht:TabP W)(vargs:Array Value)(hsz:vargs.size=args.length)(hrep: ∀ (j:Nat) v x,vargs[j]?=some v→args[j]?=some x→Rep (G0 W) v x):
  Calls P f vargs W fun e w'=>e= .returned (.bool true)∧Below W.heap.size W w':=
 (hp.call (G0 W) vargs ⟨fun b o h=>h,ht⟩ hsz hrep).mono (by
  rintro e w' ⟨v,G',rfl,rfl,hb,_,_,_,hr⟩
  exact⟨by rw[zc5 hr],hb⟩)
section
variable {H:Type}{enc:TypeId × Value→H}{w:World}{base:Nat}{sp:Nat→Bool}{held:Bool}
set_option maxRecDepth 100000 in
theorem zti {fuel:Nat}{cs:List Value}{x:DataW H × List MemPlace}(h:DataW.trod enc Tryz.prog w base sp held fuel 27 cs=some x): ∃q:Cst,Rc w cs (eC q).cells:=by
 obtain⟨xs,n,_,_,hlen,hl,hg⟩:=DataW.trod_struct Tryz.underlying27 h
 have hc:Tryz.prog.cellsOf 27=3:=by kernel_rfl
 have h1:Tryz.prog.cellsOf 3=1:=by kernel_rfl
 match cs,hlen.trans hc,xs,hl with
 |[c0,c1,c2],_,[x0,x1,x2],_=>
  have g0:=hg 0 _ J
  have g1:=hg 1 _ J
  have g2:=hg 2 _ J
  simp[h1] at g0 g1 g2
  obtain⟨a,e0,_⟩:=DataW.trod_int Tryz.underlying3 g0
  obtain⟨b,e1,_⟩:=DataW.trod_int Tryz.underlying3 g1
  obtain⟨s,e2,_⟩:=DataW.trod_int Tryz.underlying3 g2
  injection e0 with e0
  injection e1 with e1
  injection e2 with e2
  subst e0 e1 e2
  exact⟨⟨a,b,s⟩,zfk (.s _) rfl (zfk (.s _) rfl (zfk (.s _) rfl zrs))⟩
variable {b0:Nat}{r:Reach}{v:Value}{d:DataW H}{p:List MemPlace}
set_option maxRecDepth 100000 in
theorem open_costs (hv:Value.okWide Tryz.prog w r b0 27 v)(h:DataW.Trod enc Tryz.prog w base sp held 27 v d p): ∃q:Cst,Rep (G0 w) v (eC q):=by
 obtain⟨cs,rfl,hsz⟩:=okWide_struct Tryz.underlying27 hv
 obtain⟨fuel,hf⟩:=h
 obtain⟨q,ha⟩:=zti hf
 exact⟨q,z5q (vs:=cs) ha⟩
end
end Aw
end Go.Proofs.YtjdpnadhgjohnaaGreatDoor
end
