import Derived.Test.YtjdpnadhgjohnaaGreatDoorJN0
import Derived.Test.YtjdpnadhgjohnaaGreatDoorRows
import Derived.Test.YtjdpnadhgjohnaaGreatDoorJN16
import Derived.ProofKit
import Derived.Below
import Derived.ChangeShapes
import Derived.ChangeSame
import Derived.ChangeSlices
import Derived.DataReads
set_option linter.unusedSimpArgs false
set_option linter.unusedVariables false
set_option linter.unusedSectionVars false
section
namespace Go.Proofs.YtjdpnadhgjohnaaGreatDoor
open Go.ChangeShapes Go.WideShapes Go.ChangeAt Go.RowKit
theorem zvi:ownKnob Tryz.prog.godebug=none:=by kernel_rfl
theorem zgd:laidOutB Tryz.prog=true:=by kernel_rfl
section
variable {H:Type}{enc:TypeId × Value→H}
set_option maxRecDepth 100000 in
theorem zvs {f:Func}{s:ChangeSpec}{W W':World}{args:Array Value}{ds gs:List (DataW H)}{before:List MemPlace}{t:TypeId}
  (hW:DataW.Whole enc Tryz.prog f.params.toList s.vars false W args.toList ds gs before) (hr:f.resultTypes= #[t]) (ht:Tryz.prog.underlying t=some .bool)
  (hfn:(s.fn H (ds++gs)).results=[.lit (.bool true)]∧(s.fn H (ds++gs)).args=ds∧(s.fn H (ds++gs)).vars=[]) (hv:s.vars=[])
  (hargs:DataW.TrodAll enc Tryz.prog W' 0 (fun b=>decide (b<W.heap.size)) true f.params.toList args.toList ds before) (hb:Below W.heap.size W W'):
  s.post enc Tryz.prog f false true false false W args (.bool true) W':=by
 refine⟨ds,gs,before,[],before,[],hW,?_,?_,?_,World.keptBut_mono (fun p hp=>⟨hp,Or.inr (by simpa using hp)⟩) (hb.frame (· ∈before)),fun h=>by cases h⟩
 ·
  rw[hfn.1,hr]
  exact trodAll_mk1 (shut_bool ht true)
 ·
  rw[hfn.2.1]
  exact hargs
 ·
  rw[hfn.2.2,hv]
  rfl
end
namespace Aw
def G0 (W:World):Cx:={base:=0,w0:=W,w:=W,mu:=fun _=>none,St:=fun b _=>b<W.heap.size}
section
variable {H:Type}{enc:TypeId × Value→H}{w:World}{base:Nat}{sp:Nat→Bool}{held:Bool}
def Rc (w:World)(cs:List Value)(l:List AV):Prop:=cs.length=l.length∧(∀c∈l,c.one=true)∧ ∀ (j:Nat) v c,cs[j]?=some v→l[j]?=some c→Rep (G0 w) v c
theorem zrs:Rc w [] []:=⟨rfl,by simp,fun j v c h=>by simp at h⟩
theorem zfk {v:Value}{a:AV}{cs:List Value}{l:List AV}(h1:Rep (G0 w) v a)(h2:a.one=true)(h:Rc w cs l):Rc w (v::cs) (a::l):=
 ⟨by simp[h.1],fun c hc=>by
  rcases List.mem_cons.1 hc with rfl|hc
  ·
   exact h2
  ·
   exact h.2.1 c hc,fun j u c hu hc=>by
  cases j with
  |zero=>simp at hu hc;subst hu hc;exact h1
  |succ j=>simp at hu hc;exact h.2.2 j u c hu hc⟩
theorem z5q {vs:Array Value}{l:List AV}(h:Rc w vs.toList l):Rep (G0 w) (.agg vs) (.agg l):=
 .agg vs l (by simpa using h.1) h.2.1 (fun j v c hv hc=>h.2.2 j v c (by simpa using hv) hc)
theorem zwp (b off j:Nat):(⟨b,off,none⟩:Addr).add j=⟨b,off+j,none⟩:=by unfold Addr.add;split<;>simp_all
theorem zji {t e:TypeId}{β:Type}{f:β→AV}{size:Nat}(ht:Tryz.prog.underlying t=some (.slice e))(hc:Tryz.prog.cellsOf e=size)(hpos:0<size)(hen: ∀b,(f b).cells.length=size)
  (hel: ∀fuel cs (x:DataW H × List MemPlace),DataW.trod enc Tryz.prog w base sp held fuel e cs=some x→ ∃b,Rc w cs (f b).cells)
  {fuel:Nat} {cs:List Value} {x:DataW H × List MemPlace} (h:DataW.trod enc Tryz.prog w base sp held fuel t cs=some x): ∃ (v:Value) (l:List β),cs=[v]∧Rep (G0 w) v (eL f l):=by
 rcases DataW.trod_slice ht h with ⟨rfl,_⟩|⟨a,len,cap,elems,rest,n,_,rfl,_,hb,hl,hm,hlen,helem,_⟩
 ·
  exact⟨_,[],rfl, .slnil none 0⟩
 ·
  rw[hc] at helem
  have hx: ∀i:Fin len, ∃p:List Value × β,w.cells? base (a.add (i*size)) size=some p.1∧Rc w p.1 (f p.2).cells:=by
   intro i
   have h1:=helem i i.2
   have hi:(i:Nat)<elems.length:=by rw[hlen];exact i.2
   rw[List.getElem?_eq_getElem hi,Option.bind_eq_some_iff] at h1
   obtain⟨cs',h2,h3⟩:=h1
   obtain⟨y,hy⟩:=hel _ _ _ h3
   exact⟨(cs',y),h2,hy⟩
  obtain⟨g,hg⟩: ∃g:Fin len→List Value × β, ∀i:Fin len,w.cells? base (a.add ((i:Nat)*size)) size=some (g i).1∧Rc w (g i).1 (f (g i).2).cells:=⟨fun i=>Classical.choose (hx i),fun i=>Classical.choose_spec (hx i)⟩
  rcases Nat.eq_zero_or_pos len with h0|hn
  ·
   subst h0
   exact⟨_,[],rfl, .slnil _ _⟩
  ·
   have hspot:a.spot=none:=by
    have h1:=World.cells?_some (hg ⟨0,hn⟩).1
    have h2:=h1.2.2 0 hpos
    have h3:((a.add (0*size)).add 0)=a:=by simp[Addr.add]
    rw[List.getElem?_eq_getElem (by rw[h1.2.1];exact hpos)] at h2
    have h4:=World.cell?_spot h2
    simpa[Addr.add] using h4
   obtain⟨b,off,s⟩:=a
   simp only at hspot
   subst hspot
   refine⟨_,List.ofFn (fun i=>(g i).2),rfl,?_⟩
   have hlf:((List.ofFn fun i=>(g i).2).map f).length=len:=by simp
   have hel2: ∀ (k:Nat) e,((List.ofFn fun i=>(g i).2).map f)[k]?=some e→ ∃hk:k<len,e=f (g ⟨k,hk⟩).2:=by
    intro k e hk
    have hkl:k<len:=by have:=(List.getElem?_eq_some_iff.1 hk).1;rwa [hlf] at this
    refine⟨hkl,?_⟩
    rw[List.getElem?_map,List.getElem?_ofFn] at hk
    simp[hkl] at hk
    exact hk.symm
   have key: ∀ (k:Nat) e (j:Nat) c,((List.ofFn fun i=>(g i).2).map f)[k]?=some e→e.cells[j]?=some c→ ∃u,w.cell? ⟨b,off+k*size+j,none⟩=some u∧Rep (G0 w) u c:=by
    intro k e j c hk hc'
    obtain⟨hkl,rfl⟩:=hel2 k e hk
    obtain⟨q1,q2,q3⟩:=(hg ⟨k,hkl⟩).2
    have hcs:=World.cells?_some (hg ⟨k,hkl⟩).1
    have hj:j<size:=by rw[←hen (g ⟨k,hkl⟩).2];exact(List.getElem?_eq_some_iff.1 hc').1
    have hj2:j<(g ⟨k,hkl⟩).1.length:=by rw[hcs.2.1];exact hj
    have h5:=hcs.2.2 j hj
    rw[List.getElem?_eq_getElem hj2] at h5
    rw[zwp,zwp] at h5
    exact⟨(g ⟨k,hkl⟩).1[j],h5,q3 j _ c (List.getElem?_eq_getElem hj2) hc'⟩
   have hR:=Rep.sl (G:=G0 w) b off cap size ((List.ofFn fun i=>(g i).2).map f) (fun k j=>(w.cell? ⟨b,off+k*size+j,none⟩).getD undef) (by rw[hlf];exact hl) (by rw[hlf];exact Nat.le_trans hl hm) (fun k e hk=>by
     obtain⟨hkl,rfl⟩:=hel2 k e hk
     exact⟨hen _,(hg ⟨k,hkl⟩).2.2.1⟩) (fun k e j c hk hc'=>by
     obtain⟨u,h6,_⟩:=key k e j c hk hc'
     exact⟨World.block_lt_of_cell? _ _ h6,by show w.cell? _=_;rw[h6];rfl⟩) (fun k e j c hk hc'=>by
     obtain⟨u,h6,h7⟩:=key k e j c hk hc'
     rw[h6];exact h7)
   rw[hlf] at hR
   exact hR
theorem zzt {fuel:Nat}{cs:List Value}{x:DataW H × List MemPlace}(h:DataW.trod enc Tryz.prog w base sp held fuel 3 cs=some x): ∃n:Int,Rc w cs (eI n).cells:=by
 obtain⟨n,rfl,_⟩:=DataW.trod_int Tryz.underlying3 h
 exact⟨n,zfk (.s _) rfl zrs⟩
theorem zo9 {fuel:Nat}{cs:List Value}{x:DataW H × List MemPlace}(h:DataW.trod enc Tryz.prog w base sp held fuel 38 cs=some x): ∃ (v:Value) (l:List Int),cs=[v]∧Rep (G0 w) v (eL eI l):=
 zji (size:=1) Tryz.underlying38 (by kernel_rfl) xe (fun _=>rfl) (fun fuel cs x h=>zzt h) h
theorem zzr {fuel:Nat}{cs:List Value}{x:DataW H × List MemPlace}(h:DataW.trod enc Tryz.prog w base sp held fuel 9 cs=some x): ∃n:ByteArray,Rc w cs (eS n).cells:=by
 obtain⟨n,rfl,_⟩:=DataW.trod_string Tryz.underlying9 h
 exact⟨n,zfk (.s _) rfl zrs⟩
theorem zw7 {fuel:Nat}{cs:List Value}{x:DataW H × List MemPlace}(h:DataW.trod enc Tryz.prog w base sp held fuel 25 cs=some x): ∃ (v:Value) (l:List ByteArray),cs=[v]∧Rep (G0 w) v (eL eS l):=
 zji (size:=1) Tryz.underlying25 (by kernel_rfl) xe (fun _=>rfl) (fun fuel cs x h=>zzr h) h
set_option maxRecDepth 100000 in
theorem z3g {fuel:Nat}{cs:List Value}{x:DataW H × List MemPlace}(h:DataW.trod enc Tryz.prog w base sp held fuel 76 cs=some x): ∃t:Tr,Rc w cs (eT t).cells:=by
 obtain⟨xs,n,_,_,hlen,hl,hg⟩:=DataW.trod_struct Tryz.underlying76 h
 have hc:Tryz.prog.cellsOf 76=3:=by kernel_rfl
 have h1:Tryz.prog.cellsOf 9=1:=by kernel_rfl
 have h2:Tryz.prog.cellsOf 38=1:=by kernel_rfl
 match cs,hlen.trans hc,xs,hl with
 |[c0,c1,c2],_,[x0,x1,x2],_=>
  have g0:=hg 0 _ J
  have g1:=hg 1 _ J
  have g2:=hg 2 _ J
  simp[h1,h2] at g0 g1 g2
  obtain⟨b,e0,_⟩:=DataW.trod_string Tryz.underlying9 g0
  obtain⟨v1,l1,e1,r1⟩:=zo9 g1
  obtain⟨v2,l2,e2,r2⟩:=zo9 g2
  injection e0 with e0
  injection e1 with e1
  injection e2 with e2
  subst e0 e1 e2
  exact⟨⟨b,l1,l2⟩,zfk (.s _) rfl (zfk r1 J (zfk r2 J zrs))⟩
theorem zzq {fuel:Nat}{cs:List Value}{x:DataW H × List MemPlace}(h:DataW.trod enc Tryz.prog w base sp held fuel 22 cs=some x): ∃ (v:Value) (l:List Tr),cs=[v]∧Rep (G0 w) v (eL eT l):=
 zji (size:=3) Tryz.underlying22 (by kernel_rfl) xe (fun _=>rfl) (fun fuel cs x h=>z3g h) h
set_option maxRecDepth 100000 in
theorem zzs {fuel:Nat}{cs:List Value}{x:DataW H × List MemPlace}(h:DataW.trod enc Tryz.prog w base sp held fuel 24 cs=some x): ∃n:Net,Rc w cs (eN n).cells:=by
 obtain⟨xs,n,_,_,hlen,hl,hg⟩:=DataW.trod_struct Tryz.underlying24 h
 have hc:Tryz.prog.cellsOf 24=4:=by kernel_rfl
 have h1:Tryz.prog.cellsOf 3=1:=by kernel_rfl
 have h2:Tryz.prog.cellsOf 22=1:=by kernel_rfl
 match cs,hlen.trans hc,xs,hl with
 |[c0,c1,c2,c3],_,[x0,x1,x2,x3],_=>
  have g0:=hg 0 _ J
  have g1:=hg 1 _ J
  have g2:=hg 2 _ J
  have g3:=hg 3 _ J
  simp[h1,h2] at g0 g1 g2 g3
  obtain⟨a,e0,_⟩:=DataW.trod_int Tryz.underlying3 g0
  obtain⟨v1,l1,e1,r1⟩:=zzq g1
  obtain⟨b,e2,_⟩:=DataW.trod_int Tryz.underlying3 g2
  obtain⟨c,e3,_⟩:=DataW.trod_int Tryz.underlying3 g3
  injection e0 with e0
  injection e1 with e1
  injection e2 with e2
  injection e3 with e3
  subst e0 e1 e2 e3
  exact⟨⟨a,l1,b,c⟩,zfk (.s _) rfl (zfk r1 J (zfk (.s _) rfl (zfk (.s _) rfl zrs)))⟩
variable {b0:Nat}{r:Reach}{v:Value}{d:DataW H}{p:List MemPlace}
set_option maxRecDepth 100000 in
theorem open_net (hv:Value.okWide Tryz.prog w r b0 24 v)(h:DataW.Trod enc Tryz.prog w base sp held 24 v d p): ∃q:Net,Rep (G0 w) v (eN q):=by
 obtain⟨cs,rfl,hsz⟩:=okWide_struct Tryz.underlying24 hv
 obtain⟨fuel,hf⟩:=h
 obtain⟨q,ha⟩:=zzs hf
 exact⟨q,z5q (vs:=cs) ha⟩
set_option maxRecDepth 100000 in
theorem open_strs (hv:Value.okWide Tryz.prog w r b0 25 v)(h:DataW.Trod enc Tryz.prog w base sp held 25 v d p): ∃l:List ByteArray,Rep (G0 w) v (eL eS l):=by
 obtain⟨a,n,c,rfl⟩:=okWide_slice Tryz.underlying25 hv
 obtain⟨fuel,hf⟩:=h
 obtain⟨v',l,ha,hr⟩:=zw7 hf
 simp[Value.cells] at ha
 subst ha
 exact⟨l,hr⟩
set_option maxRecDepth 100000 in
theorem open_int (hv:Value.okWide Tryz.prog w r b0 3 v)(h:DataW.Trod enc Tryz.prog w base sp held 3 v d p): ∃n:Int,Rep (G0 w) v (eI n):=by
 obtain⟨n,rfl⟩:=okWide_int Tryz.underlying3 hv
 exact⟨n, .s _⟩
end
end Aw
end Go.Proofs.YtjdpnadhgjohnaaGreatDoor
end
