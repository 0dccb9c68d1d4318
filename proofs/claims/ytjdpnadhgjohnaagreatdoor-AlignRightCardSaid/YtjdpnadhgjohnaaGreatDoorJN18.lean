import Derived.Test.YtjdpnadhgjohnaaGreatDoorJN0
import Derived.Test.YtjdpnadhgjohnaaGreatDoorJN16
import Derived.StringKeys
import Derived.Maps.Keyed
import Derived.Carry
set_option linter.unusedSimpArgs false
set_option linter.unusedVariables false
set_option linter.unusedSectionVars false
namespace Go.Proofs.YtjdpnadhgjohnaaGreatDoor
namespace Aw
open Go Go.Proofs Go.RowKit Go.Maps Go.WideMaps
def zs8 (P:Program)(t:TypeId):Option (TypeId × TypeId):=match P.underlying t with|some (.map k e)=>some (k,e)|_=>none
theorem zz9 {P:Program}{t k e:TypeId}(h:zs8 P t=some (k,e)):P.underlying t=some (.map k e):=by
 unfold zs8 at h
 split at h
 ·
  rename_i h1;cases h;exact h1
 ·
  cases h
def zyb:Lit→Value
 | .int q a=> .int q a
 | .bool b=> .bool b
 | .string l=> .string ⟨l.toArray⟩
 |_=>undef
theorem zm6 {P:Program}{e:TypeId}{v:Value}{l:Lit}{ps:List MemPlace}(h:plainElem (H:=Unit) P e v=some (.lit l,ps)):v=zyb l:=by
 unfold plainElem at h
 split at h
 ·
  simp at h;obtain⟨rfl,_⟩:=h;rfl
 ·
  split at h
  ·
   rename_i hq
   simp at h;obtain⟨rfl,_⟩:=h
   rw[hq.1];rfl
  ·
   cases h
 ·
  split at h
  ·
   simp at h;obtain⟨rfl,_⟩:=h
   simp[zyb]
  ·
   cases h
 ·
  cases h
section
variable {P:Program}{o:Oper}{F:Frm}{σ:List Ob}{G:Cx}
theorem z7t (hr:Rel G σ)(Q:Program)(kt el:TypeId):G.Ext (G.new σ.length (G.w.alloc (.map #[] 0)) (some G.w.heap.size))∧Rel (G.new σ.length (G.w.alloc (.map #[] 0)) (some G.w.heap.size)) (σ++[.mp ⟨Q,kt,el,0, .map []⟩]):=by
 have hold: ∀k,k<G.w.heap.size→(G.w.alloc (.map #[] 0)).heap[k]?=G.w.heap[k]?:=fun k hk=>heap_alloc_old (r:=k) G.w _ hk
 have hext:G.Ext (G.new σ.length (G.w.alloc (.map #[] 0)) (some G.w.heap.size)):=by
  refine⟨rfl,rfl,fun _ _ h=>h,fun b o h=>World.cell?_of_block (hold b (hr.st b o h)),fun id x h=>?_,by simp[Cx.new],fun b cur t f h=>⟨cur,?_,rfl⟩,fun _ _ h=> .inl h,rfl,fun _ _ h=> .inl h,fun k o h _=>(hold k (Array.getElem?_eq_some_iff.1 h).1).trans h⟩
  ·
   have:id≠σ.length:=by
    intro e2
    rw[e2,hr.fresh _ (Nat.le_refl _)] at h
    cases h
   simp[Cx.new,this,h]
  ·
   exact(hold b (Array.getElem?_eq_some_iff.1 h).1).trans h
 have hble:G.base≤G.w.heap.size:=by have h1:=hr.le;have h2:=hr.below.size;omega
 refine⟨hext,hr.below.alloc hble _,hr.le,fun b o hb=>?_,fun id ob hob=>?_,fun i j b hi hj hmi hmj=>?_,fun id hid=>?_⟩
 ·
  have:=hr.st b o hb
  simp only[Cx.new,World.size_alloc];omega
 ·
  by_cases hid:id<σ.length
  ·
   rw[List.getElem?_append_left hid] at hob
   have h1:=hr.obs id ob hob
   have hne:id≠σ.length:=by omega
   have hm:(G.new σ.length (G.w.alloc (.map #[] 0)) (some G.w.heap.size)).mu id=G.mu id:=by simp[Cx.new,hne]
   refine h1.of hm J J (by simp[Cx.new]) (fun b sz cs f _ _ hx=>?_) (fun b X hb hX _=>⟨hold b hX.lt,fun j hj=>?_⟩)
   ·
    obtain⟨cur,t,fr,h2,h3,h4,h5⟩:=hx
    refine⟨cur,t,fr,(hold b (Array.getElem?_eq_some_iff.1 h2).1).trans h2,h3,h4,fun k x hx=>⟨(h5 k x hx).1,(h5 k x hx).2.1,fun j c hc=>?_⟩⟩
    obtain⟨v,h6,h7⟩:=(h5 k x hx).2.2 j c hc
    exact⟨v,h6,h7.ext hext⟩
   ·
    by_cases e2:j=σ.length
    ·
     subst e2
     have:=hX.lt
     simp[Cx.new] at hj
     omega
    ·
     simpa[Cx.new,e2] using hj
  ·
   have hid2:id=σ.length:=by
    have:=(List.getElem?_eq_some_iff.1 hob).1
    simp at this;omega
   subst hid2
   simp at hob
   subst hob
   refine⟨G.w.heap.size,by simp[Cx.new],World.ownsMap_made _ _ _ _,hble,fun o ho=>?_,fun j hj=>?_⟩
   ·
    have:=hr.st _ _ ho
    omega
   ·
    by_cases e2:j=σ.length
    ·
     exact e2
    ·
     exfalso
     have hj2:G.mu j=some (some G.w.heap.size):=by simpa[Cx.new,e2] using hj
     -- a name of a block that is not there yet
     by_cases hlt:j<σ.length
     ·
      obtain⟨ob,hob⟩: ∃ob,σ[j]?=some ob:=⟨_,List.getElem?_eq_getElem hlt⟩
      have:=(hr.obs j ob hob).lt hj2
      omega
     ·
      rw[hr.fresh j xa] at hj2;cases hj2
 ·
  have old: ∀i b,zed (σ++[.mp ⟨Q,kt,el,0, .map []⟩]) i→(G.new σ.length (G.w.alloc (.map #[] 0)) (some G.w.heap.size)).mu i=some (some b)→zed σ i∧G.mu i=some (some b):=by
   rintro i b ⟨sz1,cs1,hi⟩ hm
   by_cases hlt:i<σ.length
   ·
    rw[List.getElem?_append_left hlt] at hi
    exact⟨⟨sz1,cs1,hi⟩,by simpa[Cx.new,Nat.ne_of_lt hlt] using hm⟩
   ·
    have:=(List.getElem?_eq_some_iff.1 hi).1
    simp at this
    have he:i=σ.length:=by omega
    subst he
    simp at hi
  exact hr.inj i j b (old i b hi hmi).1 (old j b hj hmj).1 (old i b hi hmi).2 (old j b hj hmj).2
 ·
  simp at hid
  have hne:id≠σ.length:=by omega
  simp[Cx.new,hne,hr.fresh id xa]
theorem z7s {id b:Nat}{X X':MapX}{w':World}(hr:Rel G σ)(hs:σ[id]?=some (.mp X))(hm:G.mu id=some (some b))(hg:G.w.grownBy w' (some b))(hX:X'.At w' b):G.Ext {G with w:=w'}∧Rel {G with w:=w'} (σ.set id (.mp X')):=by
 have hid:id<σ.length:=(List.getElem?_eq_some_iff.1 hs).1
 obtain⟨b0,h1,h2,h3,h4,h5⟩:=hr.obs id _ hs
 rw[hm] at h1
 cases h1
 obtain⟨es,cl,hmap⟩:=h2.map
 have hold: ∀k,k<G.w.heap.size→k≠b→w'.heap[k]?=G.w.heap[k]?:=fun k hk hne=>hg.block k hk (fun e=>hne (by injection e))
 have hcells: ∀ (k:Nat) (cur:Array Value) (t:TypeId) (f:Nat × Nat),G.w.heap[k]?=some (.cells cur t f)→w'.heap[k]?=some (.cells cur t f):=fun k cur t f h=>by
  rw[hold k (Array.getElem?_eq_some_iff.1 h).1 (fun e=>by subst e;rw[hmap] at h;cases h)]
  exact h
 have hext:G.Ext {G with w:=w'}:=by
  refine⟨rfl,rfl,fun _ _ h=>h,fun k o h=>World.cell?_of_block (hold k (hr.st k o h) (fun e=>h4 o (e▸h))),fun _ _ h=>h,hg.size,fun k cur t f h=>⟨cur,hcells k cur t f h,rfl⟩,fun _ _ h=> .inl h,rfl,fun _ _ h=> .inl h,fun k o h hst=>(hold k (Array.getElem?_eq_some_iff.1 h).1 (fun e=>by subst e;rw[hmap] at h;cases h;cases hst)).trans h⟩
 have hble:G.base≤G.w.heap.size:=by have h1:=hr.le;have h2:=hr.below.size;omega
 refine⟨hext,hr.below.trans ⟨hg.os,hg.tape,hg.output,hg.size,fun k hk=>hold k xa xa⟩,hr.le,fun k o h=>Nat.lt_of_lt_of_le (hr.st k o h) hg.size,fun i ob hob=>?_,fun i j k hi hj hmi hmj=>?_,fun i hi=>hr.fresh i (by simpa using hi)⟩
 ·
  by_cases hi:id=i
  ·
   subst hi
   rw[List.getElem?_set_self hid] at hob
   cases hob
   exact⟨b,hm,hX,h3,h4,h5⟩
  ·
   rw[List.getElem?_set_ne hi] at hob
   refine(hr.obs i ob hob).of rfl J J hg.size (fun k sz cs f _ _ hx=>?_) (fun k Y hk hY _=>⟨hold k hY.lt (fun e=>?_),fun j hj=>hj⟩)
   ·
    obtain⟨cur,t,fr,g2,g3,g4,g5⟩:=hx
    refine⟨cur,t,fr,hcells k cur t fr g2,g3,g4,fun q x hx=>⟨(g5 q x hx).1,(g5 q x hx).2.1,fun j c hc=>?_⟩⟩
    obtain⟨v,h6,h7⟩:=(g5 q x hx).2.2 j c hc
    exact⟨v,h6,h7.ext hext⟩
   ·
    subst e
    exact hi (h5 i hk).symm
 ·
  have old: ∀i,zed (σ.set id (.mp X')) i→zed σ i:=by
   rintro i ⟨sz1,cs1,hi⟩
   by_cases h2:id=i
   ·
    subst h2;rw[List.getElem?_set_self hid] at hi;cases hi
   ·
    rw[List.getElem?_set_ne h2] at hi;exact⟨sz1,cs1,hi⟩
  exact hr.inj i j k (old i hi) (old j hj) hmi hmj
theorem zlf {t kt el:TypeId}(ho:o.op= .makeMap t none)(ht:zs8 P t=some (kt,el)):Does P o F σ (.mp σ.length) (σ++[.mp ⟨P,kt,el,0, .map []⟩]):=
 zfr (x:= .any) fun G ρ hr hop=>by
  obtain⟨h1,h2⟩:=z7t hr P kt el
  refine⟨.map (some G.w.heap.size),_,?_,h1,h2, .mp _ _ (by simp[Cx.new])⟩
  simp only[execOp,ho,Option.map_none,Sem.run_bind,run_makeMap,Result.andThen_ok,Sem.run_pure,Cx.new]
theorem zhi {t kt el:TypeId}{m x y:Operand}{id:Nat}{X:MapX}{key val:Value}{kl dl:Lit}(ho:o.op= .mapUpdate t m x y∨o.op= .insert t m x y)(ht:zs8 P t=some (kt,el))(K:Keyed P kt)(hm:F.eval m= .mp id)(hs:σ[id]?=some (.mp X))(hX:X.P=P∧X.kt=kt∧X.el=el)(hn:X.n<maxLen)
  (hx:F.eval x= .s key) (hy:F.eval y= .s val) (hkey:keyOf P kt key=some kl) (hv:plainElem (H:=Unit) P el val=some (.lit dl,[])):Does P o F σ .any (σ.set id (.mp {X with n:=X.n+1,D:=X.D.put kl (.lit dl)})):=
 zwc fun G ρ hr hop=>by
  have g1:=hop m (by rcases ho with ho|ho<;>simp[ho,Op.operands])
  have g2:=hop x (by rcases ho with ho|ho<;>simp[ho,Op.operands])
  have g3:=hop y (by rcases ho with ho|ho<;>simp[ho,Op.operands])
  rw[hm] at g1
  rw[hx] at g2
  rw[hy] at g3
  have e2:=zc5 g2
  have e3:=zc5 g3
  generalize hu:ρ m=u at g1
  cases g1 with
  |mp _ b hmu=>
   obtain⟨b0,h1,h2,h3,h4,h5⟩:=hr.obs id _ hs
   rw[hmu] at h1
   cases h1
   obtain⟨XP,Xk,Xe,Xn,XD⟩:=X
   obtain⟨rfl,rfl,rfl⟩:=hX
   obtain⟨w',hrun,k1,k2⟩:=World.ownsMap.update h2 K (zz9 ht) hn hkey hv
   obtain⟨q1,q2⟩:=z7s (X':=⟨XP,Xk,Xe,Xn+1,XD.put kl (.lit dl)⟩) hr hs hmu k2 k1
   refine⟨{G with w:=w'},?_,q1,q2⟩
   rcases ho with ho|ho<;>simp[execOp,ho,hu,e2,e3,hrun,Result.andThen]
theorem zfd {t kt el:TypeId}{m x:Operand}{id:Nat}{X:MapX}{key z:Value}{kl zl rl:Lit}{n bt:Nat}(ho:o.op= .lookup t m x false)(ht:zs8 P t=some (kt,el))(K:Keyed P kt)(hm:F.eval m= .mp id)(hs:σ[id]?=some (.mp X))(hX:X.P=P∧X.kt=kt∧X.el=el)
  (hx:F.eval x= .s key) (hkey:keyOf P kt key=some kl) (hi:za6 P el=some (some z,n,bt)) (hz:plainElem (H:=Unit) P el z=some (.lit zl,[])) (hr:X.D.atKey kl (.lit zl)= .lit rl):Does P o F σ (.s (zyb rl)) σ:=
 zbc fun G ρ hrel hop=>by
  have g1:=hop m (by simp[ho,Op.operands])
  have g2:=hop x (by simp[ho,Op.operands])
  rw[hm] at g1
  rw[hx] at g2
  have e2:=zc5 g2
  generalize hu:ρ m=u at g1
  cases g1 with
  |mp _ b hmu=>
   obtain⟨b0,h1,h2,h3,h4,h5⟩:=hrel.obs id _ hs
   rw[hmu] at h1
   cases h1
   obtain⟨XP,Xk,Xe,Xn,XD⟩:=X
   obtain⟨rfl,rfl,rfl⟩:=hX
   obtain⟨i,k1,k2,k3,k4⟩:=zgq hi
   have hzero:(zeroValue Xe).run XP G.w= .ok z G.w:=by simp[zeroValue,typeInfo,k1,k2]
   obtain⟨v,ps,hrun,hv⟩:=World.ownsMap.lookup h2 K (zz9 ht) hzero hz hkey
   have hr':XD.atKey kl (.lit zl)= .lit rl:=hr
   rw[hr'] at hv
   have:=zm6 hv
   subst this
   refine⟨_,?_, .s _⟩
   simp[execOp,ho,hu,e2,hrun,Result.andThen]
end
end Aw
namespace Aw
open Go Go.Proofs Go.RowKit
structure PureO (P:Program)(f:FuncId)(args:List AV)(sz:Nat)(cs:List AV):Prop where
 ent:zok P f
 call: ∀ (G:Cx) (vargs:Array Value),StT G.St G.w→vargs.size=args.length→(∀ (j:Nat) v x,vargs[j]?=some v→args[j]?=some x→Rep G v x)→
  Calls P f vargs G.w fun e w'=> ∃v,e= .returned v∧Below G.w.heap.size G.w w'∧((v= .slice none 0 0∧cs=[])∨ ∃ (b cap:Nat) (cur:Array Value) (te:TypeId),v= .slice (some ⟨b,0,none⟩) cs.length cap∧G.w.heap.size≤b∧w'.heap[b]?=some (.cells cur te (0,0))∧cur.size=cap*sz∧cs.length≤cap∧cap≤maxLen∧
   ∀ (k:Nat) e,cs[k]?=some e→e.cells.length=sz∧ ∀ (j:Nat) c,e.cells[j]?=some c→ ∃u,cur[k*sz+j]?=some u∧c= .s u∧u.oneCell'=true)
section
variable {P:Program}{o:Oper}{F:Frm}{σ:List Ob}{G:Cx}
theorem adopt {b sz:Nat}{cs:List AV}{cur:Array Value}{te:TypeId}(hr:Rel G σ)(hb:G.w.heap[b]?=some (.cells cur te (0,0)))(hbase:G.base≤b)(hst: ∀o, ¬G.SP b o)(hmu: ∀j,G.mu j≠some (some b))(hn:cs.length*sz≤cur.size)
  (h: ∀ (k:Nat) x,cs[k]?=some x→x.cells.length=sz∧(∀c∈x.cells,c.one=true)∧ ∀ (j:Nat) c,x.cells[j]?=some c→ ∃v,cur[k*sz+j]?=some v∧Rep G v c):
  G.Ext (G.new σ.length G.w (some b))∧Rel (G.new σ.length G.w (some b)) (σ++[.row sz cs]):=by
 have hext:G.Ext (G.new σ.length G.w (some b)):=by
  refine⟨rfl,rfl,fun _ _ h=>h,fun _ _ _=>rfl,fun id x h=>?_,Nat.le_refl _,zce.refl _,fun _ _ h=> .inl h,rfl,fun _ _ h=> .inl h,fun _ _ h _=>h⟩
  have:id≠σ.length:=by
   intro e2
   rw[e2,hr.fresh _ (Nat.le_refl _)] at h
   cases h
  simp[Cx.new,this,h]
 refine⟨hext,hr.below,hr.le,hr.st,fun id ob hob=>?_,fun i j b' hi hj hmi hmj=>?_,fun id hid=>?_⟩
 ·
  by_cases hid:id<σ.length
  ·
   rw[List.getElem?_append_left hid] at hob
   have h1:=hr.obs id ob hob
   have hm:(G.new σ.length G.w (some b)).mu id=G.mu id:=by simp[Cx.new,Nat.ne_of_lt hid]
   exact h1.of hm J J (Nat.le_refl _) (fun b sz cs f _ _ hx=>hx.ext hext J) (fun b' X hb' hX _=>⟨rfl,fun j hj=>by
    by_cases e2:j=σ.length
    ·
     subst e2
     simp[Cx.new] at hj
     subst hj
     obtain⟨es,cl,h5⟩:=hX.map
     rw[hb] at h5;cases h5
    ·
     simpa[Cx.new,e2] using hj⟩)
  ·
   have hid2:id=σ.length:=by
    have:=(List.getElem?_eq_some_iff.1 hob).1
    simp at this;omega
   subst hid2
   simp at hob
   subst hob
   have hm3:(G.new σ.length G.w (some b)).mu σ.length=some (some b):=by simp[Cx.new]
   simp only[ObOk,hm3]
   refine⟨⟨cur,te,(0,0),hb,rfl,hn,fun k x hx=>⟨(h k x hx).1,(h k x hx).2.1,fun j c hc=>?_⟩⟩,hbase,hst⟩
   obtain⟨v,h6,h7⟩:=(h k x hx).2.2 j c hc
   exact⟨v,h6,h7.ext hext⟩
 ·
  have old: ∀i b',zed (σ++[.row sz cs]) i→(G.new σ.length G.w (some b)).mu i=some (some b')→(i=σ.length∧b=b')∨(i<σ.length∧zed σ i∧G.mu i=some (some b')):=by
   rintro i b' ⟨sz1,cs1,hi⟩ hmi
   by_cases hlt:i<σ.length
   ·
    right
    rw[List.getElem?_append_left hlt] at hi
    exact⟨hlt,⟨sz1,cs1,hi⟩,by simpa[Cx.new,Nat.ne_of_lt hlt] using hmi⟩
   ·
    left
    have:=(List.getElem?_eq_some_iff.1 hi).1
    simp at this
    have he:i=σ.length:=by omega
    subst he
    simp[Cx.new] at hmi
    exact⟨rfl,hmi⟩
  rcases old i b' hi hmi with ⟨rfl,h1⟩|⟨h1,h3,h4⟩<;>rcases old j b' hj hmj with ⟨rfl,g1⟩|⟨g1,g3,g4⟩
  ·
   rfl
  ·
   exact absurd (h1▸g4) (hmu j)
  ·
   exact absurd (g1▸h4) (hmu i)
  ·
   exact hr.inj i j b' h3 g3 h4 g4
 ·
  simp at hid
  have hne:id≠σ.length:=by omega
  simp[Cx.new,hne,hr.fresh id xa]
theorem zlg {fo:Operand}{ar:Array Operand}{ts:Array TypeId}{f:FuncId}{caps args:List AV}{sz:Nat}{cs:List AV}(ho:o.op= .call {callee:= .value fo,args:=ar,argTypes:=ts})(hf:F.eval fo= .fn f caps)(hp:PureO P f args sz cs)(ha:ar.toList.map F.eval++caps=args):Does P o F σ (.own σ.length sz cs.length) (σ++[.row sz cs]):=by
 intro G a next Q hr hop hn
 obtain⟨cap,h1,h2,h3⟩:=zoe ho hop hf
 rw[ha] at h2 h3
 unfold Oper.wp
 rw[zli ho a.eval h1 hp.ent G.w,Oper.upon_enter]
 refine(hp.call G _ ⟨fun b o h=>hr.st b o (.inl h),hr.below.now⟩ h2 h3).mono ?_
 rintro e w' ⟨v,rfl,hbel,hres⟩
 obtain⟨h4,h5⟩:=ziw (G1:={G with w:=w'}) hr rfl hbel (fun _ _ h=>h) (fun _ _ h=> .inl h) (fun b o h=>Nat.lt_of_lt_of_le (hr.st b o (.inl h)) hbel.size)
 rcases hres with ⟨rfl,rfl⟩|⟨b,cp,cur,te,rfl,g1,g2,g3,g4,g5,g6⟩
 ·
  have k1:=zh2 h5
  have k2:=zjj h5 sz
  exact hn _ _ (h4.trans k1) k2 (.own0 σ.length sz none (fun a ha=>by cases ha) (by simp[Cx.new]))
 ·
  have hble:G.base≤G.w.heap.size:=by have h1:=hr.le;have h2:=hr.below.size;omega
  have hnm: ∀j,G.mu j≠some (some b):=fun j hj=>by
   by_cases hlt:j<σ.length
   ·
    have:=(hr.obs j _ (List.getElem?_eq_getElem hlt)).lt hj
    omega
   ·
    rw[hr.fresh j xa] at hj;cases hj
  obtain⟨k1,k2⟩:=adopt (cs:=cs) (sz:=sz) h5 g2 (Nat.le_trans hble g1) (fun o h=>by have:=hr.st b o h;omega) hnm (by rw[g3];exact Nat.mul_le_mul_right _ g4) (fun k x hx=>by
   obtain⟨q1,q2⟩:=g6 k x hx
   refine⟨q1,fun c hc=>?_,fun j c hc=>?_⟩
   ·
    obtain⟨j,hj,rfl⟩:=List.mem_iff_getElem.1 hc
    obtain⟨u,_,e1,e2⟩:=q2 j _ (List.getElem?_eq_getElem hj)
    rw[e1];exact e2
   ·
    obtain⟨u,e0,e1,e2⟩:=q2 j c hc
    subst e1
    exact⟨u,e0, .s u⟩)
  exact hn _ _ (h4.trans k1) k2 (.own σ.length sz cs.length b cp (by simp[Cx.new]) g4 g5 ⟨cur,te,(0,0),g2,g3⟩)
theorem zkx {A:Option Addr}{cap l h s:Nat}{L:List AV}(hr:Rep G (.slice A L.length cap) (.sl L))(hlh:l≤h)(hh:h≤L.length)(hs: ∀e∈L,e.cells.length=s):Rep G (sliced A l h cap s) (.sl ((L.take h).drop l)):=by
 have hlen:((L.take h).drop l).length=h-l:=by simp;omega
 generalize hn:L.length=n at hr
 cases hr with
 |slnil=>
  simp at hn hh
  obtain rfl:l=0:=by omega
  subst hh
  simp only[sliced,List.take_nil,List.drop_nil]
  exact .slnil _ _
 | sl b o _ sz _ val hc hm h1 h2 h3=>
  by_cases hml:cap=l
  ·
   have e:h=l:=by omega
   subst e
   have:(L.take h).drop h=[]:=List.eq_nil_of_length_eq_zero (by rw[hlen];omega)
   rw[this]
   simp only[sliced,Nat.sub_self]
   exact .slnil _ _
  ·
   by_cases he:h=l
   ·
    subst he
    have:(L.take h).drop h=[]:=List.eq_nil_of_length_eq_zero (by rw[hlen];omega)
    rw[this]
    simp only[sliced,Nat.sub_self]
    exact .slnil _ _
   ·
    have hsz:s=sz:=by
     have h0:0<L.length:=by omega
     rw[← (h1 0 _ (List.getElem?_eq_getElem h0)).1,hs _ (List.getElem_mem h0)]
    subst hsz
    have hget: ∀ (k:Nat) e,((L.take h).drop l)[k]?=some e→L[k+l]?=some e:=by
     intro k e hk
     rw[List.getElem?_drop,List.getElem?_take] at hk
     split at hk
     ·
      rw[Nat.add_comm];exact hk
     ·
      cases hk
    have hidx: ∀k j,o+l*s+k*s+j=o+(k+l)*s+j:=fun k j=>by rw[Nat.add_mul];omega
    simp only[sliced,if_neg hml,Option.map_some]
    have:=Rep.sl (G:=G) b (o+l*s) (cap-l) s ((L.take h).drop l) (fun k j=>val (k+l) j) (by rw[hlen];omega) (by rw[hlen];omega) (fun k e hk=>h1 _ e (hget k e hk)) (fun k e j c hk hc=>by rw[hidx];exact h2 _ e j c (hget k e hk) hc) (fun k e j c hk hc=>h3 _ e j c (hget k e hk) hc)
    rw[hlen] at this
    simp only[Addr.add]
    split
    ·
     rename_i h0
     rw[h0,Nat.add_zero] at this
     exact this
    ·
     exact this
theorem zle {P:Program}{t e:TypeId}(h:za5 P t=some e):P.elem t=e∧P.underlying t=some (.slice (P.elem t)):=by
 have h1:=zea h
 have:P.elem t=e:=by simp[Program.elem,h1]
 exact⟨this,by rw[this];exact h1⟩
theorem zlw {t e:TypeId}{x y:Operand}{z:Option Value}{n bt:Nat}{L:List AV}{k:IntKind}{i:Int}{l:Nat}(ho:o.op= .slice t x (some y) none none)(ht:za5 P t=some e)(hi:za6 P e=some (z,n,bt))(hx:F.eval x= .sl L)(hy:F.eval y= .s (.int k i))(hk:i=(l:Int))(hl:l≤L.length)(hs: ∀e∈L,e.cells.length=n):Does P o F σ (.sl (L.drop l)) σ:=
 zbc fun G ρ hr hop=>by
  have g1:=hop x (by simp[ho,Op.operands])
  have g2:=hop y (by simp[ho,Op.operands])
  rw[hx] at g1
  rw[hy] at g2
  have e2:=zc5 g2
  obtain⟨q1,q2⟩:=zle ht
  obtain⟨A,cap,hv⟩: ∃A cap,ρ x= .slice A L.length cap:=by
   generalize ρ x=u at g1
   cases g1 with
   |slnil A c=>exact⟨_,_,rfl⟩
   |sl b o c sz _ val hc hm h1 h2 h=>exact⟨_,_,rfl⟩
  rw[hv] at g1
  have h1:=zkx (s:=n) g1 hl (Nat.le_refl _) hs
  rw[List.take_length] at h1
  refine⟨_,?_,h1⟩
  subst hk
  have h2:=run_slice_l (P:=P) G.w t A L.length cap q2 k (l:Int) xa xa
  simp only[execOp,ho,Option.map_some,Option.map_none,hv,e2,Sem.run_bind,run_sliceAt_slice (P:=P) G.w t _ _ _ _ q2,h2,q1,zb3 hi,Result.andThen_ok,Sem.run_pure,Int.toNat_natCast]
theorem zso {t e:TypeId}{x y:Operand}{z:Option Value}{n bt:Nat}{L:List AV}{k:IntKind}{i:Int}{h:Nat}(ho:o.op= .slice t x none (some y) none)(ht:za5 P t=some e)(hi:za6 P e=some (z,n,bt))(hx:F.eval x= .sl L)(hy:F.eval y= .s (.int k i))(hk:i=(h:Int))(hl:h≤L.length)(hs: ∀e∈L,e.cells.length=n):Does P o F σ (.sl (L.take h)) σ:=
 zbc fun G ρ hr hop=>by
  have g1:=hop x (by simp[ho,Op.operands])
  have g2:=hop y (by simp[ho,Op.operands])
  rw[hx] at g1
  rw[hy] at g2
  have e2:=zc5 g2
  obtain⟨q1,q2⟩:=zle ht
  obtain⟨A,cap,hv,hcap⟩: ∃A cap,ρ x= .slice A L.length cap∧L.length≤cap:=by
   generalize ρ x=u at g1
   cases g1 with
   |slnil A c=>exact⟨_,_,rfl,Nat.zero_le _⟩
   |sl b o c sz _ val hc hm h1 h2 h=>exact⟨_,_,rfl,hc⟩
  rw[hv] at g1
  have h1:=zkx (s:=n) g1 (Nat.zero_le h) hl hs
  rw[List.drop_zero] at h1
  refine⟨_,?_,h1⟩
  subst hk
  have h2:=run_slice_h (P:=P) G.w t A L.length cap q2 k (h:Int) xa xa
  simp only[execOp,ho,Option.map_some,Option.map_none,hv,e2,Sem.run_bind,run_sliceAt_slice (P:=P) G.w t _ _ _ _ q2,h2,q1,zb3 hi,Result.andThen_ok,Sem.run_pure,Int.toNat_natCast]
end
end Aw
namespace Aw
open Go Go.Proofs Go.RowKit
end Aw
namespace Aw
open Go.RowKit
variable [Mk]
def zkb (N:Nat)(G:Cx)(Q:Exit→Frm→List Ob→Prop):Exit→Act→World→Prop:=
 fun e a' w'=> ∃G' F' σ',G'.w=w'∧G.Ext G'∧S8 N G' a' F' σ'∧Q e F' σ'
theorem zfv {N:Nat}{G G1:Cx}(h:G.Ext G1){Q Q':Exit→Frm→List Ob→Prop}(hq: ∀e F σ,Q e F σ→Q' e F σ){e:Exit}{a:Act}{w:World}(x:zkb N G1 Q e a w):zkb N G Q' e a w:=by
 obtain⟨G',F',σ',h1,h2,h3,h4⟩:=x
 exact⟨G',F',σ',h1,h.trans h2,h3,hq _ _ _ h4⟩
def EWp (P:Program)(N:Nat)(c:Code)(F:Frm)(σ:List Ob)(Q:Exit→Frm→List Ob→Prop):Prop:=
 ∀G a,S8 N G a F σ→c.wp P (zkb N G Q) a G.w
def EOps (P:Program)(N:Nat)(ops:Array Oper)(l:List Oper)(F:Frm)(σ:List Ob)(Q:Exit→Frm→List Ob→Prop):Prop:=
 ∀G a,S8 N G a F σ→wpList P ops (zkb N G Q) l a G.w
section
variable {P:Program}{N:Nat}{F:Frm}{σ:List Ob}{Q:Exit→Frm→List Ob→Prop}
theorem za8 {x y:Code}(h:EWp P N x F σ (zfe (fun F σ=>EWp P N y F σ Q) Q)):EWp P N (.seq x y) F σ Q:=fun G a hs=>by
 refine wp_seq (Code.wp_mono (fun e a1 w1 q=>?_) (h G a hs))
 obtain⟨G',F',σ',rfl,h2,h3,h4⟩:=q
 cases e with
 |normal=>exact Code.wp_mono (fun e a w q=>zfv h2 (fun _ _ _ x=>x) q) (h4 G' a1 h3)
 |_=>exact⟨G',F',σ',rfl,h2,h3,h4⟩
theorem zc7 (h:Q .normal F σ):EWp P N .skip F σ Q:=fun G a hs=>wp_skip ⟨G,F,σ,rfl, .refl G,hs,h⟩
theorem zf5 {id:Nat}(h:Q (.exit id) F σ):EWp P N (.exit id) F σ Q:=fun G a hs=>wp_exit ⟨G,F,σ,rfl, .refl G,hs,h⟩
theorem zg2 (h:Q .ret F σ):EWp P N .ret F σ Q:=fun G a hs=>wp_ret ⟨G,F,σ,rfl, .refl G,hs,h⟩
theorem zck {id:Nat}{c:Code}(h:EWp P N c F σ (ABlk id Q)):EWp P N (.block id c) F σ Q:=fun G a hs=>by
 refine wp_block (Code.wp_mono (fun e a1 w1 q=>?_) (h G a hs))
 obtain⟨G',F',σ',rfl,h2,h3,h4⟩:=q
 cases e with
 | exit id'=>
  simp only[ABlk] at h4
  simp only[Exit.inBlock]
  split
  ·
   rename_i e;rw[if_pos e] at h4;exact⟨G',F',σ',rfl,h2,h3,h4⟩
  ·
   rename_i e;rw[if_neg e] at h4;exact⟨G',F',σ',rfl,h2,h3,h4⟩
 |_=>exact⟨G',F',σ',rfl,h2,h3,h4⟩
theorem z05 {c:Operand}{x y:Code}{b:Bool}(hc:F.eval c= .s (.bool b))(ht:b=true→EWp P N x F σ Q)(hf:b=false→EWp P N y F σ Q):EWp P N (.cond c x y) F σ Q:=fun G a hs=>
 wp_cond_split (zj2 hs.fr hc) (fun e=>ht e G a hs) (fun e=>hf e G a hs)
theorem ze2 {c:Operand}{x y:Code}(hc:F.eval c= .s (.bool true))(ht:EWp P N x F σ Q):EWp P N (.cond c x y) F σ Q:=z05 hc (fun _=>ht) (fun e=>by cases e)
theorem zd9 {c:Operand}{x y:Code}(hc:F.eval c= .s (.bool false))(ht:EWp P N y F σ Q):EWp P N (.cond c x y) F σ Q:=z05 hc (fun e=>by cases e) (fun _=>ht)
theorem z04 {c:Code}(I:Nat→Frm→List Ob→Prop)(m:Nat)(h0:I m F σ)
  (round: ∀m F σ,I m F σ→EWp P N c F σ (zfe (fun F' σ'=> ∃m',m'<m∧I m' F' σ') Q)):EWp P N (.loop c) F σ Q:=fun G a hs=>by
 refine wp_loop_ghost (fun n a w=> ∃G' F' σ',G'.w=w∧G.Ext G'∧S8 N G' a F' σ'∧I n F' σ') m ⟨G,F,σ,rfl, .refl G,hs,h0⟩ ?_
 rintro n a w ⟨G',F',σ',rfl,h2,h3,h4⟩
 refine Code.wp_mono (fun e a1 w1 q=>?_) (round n F' σ' h4 G' a h3)
 obtain⟨G2,F2,σ2,rfl,h5,h6,h7⟩:=q
 cases e with
 |normal=>obtain⟨m',hm,hi⟩:=h7;exact⟨m',hm,⟨G2,F2,σ2,rfl,h2.trans h5,h6,hi⟩⟩
 |_=>exact⟨G2,F2,σ2,rfl,h2.trans h5,h6,h7⟩
theorem zar {id:Nat}{l:List Oper}(h:EOps P N l.toArray l F σ Q):EWp P N (.region id l.toArray false) F σ Q:=fun G a hs=>wp_region_lit (h G a hs)
theorem zhh {c:Code}{Q':Exit→Frm→List Ob→Prop}(h:EWp P N c F σ Q)(hq: ∀e F σ,Q e F σ→Q' e F σ):EWp P N c F σ Q':=fun G a hs=>
 Code.wp_mono (fun e a w q=>zfv (.refl G) hq q) (h G a hs)
end
section
variable {P:Program}{N:Nat}{F:Frm}{σ σ':List Ob}{Q:Exit→Frm→List Ob→Prop}{ops:Array Oper}{o:Oper}{l:List Oper}{x:AV}
theorem zas (h:Q .normal F σ):EOps P N ops [] F σ Q:=fun G a hs=>⟨G,F,σ,rfl, .refl G,hs,h⟩
theorem zau {d:Nat}(hd:o.dst=some d)(hN:Nat.blt d N=true)(hr:Runs ops F o true)(hD:Does P o F σ x σ')(k:EOps P N ops l ((d,x)::F) σ' Q):EOps P N ops (o::l) F σ Q:=fun G a hs=>by
 unfold wpList
 rw[if_pos (hr.wanted hs.fr)]
 left
 refine hD G a _ _ hs.rel (fun y _=>zc1 hs.fr y) (fun v G' e r hv=>?_)
 rw[hd]
 exact zch (fun e' a w q=>zfv e (fun _ _ _ x=>x) q) _ _ _ (k G' _ ((hs.step e r).put (by simpa[Nat.blt_eq] using hN) hv))
theorem zv7 (hd:o.dst=none)(hr:Runs ops F o true)(hD:Does P o F σ x σ')(k:EOps P N ops l F σ' Q):EOps P N ops (o::l) F σ Q:=fun G a hs=>by
 unfold wpList
 rw[if_pos (hr.wanted hs.fr)]
 left
 refine hD G a _ _ hs.rel (fun y _=>zc1 hs.fr y) (fun v G' e r hv=>?_)
 rw[hd]
 exact zch (fun e' a w q=>zfv e (fun _ _ _ x=>x) q) _ _ _ (k G' _ (hs.step e r))
theorem z1l {d:Nat}(hd:o.dst=some d)(hN:Nat.blt d N=true)(hr:Runs ops F o false)(k:EOps P N ops l ((d, .s undef)::F) σ Q):EOps P N ops (o::l) F σ Q:=fun G a hs=>by
 unfold wpList
 rw[if_neg (by rw[hr.wanted hs.fr];simp)]
 rw[hd]
 exact k G _ (hs.put (by simpa[Nat.blt_eq] using hN) (.s _))
end
end Aw
namespace Aw
open Go.RowKit
variable [Mk]
inductive Kd where
 |free
 |look (R:List Nat)
 |eff (W:List Nat)
def zz7:List Nat→List Nat→Bool
 |[],_=>false
 |r::R,W=>W.any (fun w=>Nat.beq r w)||zz7 R W
theorem z3m {R W:List Nat}(h:zz7 R W=false): ∀r∈R,r ∉ W:=by
 induction R with
 |nil=>simp
 | cons a R ih=>
  simp only[zz7,Bool.or_eq_false_iff] at h
  intro r hr hw
  rcases List.mem_cons.1 hr with rfl|hr
  ·
   have h2:=List.any_eq_false.1 h.1 r hw
   simp at h2
  ·
   exact ih h.2 r hr hw
def zfm:Kd→Kd→Bool
 | .look R, .eff W=>zz7 R W
 | .eff W, .look R=>zz7 R W
 | .eff _, .eff _=>true
 |_,_=>false
def zno:Nat→List (Nat × Kd)→List Kd→List Nat→Bool
 |j,prev,k::ks,m::ms=>(prev.all fun p=>!(zfm p.2 k)||m.testBit p.1) && zno (j+1) (match k with| .free=>prev|_=>(j,k)::prev) ks ms
 |_,_,[],_=>true
 |_,_,_::_,[]=>false
theorem zsd: ∀ (ks:List Kd) (ms:List Nat) (j0:Nat) (prev:List (Nat × Kd)),zno j0 prev ks ms=true→
  (∀ (j:Nat) b,ks[j]?=some b→ ∀p∈prev,zfm p.2 b=true→(ms.getD j 0).testBit p.1=true)∧
  ∀ (i j:Nat) a b,i<j→ks[i]?=some a→ks[j]?=some b→zfm a b=true→(ms.getD j 0).testBit (j0+i)=true
 |[],ms,j0,prev,h=>⟨by simp,by simp⟩
 |k::ks,[],j0,prev,h=>by simp[zno] at h
 | k ::ks,m::ms,j0,prev,h=>by
  simp only[zno,Bool.and_eq_true] at h
  obtain⟨h1,h2⟩:=h
  obtain⟨h3,h4⟩:=zsd ks ms (j0+1) _ h2
  refine⟨fun j b hb p hp hc=>?_,fun i j a b hij ha hb hc=>?_⟩
  ·
   cases j with
   |zero=>
    simp at hb
    subst hb
    have:=List.all_eq_true.1 h1 p hp
    simpa[hc] using this
   |succ j=>
    have:=h3 j b (by simpa using hb) p (by cases k<;>first|exact hp|exact List.mem_cons_of_mem _ hp) hc
    simpa using this
  ·
   cases j with
   |zero=>omega
   | succ j=>
    cases i with
    |zero=>
     simp at ha
     subst ha
     have:=h3 j b (by simpa using hb) (j0,k) (by cases k<;>first|(cases b<;>simp[zfm] at hc;done)|simp) hc
     simpa using this
    |succ i=>
     have:=h4 i j a b xa (by simpa using ha) (by simpa using hb) hc
     rw[show j0+(i+1)=j0+1+i by omega]
     simpa using this
def sOk (l:List Oper)(N:Nat):Bool:=qOk l && l.all fun o=>(o.looksAt l.toArray).all fun t=>Nat.blt t N
def eOk (l:List Oper)(N:Nat)(ks:List Kd):Bool:=sOk l N && zno 0 [] ks (zdr l [])
theorem zsc (a b:Kd):zfm a b=zfm b a:=by cases a<;>cases b<;>rfl
def ent (N:Nat)(o:Oper)(x:AV):Nat × AV:=match o.dst with
 |some d=>(d,x)
 |none=>(N, .any)
def dOk (N:Nat)(o:Oper):Bool:=match o.dst with
 |some d=>Nat.blt d N
 |none=>true
theorem zdh {N:Nat}{o:Oper}{x:AV}{d:Nat}(h:o.dst=some d):ent N o x=(d,x):=by unfold ent;rw[h]
theorem zer {N:Nat}{o:Oper}{x:AV}(h:o.dst=none):ent N o x=(N, .any):=by unfold ent;rw[h]
theorem zpv {N:Nat}{o:Oper}{x:AV}{t:Nat}(h:(ent N o x).1=t)(ht:t<N):o.dst=some t:=by
 cases hd:o.dst with
 |none=>rw[zer hd] at h;have h:N=t:=h;exact absurd ht (by rw[h];exact Nat.lt_irrefl _)
 |some d=>rw[zdh hd] at h;have h:d=t:=h;rw[h]
theorem zua {N:Nat}{o:Oper}{x:AV}(h:(ent N o x).1=N)(hk:dOk N o=true):(ent N o x).2= .any:=by
 cases hd:o.dst with
 |none=>rw[zer hd]
 |some d=>
  rw[zdh hd] at h
  have h:d=N:=h
  unfold dOk at hk
  rw[hd] at hk
  simp[h] at hk
theorem zjb {N:Nat}{o:Oper}{d:Nat}(h:dOk N o=true)(hd:o.dst=some d):d<N:=by unfold dOk at h;rw[hd] at h;simpa[Nat.blt_eq] using h
inductive ESteps (P:Program)(N:Nat)(ops:Array Oper):List Oper→Frm→List Ob→Frm→List Ob→List (Nat × AV)→List Kd→List (List Ob)→Prop
 |nil (F:Frm) (σ:List Ob):ESteps P N ops [] F σ F σ [] [] []
 |free (o:Oper) (l:List Oper) (F F':Frm) (σ σ':List Ob) (x:AV) (out:List (Nat × AV)) (ks:List Kd) (sts:List (List Ob)) (hd:dOk N o=true) (hr:Runs ops F o true) (hD: ∀σ,Does P o F σ x σ) (h:ESteps P N ops l (ent N o x::F) σ F' σ' out ks sts):ESteps P N ops (o::l) F σ F' σ' (ent N o x::out) (.free::ks) (σ::sts)
 |skip (o:Oper) (l:List Oper) (F F':Frm) (σ σ':List Ob) (out:List (Nat × AV)) (ks:List Kd) (sts:List (List Ob)) (hd:dOk N o=true) (hr:Runs ops F o false) (h:ESteps P N ops l (ent N o (.s undef)::F) σ F' σ' out ks sts):ESteps P N ops (o::l) F σ F' σ' (ent N o (.s undef)::out) (.free::ks) (σ::sts)
 |look (o:Oper) (l:List Oper) (F F':Frm) (σ σ':List Ob) (x:AV) (out:List (Nat × AV)) (ks:List Kd) (sts:List (List Ob)) (R:List Nat) (hd:dOk N o=true) (hr:Runs ops F o true) (hD: ∀σ2,(∀id∈R,σ2[id]?=σ[id]?)→Does P o F σ2 x σ2) (h:ESteps P N ops l (ent N o x::F) σ F' σ' out ks sts):ESteps P N ops (o::l) F σ F' σ' (ent N o x::out) (.look R::ks) (σ::sts)
 |eff (o:Oper) (l:List Oper) (F F':Frm) (σ σ1 σ':List Ob) (x:AV) (out:List (Nat × AV)) (ks:List Kd) (sts:List (List Ob)) (W:List Nat) (hd:dOk N o=true) (hr:Runs ops F o true) (hD:Does P o F σ x σ1) (hW: ∀id,id ∉ W→σ1[id]?=σ[id]?) (h:ESteps P N ops l (ent N o x::F) σ1 F' σ' out ks sts):ESteps P N ops (o::l) F σ F' σ' (ent N o x::out) (.eff W::ks) (σ::sts)
def EAt (P:Program)(ops:Array Oper)(o:Oper)(F:Frm)(x:AV)(k:Option Kd)(s s1:List Ob):Prop:=
 (k=some .free∧s1=s∧((Runs ops F o true∧ ∀σ,Does P o F σ x σ)∨(Runs ops F o false∧x= .s undef)))∨
 (∃R,k=some (.look R)∧s1=s∧Runs ops F o true∧ ∀σ2,(∀id∈R,σ2[id]?=s[id]?)→Does P o F σ2 x σ2)∨
 (∃W,k=some (.eff W)∧Runs ops F o true∧Does P o F s x s1∧ ∀id,id ∉ W→s1[id]?=s[id]?)
theorem zkj {P:Program}{N:Nat}{ops:Array Oper}: ∀ {l:List Oper} {F F':Frm} {σ σ':List Ob} {out:List (Nat × AV)} {ks:List Kd} {sts:List (List Ob)},ESteps P N ops l F σ F' σ' out ks sts→l.length=out.length∧F'=out.reverse++F∧ks.length=l.length∧sts.length=l.length∧(sts++[σ']).getD 0 []=σ∧
  ∀ (i:Nat) o,l[i]?=some o→ ∃x,out[i]?=some (ent N o x)∧dOk N o=true∧EAt P ops o ((out.take i).reverse++F) x ks[i]? ((sts++[σ']).getD i []) ((sts++[σ']).getD (i+1) []):=by
 intro l F F' σ σ' out ks sts h
 induction h with
 |nil F σ=>exact⟨rfl,rfl,rfl,rfl,rfl,by simp⟩
 | free o l F F' σ σ' x out ks sts hd hr hD h ih=>
  obtain⟨h1,h2,h3,h4,h0,h5⟩:=ih
  refine⟨by simp[h1],by simp[h2],by simp[h3],by simp[h4],rfl,fun i o' hi=>?_⟩
  cases i with
  |zero=>simp at hi;subst hi;exact⟨x,rfl,hd, .inl ⟨rfl,h0, .inl ⟨by simpa using hr,by simpa using hD⟩⟩⟩
  |succ i=>
   obtain⟨x',g1,g2,g3⟩:=h5 i o' (by simpa using hi)
   exact⟨x',by simpa using g1,g2,by simpa using g3⟩
 | skip o l F F' σ σ' out ks sts hd hr h ih=>
  obtain⟨h1,h2,h3,h4,h0,h5⟩:=ih
  refine⟨by simp[h1],by simp[h2],by simp[h3],by simp[h4],rfl,fun i o' hi=>?_⟩
  cases i with
  |zero=>simp at hi;subst hi;exact⟨.s undef,rfl,hd, .inl ⟨rfl,h0, .inr ⟨by simpa using hr,rfl⟩⟩⟩
  |succ i=>
   obtain⟨x',g1,g2,g3⟩:=h5 i o' (by simpa using hi)
   exact⟨x',by simpa using g1,g2,by simpa using g3⟩
 | look o l F F' σ σ' x out ks sts R hd hr hD h ih=>
  obtain⟨h1,h2,h3,h4,h0,h5⟩:=ih
  refine⟨by simp[h1],by simp[h2],by simp[h3],by simp[h4],rfl,fun i o' hi=>?_⟩
  cases i with
  |zero=>simp at hi;subst hi;exact⟨x,rfl,hd, .inr (.inl ⟨R,rfl,h0,by simpa using hr,by simpa using hD⟩)⟩
  |succ i=>
   obtain⟨x',g1,g2,g3⟩:=h5 i o' (by simpa using hi)
   exact⟨x',by simpa using g1,g2,by simpa using g3⟩
 | eff o l F F' σ σ1 σ' x out ks sts W hd hr hD hW h ih=>
  obtain⟨h1,h2,h3,h4,h0,h5⟩:=ih
  refine⟨by simp[h1],by simp[h2],by simp[h3],by simp[h4],rfl,fun i o' hi=>?_⟩
  cases i with
  | zero=>
   simp at hi;subst hi
   have e:((σ::sts)++[σ']).getD (0+1) []=σ1:=h0
   refine⟨x,rfl,hd, .inr (.inr ⟨W,rfl,by simpa using hr,?_,?_⟩)⟩
   ·
    rw[e];simpa using hD
   ·
    rw[e];exact hW
  |succ i=>
   obtain⟨x',g1,g2,g3⟩:=h5 i o' (by simpa using hi)
   exact⟨x',by simpa using g1,g2,by simpa using g3⟩
theorem zv2 {G:Cx}{v:Value}{t:Nat}{sel:Nat→Bool}: ∀ (out:List (Nat × AV)) (k:Nat) (F:Frm),Rep G v (F.get t)→(∀p∈out,p.1=t→Rep G v p.2)→Rep G v ((fr sel k out F).get t)
 |[],k,F,h,_=>h
 | p::out,k,F,h,hp=>by
  refine zv2 out (k+1) _ ?_ (fun q hq=>hp q (by simp[hq]))
  cases sel k with
  |false=>exact h
  |true=>
   obtain⟨d,x⟩:=p
   simp only[cond_true,Frm.get]
   cases e:Nat.beq d t with
   |true=>exact hp (d,x) xm (Nat.eq_of_beq_eq_true e)
   |false=>exact h
def zkw (P:Program)(N:Nat)(l:List Oper)(F:Frm)(σ:List Ob)(Q:Exit→Frm→List Ob→Prop):Prop:=
 ∀G a,S8 N G a F σ→wpAny P .any l.toArray (zkb N G Q) l.length (Array.replicate l.length false) a G.w
section
variable {P:Program}{N:Nat}{l:List Oper}{F F':Frm}{σ:List Ob}{out:List (Nat × AV)}{Q:Exit→Frm→List Ob→Prop}
theorem z4l {σ':List Ob}{ks:List Kd}{sts:List (List Ob)}(hq:eOk l N ks=true)(hs:ESteps P N l.toArray l F σ F' σ' out ks sts)(hQ:Q .normal F' σ')(G0:Cx):
  ∀ (fuel:Nat) (L:Array Bool) (G:Cx) (a:Act) (m:Nat),G0.Ext G→L.size=l.length→left L.toList=fuel→zg4 l (fun j=>L.getD j false=true)→m≤l.length→(∀j W,ks[j]?=some (.eff W)→(L.getD j false=true↔j<m))→Rep G (a.tmps.getD N undef) (F.get N)→S8 N G a (fr (fun j=>L.getD j false) 0 out F) ((sts++[σ']).getD m [])→wpAny P .any l.toArray (zkb N G0 Q) fuel L a G.w:=by
 obtain⟨hlen,hF',hkl,hsl,_,hat⟩:=zkj hs
 unfold eOk sOk at hq
 simp only[Bool.and_eq_true] at hq
 obtain⟨⟨hq,hlk⟩,hkp⟩:=hq
 obtain⟨_,hkp⟩:=zsd _ _ _ _ hkp
 have hq2: ∀ (i j:Nat) a b,i<j→ks[i]?=some a→ks[j]?=some b→zfm a b=true→((zdr l []).getD j 0).testBit i=true:=fun i j a b h1 h2 h3 h4=>by
  have:=hkp i j a b h1 h2 h3 h4
  simpa using this
 have hlk': ∀ (i:Nat) o,l[i]?=some o→ ∀t∈o.looksAt l.toArray,t<N:=fun i o ho t ht=>by
  have h1:=List.all_eq_true.1 hlk o (List.mem_of_getElem? ho)
  have h2:=List.all_eq_true.1 h1 t ht
  simpa[Nat.blt_eq] using h2
 unfold qOk at hq
 have hq': ∀j oj,l[j]?=some oj→(∀e∈oj.after.toList,Region.binds .any e=true→e.on<j)∧ ∀i oi,i<j→l[i]?=some oi→zhk l.toArray oi oj=true→((zdr l []).getD j 0).testBit i=true:=by
  intro j oj hj
  have h1:=List.all_eq_true.1 hq j (by simpa using (List.getElem?_eq_some_iff.1 hj).1)
  rw[hj] at h1
  simp only[Bool.and_eq_true,List.all_eq_true] at h1
  refine⟨fun e he hb=>?_,fun i oi hij hi hc=>?_⟩
  ·
   have:=h1.1 e he
   rw[hb] at this
   simpa[Nat.blt_eq] using this
  ·
   have:=h1.2 i (by simpa using hij)
   rw[hi] at this
   simpa[hc] using this
 have hsound: ∀ (D:Nat→Prop),zg4 l D→ ∀j i,((zdr l []).getD j 0).testBit i=true→D j→D i:=fun D hD=>zf1 hD l [] (fun j o h=>by simpa using h) (fun j i h=>by simp at h)
 have hnone: ∀ (L:Array Bool),L.size=l.length→Region.ready .any l.toArray L=[]→ ∀j,j<l.length→L.getD j false=true:=by
  intro L hL hr j
  induction j using Nat.strongRecOn with
  | _ j ih=>
   intro hj
   cases hc:L.getD j false with
   |true=>rfl
   | false=>
    exfalso
    obtain⟨o,ho⟩: ∃o,l[j]?=some o:=⟨_,List.getElem?_eq_getElem hj⟩
    have hm:j∈Region.ready .any l.toArray L:=by
     refine mem_ready.2 ⟨?_,o,by simpa using ho,fun e he hb=>?_⟩
     ·
      have hlt:j<L.size:=by omega
      simp[Array.getD_eq_getD_getElem?,hlt] at hc⊢
      exact hc
     ·
      have hon:=(hq' j o ho).1 e (by simpa using he) hb
      exact ih e.on hon xa
    rw[hr] at hm
    cases hm
 have hstepS: ∀ (j id:Nat),j<l.length→(∀W,ks[j]?=some (.eff W)→id ∉ W)→((sts++[σ']).getD (j+1) [])[id]?=((sts++[σ']).getD j [])[id]?:=by
  intro j id hj hW
  obtain⟨x,_,_,hc⟩:=hat j _ (List.getElem?_eq_getElem hj)
  rcases hc with ⟨_,g2,_⟩|⟨R,_,g2,_⟩|⟨W,g1,_,_,g4⟩
  ·
   rw[g2]
  ·
   rw[g2]
  ·
   exact g4 id (hW W g1)
 have hstepN: ∀ (j:Nat),j<l.length→(∀W,ks[j]?≠some (.eff W))→(sts++[σ']).getD (j+1) []=(sts++[σ']).getD j []:=by
  intro j hj hW
  obtain⟨x,_,_,hc⟩:=hat j _ (List.getElem?_eq_getElem hj)
  rcases hc with ⟨_,g2,_⟩|⟨R,_,g2,_⟩|⟨W,g1,_⟩
  ·
   exact g2
  ·
   exact g2
  ·
   exact absurd g1 (hW W)
 have hlookS: ∀ (id k n:Nat),n+k≤l.length→(∀j W,n≤j→j<n+k→ks[j]?=some (.eff W)→id ∉ W)→((sts++[σ']).getD (n+k) [])[id]?=((sts++[σ']).getD n [])[id]?:=by
  intro id k n hnk h
  induction k with
  |zero=>rfl
  |succ k ihk=>
   rw[←ihk xa (fun j W h1 h2=>h j W h1 xa)]
   exact hstepS (n+k) id xa (fun W hW=>h (n+k) W xa xa hW)
 have hlooks: ∀ (id m n:Nat),m≤l.length→n≤l.length→(∀j W,ks[j]?=some (.eff W)→ ¬ (j<m↔j<n)→id ∉ W)→((sts++[σ']).getD m [])[id]?=((sts++[σ']).getD n [])[id]?:=by
  intro id m n hm hn h
  rcases Nat.le_total m n with h1|h1
  ·
   obtain⟨k,rfl⟩:=Nat.exists_eq_add_of_le h1
   exact(hlookS id k m hn (fun j W h2 h3 h4=>h j W h4 xa)).symm
  ·
   obtain⟨k,rfl⟩:=Nat.exists_eq_add_of_le h1
   exact hlookS id k n hm (fun j W h2 h3 h4=>h j W h4 xa)
 -- states without an effect between them are the same
 have hsame: ∀ (k n:Nat),n+k≤l.length→(∀j W,n≤j→j<n+k→ks[j]?≠some (.eff W))→(sts++[σ']).getD (n+k) []=(sts++[σ']).getD n []:=by
  intro k n hnk h
  induction k with
  |zero=>rfl
  |succ k ihk=>
   rw[←ihk xa (fun j W h1 h2=>h j W h1 xa)]
   exact hstepN (n+k) xa (fun W=>h (n+k) W xa xa)
 have hbetween: ∀ (m n:Nat),m≤l.length→n≤l.length→(∀j W,ks[j]?=some (.eff W)→(j<m↔j<n))→(sts++[σ']).getD m []=(sts++[σ']).getD n []:=by
  intro m n hm hn h
  rcases Nat.le_total m n with h1|h1
  ·
   obtain⟨k,rfl⟩:=Nat.exists_eq_add_of_le h1
   exact(hsame k m hn (fun j W h2 h3 h4=>by have:=h j W h4;omega)).symm
  ·
   obtain⟨k,rfl⟩:=Nat.exists_eq_add_of_le h1
   exact hsame k n hm (fun j W h2 h3 h4=>by have:=h j W h4;omega)
 -- when all have come up
 have hend: ∀ (L:Array Bool) (G:Cx) (a:Act) (m:Nat),G0.Ext G→L.size=l.length→Region.ready .any l.toArray L=[]→m≤l.length→(∀j W,ks[j]?=some (.eff W)→(L.getD j false=true↔j<m))→S8 N G a (fr (fun j=>L.getD j false) 0 out F) ((sts++[σ']).getD m [])→zkb N G0 Q .normal a G.w:=by
  intro L G a m hst hL hr hml hm h8
  have e1:(sts++[σ']).getD m []=σ':=by
   rw[hbetween m l.length hml (Nat.le_refl _) (fun j W hj=>by
    have hjl:j<l.length:=by rw[←hkl];exact(List.getElem?_eq_some_iff.1 hj).1
    have:=(hm j W hj).1 (hnone L hL hr j hjl)
    exact⟨fun _=>hjl,fun _=>this⟩)]
   simp[List.getD, ←hsl]
  rw[e1] at h8
  refine⟨G,F',σ',rfl,hst,⟨h8.rel,fun t=>?_,h8.df,h8.nt⟩,hQ⟩
  have h1:=h8.fr t
  have h2:(fr (fun j=>L.getD j false) 0 out F).get t=(fr (fun j=>decide (j<0+out.length)) 0 out F).get t:=zec out 0 F F J (fun j p hp _=>by
   have hj:j<out.length:=(List.getElem?_eq_some_iff.1 hp).1
   simp only[Nat.zero_add]
   rw[hnone L hL hr j xa]
   simp[hj])
  rw[h2,zi4,List.take_length, ←hF'] at h1
  exact h1
 intro fuel
 induction fuel with
 | zero=>
  intro L G a m hst hL hlf hcl hml hm _ h8
  have hr:Region.ready .any l.toArray L=[]:=by
   rw[List.eq_nil_iff_forall_not_mem]
   intro i hi
   obtain⟨h1,o,ho,_⟩:=mem_ready.1 hi
   have hlt:i<L.size:=by rw[hL];simpa using (Array.getElem?_eq_some_iff.1 ho).1
   have:0<left L.toList:=zma i (by simp[Array.getD_eq_getD_getElem?,hlt] at h1⊢;exact h1)
   omega
  exact⟨hr,hend L G a m hst hL hr hml hm h8⟩
 | succ fuel ih=>
  intro L G a m hst hL hlf hcl hml hm hNr h8
  refine⟨fun hr=>hend L G a m hst hL hr hml hm h8,fun i hi=>?_⟩
  obtain⟨h1,o,ho,hall⟩:=mem_ready.1 hi
  have hli:l[i]?=some o:=by simpa using ho
  have hlt:i<L.size:=by rw[hL];exact(List.getElem?_eq_some_iff.1 hli).1
  have hfalse:L.getD i false=false:=by simp[Array.getD_eq_getD_getElem?,hlt] at h1⊢;exact h1
  obtain⟨x,g1,g2,g4⟩:=hat i o hli
  -- the others that touch its slots: those before it have come up, those behind it have not
  have hcl':zg4 l (fun j=>j=i∨L.getD j false=true):=by
   intro j oj hj hD e he hb
   rcases hD with rfl|hD
   ·
    rw[hli] at hj;cases hj
    exact .inr (hall e (by simpa using he) hb)
   ·
    exact .inr (hcl j oj hj hD e he hb)
  have hord: ∀j oj,l[j]?=some oj→j≠i→(j<i→zhk l.toArray oj o=true→L.getD j false=true)∧(i<j→zhk l.toArray o oj=true→L.getD j false=false):=by
   intro j oj hj hne
   refine⟨fun hji hc=>?_,fun hij hc=>?_⟩
   ·
    rcases hsound _ hcl' i j ((hq' i o hli).2 j oj hji hj hc) (.inl rfl) with h|h
    ·
     exact absurd h hne
    ·
     exact h
   ·
    cases hx:L.getD j false with
    |false=>rfl
    |true=>
     have:=hsound _ hcl j i ((hq' j oj hj).2 i o hij hli hc) hx
     rw[hfalse] at this
     cases this
  have hsel: ∀t,t∈o.looksAt l.toArray→Frm.get ((out.take i).reverse++F) t=(fr (fun j=>L.getD j false) 0 out F).get t:=by
   intro t ht
   rw[←zi4 out 0 i F]
   refine(zec out 0 F F J (fun j p hp hpt=>?_)).symm
   simp only[Nat.zero_add]
   have hj:j<l.length:=by rw[hlen];exact(List.getElem?_eq_some_iff.1 hp).1
   obtain⟨x',k1,_,_⟩:=hat j _ (List.getElem?_eq_getElem hj)
   rw[k1] at hp
   cases hp
   have htN:=hlk' i o hli t ht
   have k2:l[j].dst=some t:=zpv hpt htN
   by_cases hji:j=i
   ·
    subst hji;rw[hfalse];simp
   ·
    rcases Nat.lt_or_gt_of_ne hji with h|h
    ·
     rw[(hord j _ (List.getElem?_eq_getElem hj) hji).1 h (zes.1 k2 ht)];simp[h]
    ·
     rw[(hord j _ (List.getElem?_eq_getElem hj) hji).2 h (zes.2.2 k2 ht)];simp;omega
  -- what is known behind it
  have hnext: ∀ (m':Nat),m'≤l.length→(∀j W,ks[j]?=some (.eff W)→((L.setIfInBounds i true).getD j false=true↔j<m'))→ ∀ (G':Cx) (v:Value),G.Ext G'→Rel G' ((sts++[σ']).getD m' [])→Rep G' v x→wpAny P .any l.toArray (zkb N G0 Q) fuel (L.setIfInBounds i true) (a.put o.dst v) G'.w:=by
   intro m' hm'l hm' G' v he hr' hv
   refine ih _ G' _ m' (hst.trans he) (by simpa using hL) ?_ ?_ hm'l hm' ?_ ⟨hr',fun t=>?_,by cases o.dst<;>exact h8.df.step he.step,by cases o.dst<;>simp[Act.put,h8.nt]⟩
   ·
    have:=zir L.toList i (by simp[Array.getD_eq_getD_getElem?,hlt] at hfalse⊢;exact hfalse)
    rw[Array.toList_setIfInBounds];omega
   ·
    intro j oj hj hD e he2 hb
    have key: ∀k,(L.setIfInBounds i true).getD k false=true↔(k=i∨L.getD k false=true):=fun k=>by
     by_cases hk:i=k
     ·
      subst hk;simp[Array.getD_eq_getD_getElem?,hlt]
     ·
      simp[Array.getD_eq_getD_getElem?,Array.getElem?_setIfInBounds,hk,Ne.symm hk]
    rw[key] at hD⊢
    exact hcl' j oj hj hD e he2 hb
   ·
    cases ho2:o.dst with
    |none=>exact hNr.ext he
    |some d=>
     have hd:=zjb g2 ho2
     have:d≠N:=Nat.ne_of_lt hd
     have h1:(a.put (some d) v).tmps.getD N undef=a.tmps.getD N undef:=by simp[Act.put,Array.getD_eq_getD_getElem?,Array.getElem?_setIfInBounds,this]
     rw[h1];exact hNr.ext he
   ·
    have hselL: ∀k,k≠i→(L.setIfInBounds i true).getD k false=L.getD k false:=fun k hk=>by
     simp[Array.getD_eq_getD_getElem?,Array.getElem?_setIfInBounds,Ne.symm hk]
    by_cases hte:t=(ent N o x).1
    ·
     cases ho2:o.dst with
     |none=>
      rw[zer ho2] at hte
      have hte:t=N:=hte
      rw[hte]
      refine zv2 out 0 F (hNr.ext he) (fun p hp hpt=>?_)
      obtain⟨j,hj,rfl⟩:=List.mem_iff_getElem.1 hp
      obtain⟨x',k1,k2,_⟩:=hat j l[j] (List.getElem?_eq_getElem xa)
      have k3:out[j]=ent N l[j] x':=by rw[List.getElem?_eq_getElem hj] at k1;exact Option.some.inj k1
      rw[k3] at hpt⊢
      rw[zua hpt k2]
      exact .any _
     | some d=>
      rw[zdh ho2] at hte g1
      dsimp only at hte
      subst hte
      have h2:(fr (fun j=>(L.setIfInBounds i true).getD j false) 0 out F).get t=x:=znr out 0 F i g1 (by simp[Array.getD_eq_getD_getElem?,hlt]) (fun j p hp hij hc hpt=>by
       simp only[Nat.zero_add] at hc
       rw[hselL j xa] at hc
       have hj:j<l.length:=by rw[hlen];exact(List.getElem?_eq_some_iff.1 hp).1
       obtain⟨x',k1,_,_⟩:=hat j _ (List.getElem?_eq_getElem hj)
       rw[k1] at hp
       cases hp
       have htN:=zjb g2 ho2
       have k2:l[j].dst=some t:=zpv hpt htN
       have:=(hord j _ (List.getElem?_eq_getElem hj) xa).2 hij (zes.2.1 ho2 k2)
       rw[this] at hc
       cases hc)
      rw[h2]
      have:t<a.tmps.size:=by rw[h8.nt];exact zjb g2 ho2
      simpa[Act.put,Array.getD_eq_getD_getElem?,this] using hv
    ·
     have h2:(fr (fun j=>(L.setIfInBounds i true).getD j false) 0 out F).get t=(fr (fun j=>L.getD j false) 0 out F).get t:=zec out 0 F F J (fun j p hp hpt=>by
      simp only[Nat.zero_add]
      refine hselL j (fun e=>?_)
      subst e
      rw[g1] at hp
      cases hp
      exact hte hpt.symm)
     rw[h2]
     have h3:=(h8.fr t).ext he
     cases ho2:o.dst with
     |none=>exact h3
     |some d=>
      rw[zdh ho2] at hte
      have hte:t≠d:=hte
      simpa[Act.put,Array.getD_eq_getD_getElem?,Array.getElem?_setIfInBounds,Ne.symm hte] using h3
  have hset: ∀j,j≠i→((L.setIfInBounds i true).getD j false=true↔L.getD j false=true):=fun j hj=>by
   simp[Array.getD_eq_getD_getElem?,Array.getElem?_setIfInBounds,Ne.symm hj]
  have hseti:(L.setIfInBounds i true).getD i false=true:=by simp[Array.getD_eq_getD_getElem?,hlt]
  have hil:i<l.length:=(List.getElem?_eq_some_iff.1 hli).1
  have hkeep:(∀W,ks[i]?≠some (.eff W))→ ∀j W,ks[j]?=some (.eff W)→((L.setIfInBounds i true).getD j false=true↔j<m):=fun hne j W hj=>by
   have:j≠i:=fun e=>hne W (e▸hj)
   rw[hset j this];exact hm j W hj
  -- an effect that is on the other side in the list is one that it does not meet
  have hside: ∀b,ks[i]?=some b→ ∀j W,ks[j]?=some (.eff W)→zfm b (.eff W)=true→(j<m↔j<i):=fun b hb j W hj hcl2=>by
   have hjl:j<l.length:=by rw[←hkl];exact(List.getElem?_eq_some_iff.1 hj).1
   rw[←hm j W hj]
   rcases Nat.lt_trichotomy j i with h|h|h
   ·
    have h3:=hq2 j i (.eff W) b h hj hb (by rw[zsc];exact hcl2)
    rcases hsound _ hcl' i j h3 (.inl rfl) with h4|h4
    ·
     omega
    ·
     simp[h,h4]
   ·
    subst h;rw[hfalse];simp
   ·
    have h3:=hq2 i j b (.eff W) h hb hj hcl2
    constructor
    ·
     intro h4
     have:=hsound _ hcl j i h3 h4
     rw[hfalse] at this;cases this
    ·
     intro h4;omega
  unfold wpOp
  simp only[ho]
  rcases g4 with ⟨k0,ks0,⟨k1,k2⟩|⟨k1,rfl⟩⟩|⟨R,k0,ks0,k1,k2⟩|⟨W0,k0,k1,k2,_⟩
  ·
   rw[if_pos ((k1.congr hsel).wanted h8.fr)]
   left
   refine((k2 _).congr hsel) G a _ _ h8.rel (fun y _=>zc1 h8.fr y) (fun v G' he hr' hv=>?_)
   exact hnext m hml (hkeep (by rw[k0];simp)) G' v he hr' hv
  ·
   rw[if_neg (by rw[(k1.congr hsel).wanted h8.fr];simp)]
   exact hnext m hml (hkeep (by rw[k0];simp)) G undef (.refl G) h8.rel (.s _)
  ·
   rw[if_pos ((k1.congr hsel).wanted h8.fr)]
   left
   have hlooked: ∀id∈R,((sts++[σ']).getD m [])[id]?=((sts++[σ']).getD i [])[id]?:=fun id hid=>
    hlooks id m i hml (Nat.le_of_lt hil) (fun j W hj hne=>by
     cases hc:zfm (.look R) (.eff W) with
     |true=>exact absurd (hside _ k0 j W hj hc) hne
     |false=>exact z3m hc id hid)
   refine((k2 _ hlooked).congr hsel) G a _ _ h8.rel (fun y _=>zc1 h8.fr y) (fun v G' he hr' hv=>?_)
   exact hnext m hml (hkeep (by rw[k0];simp)) G' v he hr' hv
  ·
   rw[if_pos ((k1.congr hsel).wanted h8.fr)]
   left
   have hef: ∀j W,ks[j]?=some (.eff W)→(j<m↔j<i):=fun j W hj=>hside _ k0 j W hj J
   have e1:=hbetween m i hml (Nat.le_of_lt hil) hef
   have h8r:=h8.rel
   rw[e1] at h8r
   refine(k2.congr hsel) G a _ _ h8r (fun y _=>zc1 h8.fr y) (fun v G' he hr' hv=>?_)
   refine hnext (i+1) hil (fun j W hj=>?_) G' v he hr' hv
   by_cases hji:j=i
   ·
    subst hji;rw[hseti];simp
   ·
    rw[hset j hji,hm j W hj,hef j W hj];omega
theorem zfb {σ':List Ob}{ks:List Kd}{sts:List (List Ob)}(hs:ESteps P N l.toArray l F σ F' σ' out ks sts)(hq:eOk l N ks=true)(hQ:Q .normal F' σ'):zkw P N l F σ Q:=fun G a h8=>by
 have hno: ∀j,(Array.replicate l.length false).getD j false=false:=fun j=>by
  simp only[Array.getD_eq_getD_getElem?,Array.getElem?_replicate]
  split<;>rfl
 have h3: ∀ (out:List (Nat × AV)) (k:Nat) (F:Frm),fr (fun j=>(Array.replicate l.length false).getD j false) k out F=F:=by
  intro out
  induction out with
  |nil=>intro k F;rfl
  |cons p out ih=>
   intro k F
   have:=hno k
   simp only[fr,this,cond_false]
   exact ih _ _
 refine z4l hq hs hQ G l.length _ G a 0 (.refl G) xm (by simp[zkc]) ?_ (Nat.zero_le _) ?_ (h8.fr N) ?_
 ·
  intro j o hj hD
  rw[hno] at hD
  cases hD
 ·
  intro j W hj
  rw[hno];simp
 ·
  rw[h3,(zkj hs).2.2.2.2.1];exact h8
theorem zdy {id:Nat}(hm:P.follows .mixedOrders=true)(h:zkw P N l F σ Q):EWp P N (.region id l.toArray true) F σ Q:=fun G a hs=>by
 refine wp_region_any hm ?_
 have he:=zqx G
 have h1:=h _ a (hs.step he (zv8 hs.rel))
 exact ze9 (fun e a w q=>zfv he (fun _ _ _ x=>x) q) _ _ _ _ (by simpa using h1)
end
def subs:List Nat→List (List Nat)
 |[]=>[[]]
 |e::E=>subs E++(subs E).map (e:: ·)
theorem zjd (p:Nat→Bool): ∀E:List Nat,E.filter p∈subs E
 |[]=>by simp[subs]
 | e::E=>by
  have ih:=zjd p E
  simp only[List.filter_cons,subs,List.mem_append,List.mem_map]
  split
  ·
   exact .inr ⟨_,ih,rfl⟩
  ·
   exact .inl ih
def zjq (m:List Nat)(E D:List Nat):Bool:=D.all fun j=>E.all fun k=>!((m.getD j 0).testBit k)||D.contains k
def zj3 (m:List Nat)(E D:List Nat)(i:Nat):Bool:=!(D.contains i) && E.all (fun k=>!((m.getD i 0).testBit k)||D.contains k) && D.all fun j=>!((m.getD j 0).testBit i)
def insE (E D:List Nat)(i:Nat):List Nat:=E.filter fun j=>D.contains j||Nat.beq j i
def TAt (P:Program)(N:Nat)(l:List Oper)(E:List Nat)(T:List Nat→List Ob)(o:Oper)(i:Nat)(F:Frm)(p:Nat × AV):Prop:=
 (i ∉ E∧((Runs l.toArray F o true∧ ∃x,p=ent N o x∧ ∀σ,Does P o F σ x σ)∨(Runs l.toArray F o false∧p=ent N o (.s undef))))∨
 (Runs l.toArray F o true∧ ∀q:Nat→Bool,zjq (zdr l []) E (E.filter q)=true→zj3 (zdr l []) E (E.filter q) i=true→ ∃x,p=ent N o x∧Does P o F (T (E.filter q)) x (T (insE E (E.filter q) i)))
section
variable {P:Program}{N:Nat}{l:List Oper}{F F':Frm}{σ:List Ob}{out:List (Nat × AV)}{Q:Exit→Frm→List Ob→Prop}
theorem z1j {σ':List Ob}{E:List Nat}{T:List Nat→List Ob}(hqs:sOk l N=true)(hself: ∀i,((zdr l []).getD i 0).testBit i=true→False)(hEl: ∀j∈E,j<l.length)(hlen:l.length=out.length)(hF':F'=out.reverse++F)(hTE:T E=σ')
  (hat: ∀ (i:Nat) o,l[i]?=some o→dOk N o=true∧ ∃p,out[i]?=some p∧(∃x,p=ent N o x)∧TAt P N l E T o i ((out.take i).reverse++F) p) (hQ:Q .normal F' σ') (G0:Cx):
  ∀ (fuel:Nat) (L:Array Bool) (G:Cx) (a:Act),G0.Ext G→L.size=l.length→left L.toList=fuel→zg4 l (fun j=>L.getD j false=true)→Rep G (a.tmps.getD N undef) (F.get N)→S8 N G a (fr (fun j=>L.getD j false) 0 out F) (T (E.filter fun j=>L.getD j false))→wpAny P .any l.toArray (zkb N G0 Q) fuel L a G.w:=by
 unfold sOk at hqs
 simp only[Bool.and_eq_true] at hqs
 obtain⟨hq,hlk⟩:=hqs
 have hlk': ∀ (i:Nat) o,l[i]?=some o→ ∀t∈o.looksAt l.toArray,t<N:=fun i o ho t ht=>by
  have h1:=List.all_eq_true.1 hlk o (List.mem_of_getElem? ho)
  have h2:=List.all_eq_true.1 h1 t ht
  simpa[Nat.blt_eq] using h2
 unfold qOk at hq
 have hq': ∀j oj,l[j]?=some oj→(∀e∈oj.after.toList,Region.binds .any e=true→e.on<j)∧ ∀i oi,i<j→l[i]?=some oi→zhk l.toArray oi oj=true→((zdr l []).getD j 0).testBit i=true:=by
  intro j oj hj
  have h1:=List.all_eq_true.1 hq j (by simpa using (List.getElem?_eq_some_iff.1 hj).1)
  rw[hj] at h1
  simp only[Bool.and_eq_true,List.all_eq_true] at h1
  refine⟨fun e he hb=>?_,fun i oi hij hi hc=>?_⟩
  ·
   have:=h1.1 e he
   rw[hb] at this
   simpa[Nat.blt_eq] using this
  ·
   have:=h1.2 i (by simpa using hij)
   rw[hi] at this
   simpa[hc] using this
 have hsound: ∀ (D:Nat→Prop),zg4 l D→ ∀j i,((zdr l []).getD j 0).testBit i=true→D j→D i:=fun D hD=>zf1 hD l [] (fun j o h=>by simpa using h) (fun j i h=>by simp at h)
 have hnone: ∀ (L:Array Bool),L.size=l.length→Region.ready .any l.toArray L=[]→ ∀j,j<l.length→L.getD j false=true:=by
  intro L hL hr j
  induction j using Nat.strongRecOn with
  | _ j ih=>
   intro hj
   cases hc:L.getD j false with
   |true=>rfl
   | false=>
    exfalso
    obtain⟨o,ho⟩: ∃o,l[j]?=some o:=⟨_,List.getElem?_eq_getElem hj⟩
    have hm:j∈Region.ready .any l.toArray L:=by
     refine mem_ready.2 ⟨?_,o,by simpa using ho,fun e he hb=>?_⟩
     ·
      have hlt:j<L.size:=by omega
      simp[Array.getD_eq_getD_getElem?,hlt] at hc⊢
      exact hc
     ·
      have hon:=(hq' j o ho).1 e (by simpa using he) hb
      exact ih e.on hon xa
    rw[hr] at hm
    cases hm
 -- when all have come up
 have hend: ∀ (L:Array Bool) (G:Cx) (a:Act),G0.Ext G→L.size=l.length→Region.ready .any l.toArray L=[]→S8 N G a (fr (fun j=>L.getD j false) 0 out F) (T (E.filter fun j=>L.getD j false))→(∀j∈E,j<l.length)→zkb N G0 Q .normal a G.w:=by
  intro L G a hst hL hr h8 hEl
  have e1:E.filter (fun j=>L.getD j false)=E:=List.filter_eq_self.2 fun j hj=>hnone L hL hr j (hEl j hj)
  rw[e1,hTE] at h8
  refine⟨G,F',σ',rfl,hst,⟨h8.rel,fun t=>?_,h8.df,h8.nt⟩,hQ⟩
  have h1:=h8.fr t
  have h2:(fr (fun j=>L.getD j false) 0 out F).get t=(fr (fun j=>decide (j<0+out.length)) 0 out F).get t:=zec out 0 F F J (fun j p hp _=>by
   have hj:j<out.length:=(List.getElem?_eq_some_iff.1 hp).1
   simp only[Nat.zero_add]
   rw[hnone L hL hr j xa]
   simp[hj])
  rw[h2,zi4,List.take_length, ←hF'] at h1
  exact h1
 intro fuel
 induction fuel with
 | zero=>
  intro L G a hst hL hlf hcl _ h8
  have hr:Region.ready .any l.toArray L=[]:=by
   rw[List.eq_nil_iff_forall_not_mem]
   intro i hi
   obtain⟨h1,o,ho,_⟩:=mem_ready.1 hi
   have hlt:i<L.size:=by rw[hL];simpa using (Array.getElem?_eq_some_iff.1 ho).1
   have:0<left L.toList:=zma i (by simp[Array.getD_eq_getD_getElem?,hlt] at h1⊢;exact h1)
   omega
  exact⟨hr,hend L G a hst hL hr h8 hEl⟩
 | succ fuel ih=>
  intro L G a hst hL hlf hcl hNr h8
  refine⟨fun hr=>hend L G a hst hL hr h8 hEl,fun i hi=>?_⟩
  obtain⟨h1,o,ho,hall⟩:=mem_ready.1 hi
  have hli:l[i]?=some o:=by simpa using ho
  have hlt:i<L.size:=by rw[hL];exact(List.getElem?_eq_some_iff.1 hli).1
  have hfalse:L.getD i false=false:=by simp[Array.getD_eq_getD_getElem?,hlt] at h1⊢;exact h1
  obtain⟨g2,p0,g1,⟨x0,hx0⟩,g4⟩:=hat i o hli
  -- the others that touch its slots: those before it have come up, those behind it have not
  have hcl':zg4 l (fun j=>j=i∨L.getD j false=true):=by
   intro j oj hj hD e he hb
   rcases hD with rfl|hD
   ·
    rw[hli] at hj;cases hj
    exact .inr (hall e (by simpa using he) hb)
   ·
    exact .inr (hcl j oj hj hD e he hb)
  have hord: ∀j oj,l[j]?=some oj→j≠i→(j<i→zhk l.toArray oj o=true→L.getD j false=true)∧(i<j→zhk l.toArray o oj=true→L.getD j false=false):=by
   intro j oj hj hne
   refine⟨fun hji hc=>?_,fun hij hc=>?_⟩
   ·
    rcases hsound _ hcl' i j ((hq' i o hli).2 j oj hji hj hc) (.inl rfl) with h|h
    ·
     exact absurd h hne
    ·
     exact h
   ·
    cases hx:L.getD j false with
    |false=>rfl
    |true=>
     have:=hsound _ hcl j i ((hq' j oj hj).2 i o hij hli hc) hx
     rw[hfalse] at this
     cases this
  have hsel: ∀t,t∈o.looksAt l.toArray→Frm.get ((out.take i).reverse++F) t=(fr (fun j=>L.getD j false) 0 out F).get t:=by
   intro t ht
   rw[←zi4 out 0 i F]
   refine(zec out 0 F F J (fun j p hp hpt=>?_)).symm
   simp only[Nat.zero_add]
   have hj:j<l.length:=by rw[hlen];exact(List.getElem?_eq_some_iff.1 hp).1
   obtain⟨_,p',k1,⟨x',rfl⟩,_⟩:=hat j _ (List.getElem?_eq_getElem hj)
   rw[k1] at hp
   cases hp
   have htN:=hlk' i o hli t ht
   have k2:l[j].dst=some t:=zpv hpt htN
   by_cases hji:j=i
   ·
    subst hji;rw[hfalse];simp
   ·
    rcases Nat.lt_or_gt_of_ne hji with h|h
    ·
     rw[(hord j _ (List.getElem?_eq_getElem hj) hji).1 h (zes.1 k2 ht)];simp[h]
    ·
     rw[(hord j _ (List.getElem?_eq_getElem hj) hji).2 h (zes.2.2 k2 ht)];simp;omega
  -- what is known behind it
  have hnext: ∀ (x:AV),p0=ent N o x→ ∀ (G':Cx) (v:Value),G.Ext G'→Rel G' (T (E.filter fun j=>(L.setIfInBounds i true).getD j false))→Rep G' v x→wpAny P .any l.toArray (zkb N G0 Q) fuel (L.setIfInBounds i true) (a.put o.dst v) G'.w:=by
   intro x hx G' v he hr' hv
   rw[hx] at g1
   refine ih _ G' _ (hst.trans he) (by simpa using hL) ?_ ?_ ?_ ⟨hr',fun t=>?_,by cases o.dst<;>exact h8.df.step he.step,by cases o.dst<;>simp[Act.put,h8.nt]⟩
   ·
    have:=zir L.toList i (by simp[Array.getD_eq_getD_getElem?,hlt] at hfalse⊢;exact hfalse)
    rw[Array.toList_setIfInBounds];omega
   ·
    intro j oj hj hD e he2 hb
    have key: ∀k,(L.setIfInBounds i true).getD k false=true↔(k=i∨L.getD k false=true):=fun k=>by
     by_cases hk:i=k
     ·
      subst hk;simp[Array.getD_eq_getD_getElem?,hlt]
     ·
      simp[Array.getD_eq_getD_getElem?,Array.getElem?_setIfInBounds,hk,Ne.symm hk]
    rw[key] at hD⊢
    exact hcl' j oj hj hD e he2 hb
   ·
    cases ho2:o.dst with
    |none=>exact hNr.ext he
    |some d=>
     have hd:=zjb g2 ho2
     have:d≠N:=Nat.ne_of_lt hd
     have h1:(a.put (some d) v).tmps.getD N undef=a.tmps.getD N undef:=by simp[Act.put,Array.getD_eq_getD_getElem?,Array.getElem?_setIfInBounds,this]
     rw[h1];exact hNr.ext he
   ·
    have hselL: ∀k,k≠i→(L.setIfInBounds i true).getD k false=L.getD k false:=fun k hk=>by
     simp[Array.getD_eq_getD_getElem?,Array.getElem?_setIfInBounds,Ne.symm hk]
    by_cases hte:t=(ent N o x).1
    ·
     cases ho2:o.dst with
     |none=>
      rw[zer ho2] at hte
      have hte:t=N:=hte
      rw[hte]
      refine zv2 out 0 F (hNr.ext he) (fun p hp hpt=>?_)
      obtain⟨j,hj,rfl⟩:=List.mem_iff_getElem.1 hp
      obtain⟨k2,p',k1,⟨x',hx'⟩,_⟩:=hat j l[j] (List.getElem?_eq_getElem xa)
      have k3:out[j]=ent N l[j] x':=by rw[List.getElem?_eq_getElem hj] at k1;exact(Option.some.inj k1).trans hx'
      rw[k3] at hpt⊢
      rw[zua hpt k2]
      exact .any _
     | some d=>
      rw[zdh ho2] at hte g1
      dsimp only at hte
      subst hte
      have h2:(fr (fun j=>(L.setIfInBounds i true).getD j false) 0 out F).get t=x:=znr out 0 F i g1 (by simp[Array.getD_eq_getD_getElem?,hlt]) (fun j p hp hij hc hpt=>by
       simp only[Nat.zero_add] at hc
       rw[hselL j xa] at hc
       have hj:j<l.length:=by rw[hlen];exact(List.getElem?_eq_some_iff.1 hp).1
       obtain⟨_,p',k1,⟨x',rfl⟩,_⟩:=hat j _ (List.getElem?_eq_getElem hj)
       rw[k1] at hp
       cases hp
       have htN:=zjb g2 ho2
       have k2:l[j].dst=some t:=zpv hpt htN
       have:=(hord j _ (List.getElem?_eq_getElem hj) xa).2 hij (zes.2.1 ho2 k2)
       rw[this] at hc
       cases hc)
      rw[h2]
      have:t<a.tmps.size:=by rw[h8.nt];exact zjb g2 ho2
      simpa[Act.put,Array.getD_eq_getD_getElem?,this] using hv
    ·
     have h2:(fr (fun j=>(L.setIfInBounds i true).getD j false) 0 out F).get t=(fr (fun j=>L.getD j false) 0 out F).get t:=zec out 0 F F J (fun j p hp hpt=>by
      simp only[Nat.zero_add]
      refine hselL j (fun e=>?_)
      subst e
      rw[g1] at hp
      cases hp
      exact hte hpt.symm)
     rw[h2]
     have h3:=(h8.fr t).ext he
     cases ho2:o.dst with
     |none=>exact h3
     |some d=>
      rw[zdh ho2] at hte
      have hte:t≠d:=hte
      simpa[Act.put,Array.getD_eq_getD_getElem?,Array.getElem?_setIfInBounds,Ne.symm hte] using h3
  have hset: ∀j,(L.setIfInBounds i true).getD j false=(L.getD j false||Nat.beq j i):=fun j=>by
   by_cases hj:j=i
   ·
    subst hj;simp[Array.getD_eq_getD_getElem?,hlt]
   ·
    have hb:Nat.beq j i=false:=by
     cases hh:Nat.beq j i with
     |false=>rfl
     |true=>exact absurd (Nat.eq_of_beq_eq_true hh) hj
    simp[Array.getD_eq_getD_getElem?,Array.getElem?_setIfInBounds,Ne.symm hj,hb]
  have hdn:E.filter (fun j=>(L.setIfInBounds i true).getD j false)=insE E (E.filter fun j=>L.getD j false) i:=by
   unfold insE
   refine List.filter_congr fun j hj=>?_
   rw[hset]
   congr 1
   rw[Bool.eq_iff_iff]
   simp[hj]
  have hmem: ∀j,(E.filter fun j=>L.getD j false).contains j=true↔j∈E∧L.getD j false=true:=fun j=>by simp
  have hclD:zjq (zdr l []) E (E.filter fun j=>L.getD j false)=true:=by
   refine List.all_eq_true.2 fun j hj=>List.all_eq_true.2 fun k hk=>?_
   obtain⟨hj1,hj2⟩:=List.mem_filter.1 hj
   cases hb:((zdr l []).getD j 0).testBit k with
   |false=>rfl
   |true=>
    rw[Bool.not_true,Bool.false_or]
    exact(hmem k).2 ⟨hk,hsound _ hcl j k hb hj2⟩
  have hrdD:zj3 (zdr l []) E (E.filter fun j=>L.getD j false) i=true:=by
   unfold zj3
   simp only[Bool.and_eq_true]
   refine⟨⟨?_,List.all_eq_true.2 fun k hk=>?_⟩,List.all_eq_true.2 fun j hj=>?_⟩
   ·
    cases hb:(E.filter fun j=>L.getD j false).contains i with
    |false=>rfl
    |true=>have:=((hmem i).1 hb).2;rw[hfalse] at this;cases this
   ·
    cases hb:((zdr l []).getD i 0).testBit k with
    |false=>rfl
    | true=>
     rw[Bool.not_true,Bool.false_or]
     rcases hsound _ hcl' i k hb (.inl rfl) with h|h
     ·
      exfalso
      subst h
      -- an operation does not wait for itself
      exact hself k hb
     ·
      exact(hmem k).2 ⟨hk,h⟩
   ·
    cases hb:((zdr l []).getD j 0).testBit i with
    |false=>rfl
    |true=>
     have:=hsound _ hcl j i hb (List.mem_filter.1 hj).2
     rw[hfalse] at this;cases this
  unfold wpOp
  simp only[ho]
  rcases g4 with ⟨hiE,⟨k1,x,hx,k2⟩|⟨k1,hx⟩⟩|⟨k1,k2⟩
  ·
   rw[if_pos ((k1.congr hsel).wanted h8.fr)]
   left
   refine((k2 _).congr hsel) G a _ _ h8.rel (fun y _=>zc1 h8.fr y) (fun v G' he hr' hv=>?_)
   refine hnext x hx G' v he ?_ hv
   have e:E.filter (fun j=>(L.setIfInBounds i true).getD j false)=E.filter fun j=>L.getD j false:=List.filter_congr fun j hj=>by
    rw[hset]
    have:Nat.beq j i=false:=by
     cases hh:Nat.beq j i with
     |false=>rfl
     |true=>exact absurd (Nat.eq_of_beq_eq_true hh▸hj) hiE
    rw[this,Bool.or_false]
   rw[e];exact hr'
  ·
   rw[if_neg (by rw[(k1.congr hsel).wanted h8.fr];simp)]
   refine hnext _ hx G undef (.refl G) ?_ (.s _)
   have e:E.filter (fun j=>(L.setIfInBounds i true).getD j false)=E.filter fun j=>L.getD j false:=List.filter_congr fun j hj=>by
    rw[hset]
    have:Nat.beq j i=false:=by
     cases hh:Nat.beq j i with
     |false=>rfl
     |true=>exact absurd (Nat.eq_of_beq_eq_true hh▸hj) hiE
    rw[this,Bool.or_false]
   rw[e];exact h8.rel
  ·
   rw[if_pos ((k1.congr hsel).wanted h8.fr)]
   left
   obtain⟨x,hx,k3⟩:=k2 _ hclD hrdD
   refine(k3.congr hsel) G a _ _ h8.rel (fun y _=>zc1 h8.fr y) (fun v G' he hr' hv=>?_)
   refine hnext x hx G' v he ?_ hv
   rw[hdn];exact hr'
theorem zxs {σ':List Ob}{E:List Nat}{T:List Nat→List Ob}(hqs:sOk l N=true)(hself: ∀i,((zdr l []).getD i 0).testBit i=true→False)(hEl: ∀j∈E,j<l.length)(hlen:l.length=out.length)(hF':F'=out.reverse++F)(hT0:T []=σ)(hTE:T E=σ')
  (hat: ∀ (i:Nat) o,l[i]?=some o→dOk N o=true∧ ∃p,out[i]?=some p∧(∃x,p=ent N o x)∧TAt P N l E T o i ((out.take i).reverse++F) p) (hQ:Q .normal F' σ'):zkw P N l F σ Q:=fun G a h8=>by
 have hno: ∀j,(Array.replicate l.length false).getD j false=false:=fun j=>by
  simp only[Array.getD_eq_getD_getElem?,Array.getElem?_replicate]
  split<;>rfl
 have h3: ∀ (out:List (Nat × AV)) (k:Nat) (F:Frm),fr (fun j=>(Array.replicate l.length false).getD j false) k out F=F:=by
  intro out
  induction out with
  |nil=>intro k F;rfl
  |cons p out ih=>
   intro k F
   have:=hno k
   simp only[fr,this,cond_false]
   exact ih _ _
 have h4:E.filter (fun j=>(Array.replicate l.length false).getD j false)=[]:=by
  rw[List.filter_eq_nil_iff]
  intro j _
  rw[hno];simp
 refine z1j hqs hself hEl hlen hF' hTE hat hQ G l.length _ G a (.refl G) xm (by simp[zkc]) ?_ (h8.fr N) ?_
 ·
  intro j o hj hD
  rw[hno] at hD
  cases hD
 ·
  rw[h3,h4,hT0];exact h8
end
end Aw
namespace Aw
inductive Tri (α:Type) where
 |nil
 |node (v:Option α) (l r:Tri α)
namespace Tri
variable {α:Type}
def get:Tri α→Nat→Option α
 | .nil,_=>none
 | .node v l r,i=>bif Nat.beq i 0 then v else bif Nat.beq (i % 2) 1 then get l (i / 2) else get r (i / 2-1)
def set:Nat→Tri α→Nat→α→Tri α
 |0,t,_,_=>t
 |f+1, .nil,i,x=>bif Nat.beq i 0 then .node (some x) .nil .nil else bif Nat.beq (i % 2) 1 then .node none (set f .nil (i / 2) x) .nil else .node none .nil (set f .nil (i / 2-1) x)
 |f+1, .node v l r,i,x=>bif Nat.beq i 0 then .node (some x) l r else bif Nat.beq (i % 2) 1 then .node v (set f l (i / 2) x) r else .node v l (set f r (i / 2-1) x)
theorem beq_t {a b:Nat}(h:a=b):Nat.beq a b=true:=by subst h;simp
theorem beq_f {a b:Nat}(h:a≠b):Nat.beq a b=false:=by
 cases hb:Nat.beq a b with
 |false=>rfl
 |true=>exact absurd (Nat.eq_of_beq_eq_true hb) h
theorem get_set: ∀ (f:Nat) (t:Tri α) (i j:Nat) (x:α),i<f→get (set f t i x) j=if j=i then some x else get t j
 |0,t,i,j,x,h=>by omega
 | f + 1, .nil,i,j,x,h=>by
  have key: ∀k,get (.nil:Tri α) k=none:=fun _=>rfl
  unfold set
  by_cases hi:i=0
  ·
   subst hi
   rw[beq_t J,cond_true]
   by_cases hj:j=0
   ·
    subst hj;simp[get]
   ·
    simp only[get,beq_f hj,cond_false,if_neg hj];cases Nat.beq (j % 2) 1<;>rfl
  ·
   rw[beq_f hi,cond_false]
   by_cases hp:i % 2=1
   ·
    rw[beq_t hp,cond_true]
    by_cases hj:j=0
    ·
     subst hj;rw[if_neg (Ne.symm hi)];rfl
    ·
     simp only[get,beq_f hj,cond_false]
     by_cases hq:j % 2=1
     ·
      rw[beq_t hq,cond_true,get_set f .nil (i / 2) (j / 2) x xa]
      by_cases e:j=i
      ·
       subst e;simp
      ·
       rw[if_neg e,if_neg xa];rfl
     ·
      rw[beq_f hq,cond_false,if_neg (by intro e;subst e;exact hq hp)]
   ·
    rw[beq_f hp,cond_false]
    by_cases hj:j=0
    ·
     subst hj;rw[if_neg (Ne.symm hi)];rfl
    ·
     simp only[get,beq_f hj,cond_false]
     by_cases hq:j % 2=1
     ·
      rw[beq_t hq,cond_true,if_neg (by intro e;subst e;exact hp hq)]
     ·
      rw[beq_f hq,cond_false,get_set f .nil (i / 2-1) (j / 2-1) x xa]
      by_cases e:j=i
      ·
       subst e;simp
      ·
       rw[if_neg e,if_neg xa];rfl
 | f + 1, .node v l r,i,j,x,h=>by
  unfold set
  by_cases hi:i=0
  ·
   subst hi
   rw[beq_t J,cond_true]
   by_cases hj:j=0
   ·
    subst hj;simp[get]
   ·
    simp only[get,beq_f hj,cond_false,if_neg hj]
  ·
   rw[beq_f hi,cond_false]
   by_cases hp:i % 2=1
   ·
    rw[beq_t hp,cond_true]
    by_cases hj:j=0
    ·
     subst hj;rw[if_neg (Ne.symm hi)];rfl
    ·
     simp only[get,beq_f hj,cond_false]
     by_cases hq:j % 2=1
     ·
      rw[beq_t hq,cond_true,get_set f l (i / 2) (j / 2) x xa]
      by_cases e:j=i
      ·
       subst e;simp
      ·
       rw[if_neg e,if_neg xa];rfl
     ·
      rw[beq_f hq,cond_false,if_neg (by intro e;subst e;exact hq hp)]
      rfl
   ·
    rw[beq_f hp,cond_false]
    by_cases hj:j=0
    ·
     subst hj;rw[if_neg (Ne.symm hi)];rfl
    ·
     simp only[get,beq_f hj,cond_false]
     by_cases hq:j % 2=1
     ·
      rw[beq_t hq,cond_true,if_neg (by intro e;subst e;exact hp hq)]
      rfl
     ·
      rw[beq_f hq,cond_false,get_set f r (i / 2-1) (j / 2-1) x xa]
      by_cases e:j=i
      ·
       subst e;simp
      ·
       rw[if_neg e,if_neg xa];rfl
end Tri
structure Sto where
 len:Nat
 t:Tri Ob
namespace Sto
def at_ (s:Sto)(i:Nat):Ob:=match s.t.get i with|some x=>x|none=> .dead
def abs (s:Sto):List Ob:=(List.range s.len).map s.at_
def get (s:Sto)(i:Nat):Option Ob:=bif Nat.blt i s.len then some (s.at_ i) else none
def set (s:Sto)(i:Nat)(x:Ob):Sto:=⟨s.len,s.t.set (i+1) i x⟩
def push (s:Sto)(x:Ob):Sto:=⟨s.len+1,s.t.set (s.len+1) s.len x⟩
def take (s:Sto)(k:Nat):Sto:=bif Nat.ble k s.len then⟨k,s.t⟩ else s
def nil:Sto:=⟨0, .nil⟩
theorem abs_nil:nil.abs=[]:=rfl
theorem abs_len (s:Sto):s.abs.length=s.len:=by simp[abs]
theorem get_abs (s:Sto)(i:Nat):s.get i=s.abs[i]?:=by
 unfold get abs
 cases h:Nat.blt i s.len with
 |true=>
  have:i<s.len:=by simpa[Nat.blt_eq] using h
  simp[this]
 |false=>
  have: ¬i<s.len:=by intro hh;rw[←Nat.blt_eq] at hh;rw[h] at hh;cases hh
  rw[List.getElem?_eq_none (by simp;omega)];rfl
theorem z6c (s:Sto)(i j n:Nat)(x:Ob):(⟨n,s.t.set (i+1) i x⟩:Sto).at_ j=if j=i then x else s.at_ j:=by
 unfold at_
 simp only[Tri.get_set _ _ _ _ _ (Nat.lt_succ_self i)]
 split
 ·
  rename_i y hy
  split at hy
  ·
   rename_i e;cases hy;rw[if_pos e]
  ·
   rename_i e;rw[if_neg e,hy]
 ·
  rename_i hy
  split at hy
  ·
   cases hy
  ·
   rename_i e;rw[if_neg e,hy]
theorem set_abs (s:Sto)(i:Nat)(x:Ob):(s.set i x).abs=s.abs.set i x:=by
 apply List.ext_getElem?
 intro j
 rw[←get_abs]
 by_cases h:j<s.len
 ·
  have h1:(s.set i x).get j=some ((s.set i x).at_ j):=by
   unfold get
   have:Nat.blt j (s.set i x).len=true:=by rw[Nat.blt_eq];exact h
   rw[this];rfl
  rw[h1]
  have h2:(s.set i x).at_ j=if j=i then x else s.at_ j:=z6c s i j s.len x
  rw[h2]
  by_cases e:j=i
  ·
   subst e;rw[if_pos J,List.getElem?_set_self (by rw[abs_len];exact h)]
  ·
   rw[if_neg e,List.getElem?_set_ne (Ne.symm e)]
   simp[abs,h]
 ·
  rw[get_abs,List.getElem?_eq_none (by rw[abs_len];exact Nat.le_of_not_lt h),List.getElem?_eq_none (by rw[List.length_set,abs_len];omega)]
theorem push_abs (s:Sto)(x:Ob):(s.push x).abs=s.abs++[x]:=by
 unfold push abs
 have h: ∀j,(⟨s.len+1,s.t.set (s.len+1) s.len x⟩:Sto).at_ j=if j=s.len then x else s.at_ j:=fun j=>z6c s s.len j (s.len+1) x
 simp only[List.range_succ,List.map_append,List.map_cons,List.map_nil]
 rw[h s.len,if_pos J]
 congr 1
 refine List.map_congr_left fun j hj=>?_
 have:j<s.len:=by simpa using hj
 rw[h j,if_neg xa]
theorem take_abs (s:Sto)(k:Nat):(s.take k).abs=s.abs.take k:=by
 unfold take
 cases h:Nat.ble k s.len with
 | true=>
  have hk:=Nat.le_of_ble_eq_true h
  apply List.ext_getElem?
  intro j
  rw[cond_true,List.getElem?_take]
  by_cases hj:j<k
  ·
   rw[if_pos hj]
   have h1:j<s.len:=by omega
   have e: ∀j,(⟨k,s.t⟩:Sto).at_ j=s.at_ j:=fun _=>rfl
   simp[abs,hj,h1,e]
  ·
   rw[if_neg hj,List.getElem?_eq_none (by rw[abs_len];exact Nat.le_of_not_lt hj)]
 |false=>
  have: ¬k≤s.len:=by intro hh;rw[Nat.ble_eq_true_of_le hh] at h;cases h
  rw[cond_false,List.take_of_length_le (by rw[abs_len];omega)]
end Sto
abbrev FT:=Tri AV
def fget (t:FT)(d:Nat):AV:=match t.get d with|some x=>x|none=> .any
def fset (t:FT)(d:Nat)(x:AV):FT:=t.set (d+1) d x
theorem z4c (t:FT)(d e:Nat)(x:AV):fget (fset t d x) e=if e=d then x else fget t e:=by
 unfold fget fset
 rw[Tri.get_set _ _ _ _ _ (Nat.lt_succ_self d)]
 by_cases h:e=d
 ·
  rw[if_pos h,if_pos h]
 ·
  rw[if_neg h,if_neg h]
def fev (t:FT):Operand→AV
 | .tmp d=>fget t d
 | .const v=>ofValue v
 | .global _=> .any
 | .func f=> .fn f []
def FEq (F:Frm)(t:FT):Prop:= ∀d,F.get d=fget t d
theorem FEq.ev {F:Frm}{t:FT}(h:FEq F t):F.eval=fev t:=by
 funext y
 cases y with
 |tmp d=>exact h d
 |_=>rfl
theorem FEq.put {F:Frm}{t:FT}(h:FEq F t)(d:Nat)(x:AV):FEq ((d,x)::F) (fset t d x):=fun e=>by
 rw[z4c]
 simp only[Frm.get]
 by_cases he:e=d
 ·
  subst he;simp
 ·
  rw[if_neg he,Tri.beq_f (Ne.symm he),cond_false];exact h e
end Aw
end Go.Proofs.YtjdpnadhgjohnaaGreatDoor
