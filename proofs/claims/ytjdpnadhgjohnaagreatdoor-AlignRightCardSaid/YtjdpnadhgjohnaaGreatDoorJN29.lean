import Derived.Test.YtjdpnadhgjohnaaGreatDoorJN0
import Derived.Test.YtjdpnadhgjohnaaGreatDoorJN26
import Derived.Test.YtjdpnadhgjohnaaGreatDoorJN16
import Derived.Test.YtjdpnadhgjohnaaGreatDoorJN19
import Derived.Test.YtjdpnadhgjohnaaGreatDoorJN20
import Derived.Test.YtjdpnadhgjohnaaGreatDoorJN5
import Derived.Test.YtjdpnadhgjohnaaGreatDoorJN4
import Derived.Test.YtjdpnadhgjohnaaGreatDoorJN21
import Derived.Test.YtjdpnadhgjohnaaGreatDoorJN22
set_option linter.unusedSimpArgs false
set_option linter.unusedVariables false
set_option linter.unusedSectionVars false
namespace Go.Proofs.YtjdpnadhgjohnaaGreatDoor
namespace Aw
open Go.RowKit Go.Proofs
variable {P:Program}[IsP P]
theorem gti_mem {α:Type}[Inhabited α]{l:List α}{k:Nat}(h:k<l.length):gti l k∈l:=List.mem_of_getElem? (zbr h)
instance:Inhabited Fr:=⟨⟨0,0⟩⟩
def eF (a:Fr):AV:= .agg [eI a.n,eI a.d]
def eFE (x:FE):AV:= .tup [.agg [eI x.n,eI x.d],eI x.e]
theorem lo_F (a:Fr):Lo 0 (eF a):= .agg _ (zaj (.s _) (zaj (.s _) zba))
theorem z62 {G:Cx}{v:Value}{a:Fr}(h:Rep G v (eF a)):v= .agg #[.int .i64 a.n, .int .i64 a.d]:=by
 generalize hx:eF a=x at h
 cases h with
 | agg vs cs hl h1 hr=>
  unfold eF at hx
  injection hx with hx
  subst hx
  obtain⟨q⟩:=vs
  match q,hl with
  |[u,w],_=>
   have e1:=zc5 (hr 0 u _ J J)
   have e2:=zc5 (hr 1 w _ J J)
   rw[e1,e2]
 |_=>unfold eF at hx;cases hx
theorem z6z (G:Cx)(n d:Int):Rep G (.agg #[.int .i64 n, .int .i64 d]) (.agg [eI n,eI d]):=
 .agg _ _ rfl (fun c hc=>by simp at hc;rcases hc with rfl|rfl<;>rfl) (fun j v c hv hc=>by
  match j,hv,hc with
  |0,hv,hc=>simp at hv hc;subst hv hc;exact .s _
  |1,hv,hc=>simp at hv hc;subst hv hc;exact .s _
  |j+2,hv,hc=>simp at hv)
theorem zii {f:FuncId}{args:List AV}{x:FE}(he:Ent f)(h: ∀ (G:Cx) (vargs:Array Value),vargs.size=args.length→(∀ (j:Nat) v x,vargs[j]?=some v→args[j]?=some x→Rep G v x)→Calls Tryz.prog f vargs G.w fun e w'=>e= .returned (.tuple #[.agg #[.int .i64 (x).n, .int .i64 (x).d], .int .i64 (x).e])∧Below G.w.heap.size G.w w'):Pure P f args (eFE x):=
 zdw (zgm he (.tup _ (zaj (.agg _ (zaj (.s _) (zaj (.s _) zba))) (zaj (.s _) zba))) fun G vargs hst hsz hrep=>(h G vargs hsz hrep).mono (by
  rintro e w' ⟨rfl,hb⟩
  refine⟨_,rfl,hb, .tup _ _ J (fun j v c hv hc=>?_)⟩
  match j,hv,hc with
  |0,hv,hc=>simp at hv hc;subst hv hc;exact z6z _ _ _
  |1,hv,hc=>simp at hv hc;subst hv hc;exact .s _
  |j+2,hv,hc=>simp at hv))
theorem zoi {G:Cx}{vargs:Array Value}{a b:Fr}(hsz:vargs.size=[eF a,eF b].length)(hrep: ∀ (j:Nat) v x,vargs[j]?=some v→[eF a,eF b][j]?=some x→Rep G v x):vargs= #[.agg #[.int .i64 (a).n, .int .i64 (a).d], .agg #[.int .i64 (b).n, .int .i64 (b).d]]:=by
 obtain⟨q⟩:=vargs
 match q,hsz with
 |[u,w],_=>rw[z62 (hrep 0 u _ rfl rfl),z62 (hrep 1 w _ rfl rfl)]
theorem args_F {G:Cx}{vargs:Array Value}{a:Fr}(hsz:vargs.size=[eF a].length)(hrep: ∀ (j:Nat) v x,vargs[j]?=some v→[eF a][j]?=some x→Rep G v x):vargs= #[.agg #[.int .i64 (a).n, .int .i64 (a).d]]:=by
 obtain⟨q⟩:=vargs
 match q,hsz with
 |[u],_=>rw[z62 (hrep 0 u _ rfl rfl)]
theorem zwx {f:FuncId}{args:List AV}{u:Value}(he:Ent f)(h: ∀ (G:Cx) (vargs:Array Value),vargs.size=args.length→(∀ (j:Nat) v x,vargs[j]?=some v→args[j]?=some x→Rep G v x)→Calls Tryz.prog f vargs G.w fun e w'=>e= .returned u∧Below G.w.heap.size G.w w'):Pure P f args (.s u):=
 zdw (zgm he (.s _) fun G vargs hst hsz hrep=>(h G vargs hsz hrep).mono (by
  rintro e w' ⟨rfl,hb⟩
  exact⟨_,rfl,hb, .s _⟩))
theorem z8d (a b:Fr):Pure P 215 [eF a,eF b] (eFE (addE a b)):=
 zii (zdf Tryz.func215 J J) fun G vargs hsz hrep=>by rw[zoi hsz hrep];exact z2g a b G.w
theorem z79 (a b:Fr):Pure P 211 [eF a,eF b] (eFE (subE a b)):=
 zii (zdf Tryz.func211 J J) fun G vargs hsz hrep=>by rw[zoi hsz hrep];exact z6r a b G.w
theorem z8a (a b:Fr):Pure P 214 [eF a,eF b] (eFE (mulE a b)):=
 zii (zdf Tryz.func214 J J) fun G vargs hsz hrep=>by rw[zoi hsz hrep];exact z7m a b G.w
theorem z8b (a b:Fr):Pure P 212 [eF a,eF b] (eFE (divE a b)):=
 zii (zdf Tryz.func212 J J) fun G vargs hsz hrep=>by rw[zoi hsz hrep];exact z8s a b G.w
def cmpE (a b:Fr):Int × Int:=if a.okB && b.okB then(cmpN a b,0) else(0,1)
theorem z8c (a b:Fr):Pure P 238 [eF a,eF b] (.tup [eI (cmpE a b).1,eI (cmpE a b).2]):=
 zdw (zgm (zdf Tryz.func238 J J) (.tup _ (zaj (.s _) (zaj (.s _) zba))) fun G vargs hst hsz hrep=>by
  rw[zoi hsz hrep]
  refine(z8w a b G.w).mono ?_
  rintro e w' ⟨rfl,hb⟩
  refine⟨_,rfl,hb, .tup _ _ J (fun j v c hv hc=>?_)⟩
  match j,hv,hc with
  |0,hv,hc=>simp at hv hc;subst hv hc;unfold cmpE eI;cases a.okB<;>cases b.okB<;>exact .s _
  |1,hv,hc=>simp at hv hc;subst hv hc;unfold cmpE eI;cases a.okB<;>cases b.okB<;>exact .s _
  |j+2,hv,hc=>simp at hv)
theorem znw (a:Fr):Pure P 112 [eF a] (eB a.okB):=
 zwx (zdf Tryz.func112 J J) fun G vargs hsz hrep=>by rw[args_F hsz hrep];exact zke a G.w
end Aw
namespace Aw
open Go.RowKit Go.Proofs
variable {P:Program}[IsP P]
theorem zop (l:List Fr):Lo 0 (eL eF l):=zdj lo_F
def fineX (l:List Fr)(n:Int):Bool:=decide ((l.length:Int)=n) && l.all Fr.okB
structure LP where
 c:List Fr
 a:List (List Fr)
 rel:List Int
 b:List Fr
def eP (p:LP):AV:= .agg [eL eF p.c,eL (eL eF) p.a,eL eI p.rel,eL eF p.b]
def relB (r:Int):Bool:=decide (r=1∨r=2∨r=3)
def rowB (p:LP)(k:Nat):Bool:=fineX (gti p.a k) p.c.length && relB (gti p.rel k)
def headB (p:LP):Bool:=decide (1≤p.c.length) && decide (p.c.length≤12) && decide (1≤p.a.length) && decide (p.a.length≤12) && decide (p.rel.length=p.a.length) && fineX p.c p.c.length && fineX p.b p.a.length
def validP (p:LP):Bool:=headB p && (List.range p.a.length).all (rowB p)
end Aw
namespace Aw
open Go.RowKit Go.Proofs
variable {P:Program}[IsP P]
def dotG:Fr→List Fr→List Fr→FE
 |acc,a::ta,b::tb=>if (mulE a b).e≠0 then FE.err (mulE a b).e else if (addE acc ⟨(mulE a b).n,(mulE a b).d⟩).e≠0 then FE.err (addE acc ⟨(mulE a b).n,(mulE a b).d⟩).e else dotG ⟨(addE acc ⟨(mulE a b).n,(mulE a b).d⟩).n,(addE acc ⟨(mulE a b).n,(mulE a b).d⟩).d⟩ ta tb
 |acc,_,_=>⟨acc.n,acc.d,0⟩
def dotE (a b:List Fr):FE:=if ¬ (a.all Fr.okB=true∧b.all Fr.okB=true) then FE.err 1 else if 1000<a.length∨1000<b.length then FE.err 5 else if a.length≠b.length then FE.err 29 else dotG (Fr.of 0) a b
end Aw
namespace Aw
open Go.RowKit Go.Proofs
variable {P:Program}[IsP P]
def negB (a:Fr):Bool:=decide (a.n<0)
def relC (c r:Int):Bool:=if r=1 then decide (c≤0) else if r=2 then decide (0≤c) else decide (c=0)
def sgnB (r:Int)(a:Fr):Bool:=decide (¬ (r=2∧a.n<0∨r=1∧0<a.n))
def z5k (p:LP)(y:List Fr):Bool:=(List.range y.length).all fun j=>sgnB (gti p.rel j) (gti y j)
end Aw
namespace Aw
open Go Go.RowKit Go.Proofs
theorem z3c {P:Program}{f:FuncId}{args:List AV}{m sz n:Nat}{σ':List Ob}{cs:List AV}(hc:CallE P f args [] (.own m sz n) σ')(hm:σ'[m]?=some (.row sz cs))(hn:n=cs.length)(hpos:0<n)
  (hcs: ∀e∈cs, ∀c∈e.cells, ∃u,c= .s u) (hlo: ∀a∈args,Lo 0 a):PureO P f args sz cs:=by
 refine⟨hc.ent,fun G vargs hst hsz hrep=>?_⟩
 let G0:Cx:={base:=G.w.heap.size,w0:=G.w,w:=G.w,mu:=fun _=>none,St:=G.St}
 have hrel:Rel G0 []:=⟨⟨Below.refl _ _,hst.tab,hst.tab.lt⟩,Nat.le_refl _,fun b o h=>h.elim (hst.st b o) False.elim,by simp,by rintro i j b ⟨_,_,h⟩;simp at h,fun _ _=>rfl⟩
 refine(hc.call G0 vargs hrel hsz (fun j v x h1 h2=>(hrep j v x h1 h2).low (hlo x (List.mem_of_getElem? h2)) (fun _ _ h=>h) (fun _ _ _=>rfl) (fun id y hid=>by omega) (fun h=>by omega))).mono ?_
 rintro e w' ⟨v,G',rfl,rfl,he,hr',hv⟩
 refine⟨v,rfl,?_, .inr ?_⟩
 ·
  have h1:=hr'.below.toBelow
  rw[he.base,he.w0] at h1
  exact h1
 ·
  cases hv with
  |own0 id sz A hA hm=>omega
  |own id sz n b cap hmu hle hcap hb=>
   have h1:=hr'.obs m _ hm
   simp only[ObOk,hmu] at h1
   obtain⟨⟨cur,te,fr,g1,g2,g3,g4⟩,g5,g6⟩:=h1
   obtain⟨cur2,e2,f2,k1,k2⟩:=hb
   rw[g1] at k1
   obtain⟨rfl,rfl,rfl⟩:cur=cur2∧te=e2∧fr=f2:=by cases k1;exact⟨rfl,rfl,rfl⟩
   rw[g2] at g1
   rw[he.base] at g5
   subst hn
   refine⟨b,cap,cur,te,rfl,g5,g1,k2,hle,hcap,fun k e hk=>?_⟩
   obtain⟨q1,q2,q3⟩:=g4 k e hk
   refine⟨q1,fun j c hj=>?_⟩
   obtain⟨u,hu⟩:=hcs e (List.mem_of_getElem? hk) c (List.mem_of_getElem? hj)
   subst hu
   obtain⟨v2,q4,q5⟩:=q3 j _ hj
   cases q5
   exact⟨_,q4,rfl,q2 _ (List.mem_of_getElem? hj)⟩
variable {P:Program}[IsP P]
def eW (n:Int):AV:= .s (.int .u64 n)
theorem lo32 (n:Nat)(h:n<26):zoy .and .u64 (n:Int) 4294967295=n:=by
 have: ∀m:Fin 26,zoy .and .u64 ((m.1:Nat):Int) 4294967295=((m.1:Nat):Int):=by decide
 exact this ⟨n,h⟩
theorem hi32 (n:Nat)(h:n<26):(n:Int).fdiv (2 ^ min (32:Int).toNat IntKind.u64.bits)=0:=by
 have: ∀m:Fin 26,((m.1:Nat):Int).fdiv (2 ^ min (32:Int).toNat IntKind.u64.bits)=0:=by decide
 exact this ⟨n,h⟩
theorem z3k (n:Nat)(h:n<26):Pure P 204 [eW 1,eW n] (.tup [eW 0,eW n]):=by
 have h1:zoy .and .u64 1 4294967295=1:=by decide
 have h2:(1:Int).fdiv (2 ^ min (32:Int).toNat IntKind.u64.bits)=0:=by decide
 have h3:=lo32 n h
 have h4:=hi32 n h
 have h5:IntKind.u64.wrap (1*(n:Int))=n:=by rw[Int.one_mul];exact IntWalk.u64_in _ xa
 have h6:IntKind.u64.wrap (0*(n:Int))=0:=by rw[Int.zero_mul];decide
 have h7:IntKind.u64.wrap (0+0)=0:=by decide
 have h8:zoy .and .u64 0 4294967295=0:=by decide
 have h9:(0:Int).fdiv (2 ^ min (32:Int).toNat IntKind.u64.bits)=0:=by decide
 have h10:IntKind.u64.wrap (1*0)=0:=by decide
 have h11:IntKind.u64.wrap (0*0)=0:=by decide
 refine zd1 (by rw[IsP.eq (P:=P)];exact Tryz.func204) rfl J J J J (zaj (.s _) (zaj (.s _) zba)) (.tup _ (zaj (.s _) (zaj (.s _) zba))) (by simp only[argF];rfl) ?_
 refine zag (zab (zac J (zac J (zae (zag (zab (zac J (zad J J (zaa J) (zf6 J (.inl rfl) rfl J h1) (zac J (zae (zag (zab (zac J (zad J J (zaa J) (zfc J J J xe (.inl ⟨rfl,h2⟩)) (zac J (zae (zag (zab (zac J (zad J J (zaa J) (zf6 J (.inl rfl) rfl J h3) (zac J (zae (zag (zab (zac J (zad J J (zaa J) (zfc J J J xe (.inl ⟨rfl,h4⟩)) (zac J (zae (zag ?_)))))))))))))))))))))))))))))
 refine zab (zac J (zac J (zad J J (zaa J) (ze3 J J J h5) (zac J (zae (zag (zab (zac J (zac J (zad J J (zaa J) (ze3 J J J h6) (zac J (zad J J (zaa J) (zfc J J J xe (.inl ⟨rfl,h4⟩)) (zad J J (zaa J) (za2 J J J h7) (zac J (zae (zag (zab (zac J (zad J J (zaa J) (zf6 J (.inl rfl) rfl J h8) (zac J (zae (zag (zab (zac J (zad J J (zaa J) (zfc J J J xe (.inl ⟨rfl,h9⟩)) ?_)))))))))))))))))))))))))
 refine zac J (zae (zag (zab (zac J (zac J (zac J (zad J J (zaa J) (ze3 J J J h10) (zad J J (zaa J) (za2 J J J h7) (zac J (zae (zag (zab (zac J (zac J (zad J J (zaa J) (ze3 J J J h11) (zac J (zad J J (zaa J) (za2 J J J h7) (zac J (zad J J (zaa J) (zfc J J J xe (.inl ⟨rfl,h9⟩)) (zad J J (zaa J) (za2 J J J h7) (zac J (zae (zag (zab (zac J ?_)))))))))))))))))))))))))
 refine zac J (zad J J (zaa J) (ze3 J J J h5) (zac J (zae (zah ?_))))
 (refine za3 ?_;repeat (first|refine zbg ?_|refine zbh ?_))
 exact post2 (.inr rfl) rfl J (.refl _) (.refl _)
theorem mul_pf (n:Nat)(h:n<26):Pure P 151 [eW 1,eW n] (.tup [eW 0,eW n]):=by
 have hm:=z3k (P:=P) n h
 refine zd1 (by rw[IsP.eq (P:=P)];exact Tryz.func151) rfl J J J J (zaj (.s _) (zaj (.s _) zba)) (.tup _ (zaj (.s _) (zaj (.s _) zba))) (by simp only[argF];rfl) ?_
 refine zag (zab (zac J (zac J (zae (zag (zaw J (zav (zag (zab (zac J (zac J (zad J J (zaa J) (zai J J (hm) (zaf J (zaf J zaq))) (zac J (zac J (zac J (zac J (zac J (zae (zag (zab (zac J (zac J (zac J (zac J (zae (zah ?_))))))))))))))))))))))))))
 (refine za3 ?_;repeat (first|refine zbg ?_|refine zbh ?_))
 exact post2 (.inr rfl) rfl J (.refl _) (.refl _)
def repR (a:Fr)(n m:Nat):List AV:=List.replicate m (eF a)++List.replicate (n-m) (eF ⟨0,0⟩)
theorem z3a {a:Fr}{n m:Nat}(h:m≤n):(repR a n m).length=n:=by simp[repR];omega
theorem zy0 {a:Fr}{n m:Nat}(h:m≤n):laid (repR a n m) m (((repR a n m).take m).take (n-m))=repR a n (m+min m (n-m)):=by
 have e1:(repR a n m).take m=List.replicate m (eF a):=by unfold repR;rw[List.take_append_of_le_length xm,List.take_of_length_le xm]
 unfold laid
 rw[e1,List.take_replicate]
 have e2:(repR a n m).drop (m+(List.replicate (min (n-m) m) (eF a)).length)=List.replicate (n-(m+min m (n-m))) (eF ⟨0,0⟩):=by
  unfold repR
  rw[List.length_replicate,List.drop_append,List.length_replicate,List.drop_of_length_le xm,List.nil_append,List.drop_replicate]
  congr 1;omega
 rw[e2,List.replicate_append_replicate]
 unfold repR
 congr 2;omega
theorem z0d (a:Fr)(n m:Nat): ∀e∈repR a n m, ∀c∈e.cells,Lo 0 c:=fun e he=>by
 unfold repR at he
 rcases List.mem_append.1 he with he|he
 ·
  rw[List.eq_of_mem_replicate he];exact(lo_F _).cells
 ·
  rw[List.eq_of_mem_replicate he];exact(lo_F _).cells
namespace K1
set_option maxHeartbeats 2000000 in
theorem zy1 (a:Fr)(n:Nat)(h:1≤n∧n≤25):CallE P 102 [eL eF [a],eI n] [] (.own 0 2 n) [.row 2 (List.replicate n (eF a))]:=by
 have hm:=mul_pf (P:=P) n xa
 have hl1:IntKind.u64.wrap ((([a]:List Fr).length:Nat):Int)=1:=by show IntKind.u64.wrap 1=1;decide
 have hmin:(List.map eF [a]).length.min n=1:=by show min 1 n=1;omega
 refine callE_fn1 xm (by rw[IsP.eq (P:=P)];exact Tryz.func102) rfl J (Nat.le_of_ble_eq_true J) rfl ?_
 simp only[argF]
 refine kw_seq (kw_region (kops_s J (kops_nil (kw_seq (kw_seq (kw_region (kops_s J (kops_op J J (zaa J) (zbl xa (za0 J J J)) (kops_nil (zah (kw_false J (kw_skip (kw_seq (kw_region (kops_s J (kops_op J J (zaa J) (zan J ts39 J) (kops_op J J (zaa J) (ze4 J tu3 z6o J hl1) (kops_s J (kops_op J J (zaa J) (ze4 J tu3 z6o J (IntWalk.u64_in _ xa)) (kops_op J J (zaa J) (zai J J (hm) (zaf J (zaf J zaq))) (kops_s J (kops_s J ?_))))))))))))))))))))))
 refine kops_s J (kops_s J (kops_s J (kops_nil (kw_seq (kw_seq (kw_region (kops_s J (kops_op J J (zaa J) (zbl xe (zay J J J)) (kops_s J (kops_s J (kops_op J J (zap J J J) (zbl xa (zay J J J)) (kops_s J (kops_nil (zah (kw_false J (kw_skip (kw_seq (kw_region (kops_s J (kops_op J J (zaa J) (ze4 J tu200 tk3 J (IntWalk.i64_in _ xa)) (kops_op J J (zaa J) (zsq J ts39 zex J J xe J J J J xa xa xa) (kops_s J ?_))))))))))))))))))))))
 refine kops_nil (kw_seq (kw_region (kops_s J (kops_s J ?_))))
 refine kops_op J J (zaa J) (zn9 (k:=0) (n:=n) rfl ts39 zex xe J (.own rfl) rfl xm J (.sl _ (by intro e he;simp at he;subst he;rfl))) ?_
 refine kops_s J (kops_nil (kw_seq (kw_block ?_)))
 rw[hmin]
 have hst:laid (List.replicate n (eF ⟨0,0⟩)) 0 ([eF a].take n)=repR a n 1:=by
  obtain⟨k,rfl⟩: ∃k,n=k+1:=⟨n-1,by omega⟩
  simp[laid,repR,List.replicate_succ]
 refine kw_loops (S:=Nat) (fun m=>[(7, .own 0 2 n),(8,eI m)]) (fun m=>[.row 2 (repR a n m)]) (fun m=>1≤m∧m≤n) (fun m=>n-m) 1
  (kwk_st [0] rfl xe ⟨⟨_,rfl, .rowE (z0d _ _ _) hst⟩,trivial⟩ ⟨.own 0 0 2 _ _ J J, .lo _ (.s _),trivial⟩) ⟨by omega,by omega⟩ (fun m hm=>?_)
 have hrl:=z3a (a:=a) hm.2
 have hst2:=zy0 (a:=a) hm.2
 refine kw_seq (kw_seq (kw_region (kops_s J (kops_s J (kops_op J J (zaa J) (zcy J ts39 J) ?_)))))
 refine kops_opP J J (zaa J) (za0 J J J) (fun h37=>?_) (fun h37=>?_)
 all_goals refine kops_nil (zah ?_)
 all_goals (first|refine kw_true J ?_|refine kw_false J ?_)
 all_goals (repeat (first|refine zah ?_|refine kw_skip ?_|refine kw_block ?_))
 ·
  have hmin2:((repR a n m).take m).length.min (n-m)=min m (n-m):=by
   rw[List.length_take,hrl,Nat.min_eq_left hm.2]
  have hw:IntKind.i64.wrap ((m:Int)+((((repR a n m).take m).length.min (n-m):Nat):Int))=((m+min m (n-m):Nat):Int):=by
   rw[hmin2,IntWalk.i64_in _ xa];rfl
  refine kw_draw hmix ?_
  refine kdraw_ex ?_
  refine ex_s J (ex_s J (ex_s J (zaz J J (zaa J) (fun _=>(zkm J ts39 zex J J xa J J xa)) (ex_s J (ex_s J (zaz J J (zaa J) (fun _=>(zi7 J ts39 zex J J J xa)) ?_))))))
  refine ze8 (W:=[0]) J J (zaa J) (zn9 (k:=m) (n:=n-m) rfl ts39 zex xe J .sub rfl (by rw[hrl];omega) rfl (.pre 0 _ _ J J m (by rw[hrl];omega))) (fun _ h=>zbo h) ?_
  refine zaz J J (zaa J) (fun _=>(za2 J J J hw)) (ex_s J ?_)
  refine ze7 (by kernel_rfl) ?_
  refine zcf (zah ?_)
  exact⟨m+min m (n-m),⟨by omega,by omega⟩,by omega,kwk_st [0] rfl xe ⟨⟨_,rfl, .rowE (z0d _ _ _) hst2⟩,trivial⟩ ⟨.own 0 0 2 _ _ J J, .lo _ (.s _),trivial⟩⟩
 ·
  have ei:m=n:=by omega
  subst ei
  (refine kw_exit ?_;repeat (first|refine zep ?_|refine zcg ?_|refine zbz J ?_|refine zcf ?_|refine zah ?_|refine kw_seq ?_|refine kw_skip ?_|refine kw_block ?_))
  refine kw_region (kops_s J (kops_s J (kops_nil (zah ?_))))
  (refine kw_ret ?_;repeat (first|refine zbg ?_|refine zbh ?_))
  exact⟨.inr rfl,rfl,by simp[repR]⟩
end K1
end Aw
namespace Aw
open Go.RowKit Go.Proofs
variable {P:Program}[IsP P]
def colL (p:LP)(j:Nat):List Fr:=p.a.map fun r=>gti r j
theorem post_c {N:Nat}{F:Frm}{σ:List Ob}{ad:Nat}{ty:TypeId}{id sz k n bt:Nat}{z:Option Value}{ob:Ob}{cs:List AV}{e1 r:AV}{e:Exit}(he:e= .normal∨e= .ret)(ha:zcw P ty=some true)(hi:za6 P ty=some (z,n,bt))(hp:F.get ad= .ptr id sz k 0)(hs:σ[id]?=some ob)(ho:ze6 ob=some (sz,cs))(hk:cs[k]?=some e1)(hn:e1.cells.length=n)(hr:AV.agg e1.cells=r):zl6 P [.cell ad ty] r e F σ:=
 ⟨he,[.agg e1.cells], .cons _ _ _ _ (.cells ad ty id sz k n bt z ob cs e1 ha hi hp hs ho hk hn) .nil,hr▸ .refl _⟩
def zew (n:Nat):List Fr:=List.replicate n (Fr.of 0)
namespace K1
end K1
theorem repO {f:FuncId}{args:List AV}{a:Fr}{n:Nat}(h:CallE P f args [] (.own 0 2 n) [.row 2 (List.replicate n (eF a))])(hn:1≤n)(hlo: ∀a∈args,Lo 0 a):PureO P f args 2 ((List.replicate n a).map eF):=by
 rw[List.map_replicate]
 refine z3c h J xm xa (fun e he c hc=>?_) hlo
 rw[List.eq_of_mem_replicate he] at hc
 simp only[eF,AV.cells,List.mem_cons,List.mem_nil_iff,or_false] at hc
 rcases hc with rfl|rfl<;>exact⟨_,rfl⟩
end Aw
namespace Aw
def val (a:Fr):Rat:=(a.n:Rat) / (a.d:Rat)
theorem lo_FF (A:List (List Fr)):Lo 0 (eL (eL eF) A):=zdj fun r=>zop r
theorem lo_P (p:LP):Lo 0 (eP p):= .agg _ (zaj (zop _) (zaj (lo_FF _) (zaj (zdj fun _=> .s _) (zaj (zop _) zba))))
end Aw
namespace Aw
open Go.RowKit Go.Proofs
variable {P:Program}[IsP P]
def metF (p:LP)(x b:List Fr):Nat→Nat→Bool × Int
 |0,_=>(true,0)
 |n+1,k=>if (dotE (gti p.a k) x).e≠0 then(false,(dotE (gti p.a k) x).e) else if relC (cmpE ⟨(dotE (gti p.a k) x).n,(dotE (gti p.a k) x).d⟩ (gti b k)).1 (gti p.rel k)=true then metF p x b n (k+1) else(false,0)
def metR (p:LP)(x b:List Fr):Bool × Int:=metF p x b p.a.length 0
def metX (p:LP)(x b:List Fr):Bool × Int:=if x.any negB=true then(false,0) else metR p x b
def rhs (p:LP)(z:Bool):List Fr:=if z=true then zew p.a.length else p.b
end Aw
namespace Aw
open Go.RowKit Go.Proofs
variable {P:Program}[IsP P]
def undF (p:LP)(y most:List Fr):Nat→Nat→Bool × Int
 |0,_=>(true,0)
 |n+1,k=>if (dotE (colL p k) y).e≠0 then(false,(dotE (colL p k) y).e) else if relC (cmpE ⟨(dotE (colL p k) y).n,(dotE (colL p k) y).d⟩ (gti most k)).1 1=true then undF p y most n (k+1) else(false,0)
def undR (p:LP)(y most:List Fr):Bool × Int:=undF p y most p.c.length 0
def wanted (p:LP)(z:Bool):List Fr:=if z=true then zew p.c.length else p.c
end Aw
namespace Aw
open Go.RowKit Go.Proofs
variable {P:Program}[IsP P]
def solB (p:LP)(x:List Fr):Bool:=fineX x p.c.length && ((metX p x p.b).1 && decide ((metX p x p.b).2=0))
end Aw
namespace Aw
open Go.RowKit Go.Proofs
variable {P:Program}[IsP P]
noncomputable def decP (p:Prop):Bool:= @decide p (Classical.propDecidable p)
structure Sol where
 kind:Int
 x:List Fr
 y:List Fr
 ray:List Fr
 v:Fr
def eSol (s:Sol):AV:= .agg [eI s.kind,eL eF s.x,eL eF s.y,eL eF s.ray,eI s.v.n,eI s.v.d]
def Opt (b1 b2 b3 u:Bool)(l:Nat)(dx dy:FE)(v:Fr):Prop:=b1=true∧b2=true∧b3=true∧l=0∧u=true∧dx.e=0∧dy.e=0∧(dx.n=dy.n∧dx.d=dy.d)∧(v.n=dx.n∧v.d=dx.d)
def Inf (l l2:Nat)(v:Fr)(b2 b3 u:Bool)(dy:FE):Prop:=l=0∧l2=0∧(v.n=0∧v.d=0)∧b2=true∧b3=true∧u=true∧dy.e=0∧dy.n>0
def Unb (l:Nat)(v:Fr)(b1 b2:Bool)(r:Bool × Int)(dr:FE):Prop:=l=0∧(v.n=0∧v.d=0)∧b1=true∧b2=true∧r.1=true∧r.2=0∧dr.e=0∧dr.n<0
noncomputable def zgi (p:LP)(s:Sol):Bool:=
 if validP p=true then
  if s.kind=1 then decP (Opt (solB p s.x) (fineX s.y p.a.length) (z5k p s.y) (undR p s.y p.c).1 s.ray.length (dotE p.c s.x) (dotE p.b s.y) s.v)
  else if s.kind=2 then decP (Inf s.x.length s.ray.length s.v (fineX s.y p.a.length) (z5k p s.y) (undR p s.y (zew p.c.length)).1 (dotE p.b s.y))
  else if s.kind=3 then decP (Unb s.y.length s.v (solB p s.x) (fineX s.ray p.c.length) (metX p s.ray (zew p.a.length)) (dotE p.c s.ray))
  else false
 else false
end Aw
namespace Aw
open Go Go.RowKit Go.Proofs
variable {P:Program}[IsP P]
def unF:AV→Option Fr
 | .agg [.s (.int .i64 a), .s (.int .i64 b)]=>some ⟨a,b⟩
 |_=>none
theorem zyc {x:AV}{a:Fr}(h:unF x=some a):x=eF a:=by
 unfold unF at h
 split at h
 ·
  cases h;rfl
 ·
  cases h
def orc2 (f:Nat)(a b:Fr):Option AV:=
 bif Nat.beq f 214 then some (eFE (mulE a b)) else
 bif Nat.beq f 211 then some (eFE (subE a b)) else
 bif Nat.beq f 212 then some (eFE (divE a b)) else
 bif Nat.beq f 215 then some (eFE (addE a b)) else
 bif Nat.beq f 238 then some (.tup [eI (cmpE a b).1,eI (cmpE a b).2]) else none
def orcF:Orc:=fun f args=>match args with
 | [x]=>bif Nat.beq f 112 then match unF x with
   |some a=>some (eB a.okB)
   |none=>none
  else none
 | [x,y]=>match unF x with
  |none=>none
  |some a=>match unF y with
   |none=>none
   |some b=>orc2 f a b
 |_=>none
theorem zfa:zid P orcF:=by
 intro f args r h
 unfold orcF at h
 split at h
 ·
  rename_i x
  cases hb:Nat.beq f 112 with
  |false=>rw[hb] at h;cases h
  | true=>
   rw[hb,cond_true] at h
   split at h
   ·
    rename_i a ha;cases h;rw[Nat.eq_of_beq_eq_true hb,zyc ha];exact znw a
   ·
    cases h
 ·
  rename_i x y
  split at h
  ·
   cases h
  ·
   rename_i a ha
   split at h
   ·
    cases h
   ·
    rename_i b hb
    rw[zyc ha,zyc hb]
    unfold orc2 at h
    cases h1:Nat.beq f 214 with
    |true=>rw[h1] at h;cases h;rw[Nat.eq_of_beq_eq_true h1];exact z8a a b
    |false=>
    rw[h1,cond_false] at h
    cases h1:Nat.beq f 211 with
    |true=>rw[h1] at h;cases h;rw[Nat.eq_of_beq_eq_true h1];exact z79 a b
    |false=>
    rw[h1,cond_false] at h
    cases h1:Nat.beq f 212 with
    |true=>rw[h1] at h;cases h;rw[Nat.eq_of_beq_eq_true h1];exact z8b a b
    |false=>
    rw[h1,cond_false] at h
    cases h1:Nat.beq f 215 with
    |true=>rw[h1] at h;cases h;rw[Nat.eq_of_beq_eq_true h1];exact z8d a b
    |false=>
    rw[h1,cond_false] at h
    cases h1:Nat.beq f 238 with
    |true=>rw[h1] at h;cases h;rw[Nat.eq_of_beq_eq_true h1];exact z8c a b
    |false=>rw[h1,cond_false] at h;cases h
 ·
  cases h
end Aw
end Go.Proofs.YtjdpnadhgjohnaaGreatDoor
