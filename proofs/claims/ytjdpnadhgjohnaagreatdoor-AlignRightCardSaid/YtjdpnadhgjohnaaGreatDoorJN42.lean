import Derived.Test.YtjdpnadhgjohnaaGreatDoorJN0
import Derived.Test.YtjdpnadhgjohnaaGreatDoorJN41
import Derived.Test.YtjdpnadhgjohnaaGreatDoorJN21
import Derived.Test.YtjdpnadhgjohnaaGreatDoorJN29
import Derived.Test.YtjdpnadhgjohnaaGreatDoorJN36
set_option linter.unusedSimpArgs false
set_option linter.unusedVariables false
set_option linter.unusedSectionVars false
namespace Go.Proofs.YtjdpnadhgjohnaaGreatDoor
namespace Dl
open Go.RowKit
theorem z21 {l:List ByteArray}{i j:Nat}(hi:i<l.length)(hj:j<l.length){x:ByteArray}(h:x∈swpB l i j):x∈l:=by
 unfold swpB at h
 rcases List.mem_or_eq_of_mem_set h with h|rfl
 ·
  rcases List.mem_or_eq_of_mem_set h with h|rfl
  ·
   exact h
  ·
   exact gti_mem hj
 ·
  exact gti_mem hi
theorem zwh: ∀ (j:Nat) {l:List ByteArray},j<l.length→ ∀x∈bubS l j,x∈l
 |0,l,_,x,h=>h
 | j+1,l,hj,x,h=>by
  unfold bubS at h
  split at h
  ·
   exact z21 hj xa (zwh j (by rw[zp5];omega) x h)
  ·
   exact h
theorem zu9 {l:List ByteArray}: ∀i,i≤l.length→ ∀x∈srtS l i,x∈l
 |0,_,x,h=>h
 |i+1,hi,x,h=>by
  unfold srtS at h
  exact zu9 i xa x (zwh i (by rw[zj0];omega) x h)
end Dl
namespace Aw
open Go Go.RowKit Go.Proofs Go.Maps Go.WideMaps Dl
theorem zqw: ∀ (l:List ByteArray), ∀x∈dstS l,x∈l
 |[],x,h=>h
 | a::l,x,h=>by
  unfold dstS at h
  split at h
  ·
   rcases List.mem_append.1 h with h|h
   ·
    exact List.mem_cons_of_mem _ (zqw l x h)
   ·
    simp at h;subst h;exact List.mem_cons_self
  ·
   exact List.mem_cons_of_mem _ (zqw l x h)
theorem z47 {W:List ByteArray}{x:ByteArray}(h:x∈actW W):x∈W:=by
 unfold actW at h
 have h1:=zqw _ x (zu9 _ (Nat.le_refl _) x h)
 simpa using h1
theorem z48 (W:List ByteArray):(actW W).length≤W.length:=by
 unfold actW
 rw[zj0]
 have:=zmg W.reverse
 rwa [List.length_reverse] at this
theorem z3i (k:Nat)(p:Int)(i:Nat):gti (oneL k p) i=if p.toNat=i∧i<k then 1 else 0:=by
 unfold oneL gti
 rw[List.getElem?_set]
 by_cases h:p.toNat=i
 ·
  by_cases h2:i<k
  ·
   simp[h,h2]
  ·
   simp only[h,if_true,List.length_replicate,h2,if_false,and_false];rfl
 ·
  by_cases h2:i<k
  ·
   simp[h,List.getElem?_replicate,h2]
  ·
   simp only[h,if_false,List.getElem?_replicate,h2,false_and];rfl
theorem z4v (W:List ByteArray)(a:ByteArray):cntS W.reverse a=cntS W a:=by
 unfold cntS
 rw[List.filter_reverse,List.length_reverse]
theorem z2f {a a' b c d e f g x y z:Ob}{id:Nat}(h:id ∉ [0,2,3,4,7,8,9]):[a',b, .dead, .dead, .dead,f,g,x,y,z][id]?=[a,b,c,d,e,f,g][id]?:=by
 match id,h with
 |0,h=>simp at h
 |1,_=>rfl
 |2,h=>simp at h
 |3,h=>simp at h
 |4,h=>simp at h
 |5,_=>rfl
 |6,_=>rfl
 |7,h=>simp at h
 |8,h=>simp at h
 |9,h=>simp at h
 |n+10,_=>rfl
theorem Frs.set_at (l:List Fr)(t:Nat)(x:Fr)(y:AV)(hy:y=eF x):(l.map eF).set t y=(l.set t x).map eF:=by rw[hy,List.map_set]
def ePgE (r:LP × Int):AV:= .tup [eP r.1,eI r.2]
theorem lo_PgE {k:Nat}(r:LP × Int):Lo k (ePgE r):=lo_up (.tup _ (zaj (lo_P r.1) (zaj (.s _) zba)))
variable {P:Program}[IsP P]
theorem zk3 {F:Frm}{σ:List Ob}{r:LP × Int}{id sz:Nat}{ob:Ob}{cs:List AV}{e1 x1 x2 x3 x4:AV}{e:Exit}(he:e= .normal∨e= .ret)(hp:F.get 8= .ptr id sz 0 0)(hs:σ[id]?=some ob)(ho:ze6 ob=some (sz,cs))(hk:cs[0]?=some e1)(hn:e1.cells=[x1,x2,x3,x4])
  (h1:Fini σ x1 (eL eF r.1.c)) (h2:Fini σ x2 (eL (eL eF) r.1.a)) (h3:Fini σ x3 (eL eI r.1.rel)) (h4:Fini σ x4 (eL eF r.1.b)) (hu:F.get 9=eI r.2):zl6 P [.cell 8 42, .tmp 9] (ePgE r) e F σ:=by
 refine⟨he,[.agg e1.cells,eI r.2], .cons _ _ _ _ (.cells 8 42 id sz 0 4 _ _ ob cs e1 ta42 ti42 hp hs ho hk (by rw[hn];rfl)) (.cons _ _ _ _ (.tmp 9 _ hu) .nil),?_⟩
 rw[hn]
 have h:Fini σ (.agg [x1,x2,x3,x4]) (eP r.1):= .agg _ _ J (zeq.cons h1 (zeq.cons h2 (zeq.cons h3 (zeq.cons h4 zeq.nil)))).2
 exact .tup _ _ J (zeq.cons h (zeq.cons (.refl _) zeq.nil)).2
abbrev fPg (P:Program)(n:Net)(w:List ByteArray)(c:Cst)(s:List Int)(acts:List ByteArray)(cols:Nat):Frm:=[(3,eL eI s),(4, .ref (eN n).cells),(6, .ref (eC c).cells),(8, .ptr 5 4 0 0),(12,eL eS acts),(13, .mp 6),(14,eI cols),(16,eL eI (oneL n.places.toNat n.sink)),(18, .ptr 0 4 0 0)]
def stPr (C:List Fr)(A:List (List Fr))(R:List Int)(B:List Fr)(X:MapX)(l:List Fr):List Ob:=[.row 4 [ePg C.length A.length R.length B.length], .row 2 (C.map eF), .row 1 (A.map (eL eF)), .row 1 (R.map eI), .row 2 (B.map eF), .row 4 [zPg], .mp X, .row 2 (l.map eF)]
def stPs (C:List Fr)(A:List (List Fr))(R:List Int)(B:List Fr)(X:MapX)(l l':List Fr):List Ob:=[.row 4 [ePg C.length A.length R.length B.length], .row 2 (C.map eF), .row 1 (A.map (eL eF)), .row 1 (R.map eI), .row 2 (B.map eF), .row 4 [zPg], .mp X, .row 2 (l.map eF), .row 2 (l'.map eF)]
theorem zkf {ρ:List Nat}{f:FuncId}(h:ρ[0]?=some 0):Rn ρ (.fn f [.ptr 0 4 0 0]) (.fn f [.ptr 0 4 0 0]):=
 .fn f _ _ J (fun j x y hx hy=>by
  match j,hx,hy with
  |0,hx,hy=>cases hx;cases hy;exact .ptr 0 0 4 0 0 h
  |j+1,hx,_=>simp at hx)
set_option maxHeartbeats 16000000 in
theorem zw6 (n:Net)(w:List ByteArray)(c:Cst)(s:List Int)(hw12:zb1 n w s=true→w.length≤12):Pure P 17 [eN n,eL eS w,eC c,eL eI s] (ePgE (prgO n w c s)):=by
 have hM:=zvm (P:=P) n w s
 have hV:=zjv (P:=P) c
 have hR:prgO n w c s=if zb1 n w s=false∨vcB c=false then(zLP,1) else
  if n.trans.length+(actW (w.drop (gti s 0).toNat)).length<1∨12<n.trans.length+(actW (w.drop (gti s 0).toNat)).length∨12<n.places+2*((actW (w.drop (gti s 0).toNat)).length:Int) then(zLP,5) else(prgL n w c s,0):=rfl
 have hLp:prgL n w c s=⟨ziz n c n.trans.length (actW (w.drop (gti s 0).toNat)).length,plA n (n.trans.length+(actW (w.drop (gti s 0).toNat)).length) n.places.toNat++acA n (n.trans.length+(actW (w.drop (gti s 0).toNat)).length) (actW (w.drop (gti s 0).toNat)) (actW (w.drop (gti s 0).toNat)).length,List.replicate n.places.toNat 3++acR (actW (w.drop (gti s 0).toNat)).length,plB n s n.places.toNat++acB (w.drop (gti s 0).toNat) (actW (w.drop (gti s 0).toNat)) (actW (w.drop (gti s 0).toNat)).length⟩:=rfl
 generalize prgL n w c s=LPr at hLp hR
 generalize prgO n w c s=R at hR⊢
 have hln:Lo 0 (.ref (eN n).cells):= .ref _ (lo_N n).cells
 have hlc:Lo 0 (.ref (eC c).cells):= .ref _ (lo_C c).cells
 have hls:Lo 0 (eL eI s):=lo_I
 refine zd1 (by rw[IsP.eq (P:=P)];exact Tryz.func17) rfl J J J J (zaj (lo_N n) (zaj (lo_W w) (zaj (lo_C c) (zaj lo_I zba)))) (lo_PgE _) (by simp only[argF];rfl) ?_
 refine zag (zab (zad J J (zaa J) (zbt J J J J) ?_))
 refine zax (zbw (id:=0) rfl) (zax (zci (d:=4) rfl J J) ?_)
 refine zad J J (zaa J) (zbt J J J J) ?_
 refine zax (zbw (id:=1) rfl) (zax (zci (d:=6) rfl J J) ?_)
 refine zad J J (zaa J) (zcd J ti42 J J) (zac J (zae (zag (zag ?_))))
 cases hz:zb1 n w s with
 |false=>
  have hMe:zhq n w s=([],1):=by unfold zhq;rw[hz];rfl
  rw[hMe] at hM
  rw[if_pos (.inl hz)] at hR
  subst hR
  refine zab (zby ta24 ti24 J (zac J (zac J (zad J J (zaa J) (zai J J (hM) (zaf J (zaf J (zaf J zaq)))) (zac J (zac J (zac J (zac J (zac J (zae (zag (zab (zac J (zad J J (zaa J) (zbn xe (zbv J J J)) (zac J (zbb J (zbb J (zbb J (zac J (zae (zah (za7 J (zag (zab (zad J J (zaa J) (zcc J ti42 tp42 J J) (zcm J (zaa J) (zat J ti42 J J J J J J xe xe) ?_))))))))))))))))))))))))))
  refine zac J (zae (zah ?_))
  (refine za3 ?_;repeat (first|refine zbg ?_|refine zbh ?_))
  exact zk3 (.inr rfl) rfl J J J J .nil .nil .nil .nil rfl
 |true=>
 have hMe:zhq n w s=(zb8 n w s,0):=by unfold zhq;rw[hz];rfl
 rw[hMe] at hM
 replace hM:Pure P 43 [eN n,eL eS w,eL eI s] (.tup [eL eSt (zb8 n w s),eI 0]):=hM
 generalize zb8 n w s=ml at hM
 refine zab (zby ta24 ti24 J (zac J (zac J (zad J J (zaa J) (zai J J (hM) (zaf J (zaf J (zaf J zaq)))) (zac J (zac J (zac J (zac J (zac J (zae (zag ?_)))))))))))
 cases hvc:vcB c with
 |false=>
  rw[if_pos (.inr hvc)] at hR
  rw[hvc] at hV
  subst hR
  refine zab (zac J ?_)
  refine zad J J (zaa J) (zbl (fun h=>h J) (zbv J J J)) ?_
  refine zac J (zby ta27 ti27 J (zad J J (zap J J J) (zai J J (hV) (zaf J zaq)) (zad J J (zap J J J) (zbs J J) (zac J (zae (zah (za7 J (zag (zab (zad J J (zaa J) (zcc J ti42 tp42 J J) (zcm J (zaa J) (zat J ti42 J J J J J J xe xe) (zac J (zae (zah ?_))))))))))))))
  (refine za3 ?_;repeat (first|refine zbg ?_|refine zbh ?_))
  exact zk3 (.inr rfl) rfl J J J J .nil .nil .nil .nil rfl
 |true=>
 rw[if_neg (by rw[hz,hvc];simp)] at hR
 rw[hvc] at hV
 have hcb:(0≤c.log∧c.log≤1000)∧(0≤c.model∧c.model≤1000)∧(0≤c.silent∧c.silent≤1000):=by
  unfold vcB inB at hvc
  simp only[Bool.and_eq_true,decide_eq_true_eq] at hvc
  exact hvc
 refine zab (zac J ?_)
 refine zad J J (zaa J) (zbl (fun h=>h J) (zbv J J J)) ?_
 refine zac J (zby ta27 ti27 J (zad J J (zap J J J) (zai J J (hV) (zaf J zaq)) (zad J J (zap J J J) (zbs J J) (zac J (zae (zah (zaw J (zav (zag ?_)))))))))
 clear hM hV
 have hw12:=hw12 hz
 obtain⟨z1,z2,z3,z4,z5⟩:=zdb.1 hz
 have hval:zb7 n=true:=by
  unfold zdd at z5
  simp only[Bool.and_eq_true] at z5
  exact z5.1
 have hpl:=zbu hval
 obtain⟨p,hp⟩: ∃p:Nat,gti s 0=p:=⟨(gti s 0).toNat,by omega⟩
 rw[hp,Int.toNat_natCast] at hR hLp
 have hnm: ∀a∈w,a.size≤40:=fun a ha=>by
  unfold zd0 at z1
  simp only[Bool.and_eq_true,List.all_eq_true] at z1
  have h1:=z1.2 a ha
  unfold zf9 at h1
  simp only[Bool.and_eq_true,decide_eq_true_eq] at h1
  omega
 have hrest:=K1.rest_call (P:=P) 4 [zPg] zem w p xa hw12 hnm
 have hWm: ∀a∈w.drop p,a.size≤40:=fun a ha=>hnm a (List.mem_of_mem_drop ha)
 have hWl:(w.drop p).length≤12:=by rw[List.length_drop];omega
 generalize w.drop p=W at hR hLp hrest hWm hWl
 have hal:=z48 W
 have ham: ∀a∈actW W,a.size≤40:=fun a ha=>hWm a (z47 ha)
 generalize hacts:actW W=acts at hR hLp hrest hal ham
 have hs0:(s.map eI)[0]?=some (eI (p:Int)):=by rw[←hp];exact zdk xa
 refine za4 (zdl (σ':=[.row 4 [zPg]]) [2] xe ⟨⟨_,rfl, .rowE zem J⟩,trivial⟩ (F':=[(1,eL eS w),(3,eL eI s),(4, .ref (eN n).cells),(6, .ref (eC c).cells),(8, .ptr 0 4 0 0)]) ⟨.lo _ (lo_W w), .lo _ hls, .lo _ hln, .lo _ hlc, .ptr 2 0 4 0 0 J,trivial⟩) ?_
 refine zab (zac J (zac J (zad J J (zaa J) (za1 J ts38 ti3 J J J hs0 J) (zbq ta3 J (zad J J (zaa J) (zb4 J J hrest J) (zac J (zac J (zac J (zac J (zac J (zae (zag ?_))))))))))))
 refine za4 (zbw (id:=2) rfl) (za4 (z2s (d:=12) rfl J (List.length_map _).symm) ?_)
 refine za4 (zdl (σ':=[.row 4 [zPg], .mp (cntX P W)]) [0,1] xe ⟨⟨_,rfl, .rowE zem J⟩,⟨_,rfl,zej J⟩,trivial⟩ (F':=[(3,eL eI s),(4, .ref (eN n).cells),(6, .ref (eC c).cells),(8, .ptr 0 4 0 0),(12,eL eS acts),(13, .mp 1)]) ⟨.lo _ hls, .lo _ hln, .lo _ hlc, .ptr 0 0 4 0 0 J, .lo _ (lo_W acts), .mp 1 1 J,trivial⟩) ?_
 have hA12:acts.length≤12:=by omega
 obtain⟨cols,hcols⟩: ∃cols,n.trans.length+acts.length=cols:=⟨_,rfl⟩
 rw[hcols] at hLp hR
 have hcw:IntKind.i64.wrap ((n.trans.length:Int)+(acts.length:Int))=(cols:Int):=by rw[←hcols];exact IntWalk.i64_in _ xa
 refine zb6 hmix ?_
 refine zbj (by kernel_rfl) ?_
 refine qx_f zdi J (qx_l ta22 J (zbi J J (zaa J) (zan J ts22 J) (qx_s J (zbi J J (zaa J) (zan J ts25 J) (zbi J J (zaa J) (za2 J J J hcw) (qx_f zfn J (qx_l ta3 J (qx_s J (zbi J J (zaa J) (zan J ts25 J) (zbi J J (zaa J) (ze3 J J J (IntWalk.i64_in _ xa)) (zbi J J (zaa J) (za2 J J J (IntWalk.i64_in _ xa)) (qx_s J (qx_s J ?_)))))))))))))
 refine zds ?_
 refine zag (zag ?_)
 by_cases h1:cols<1
 ·
  rw[if_pos (.inl h1)] at hR
  subst hR
  refine zab (zac J (zad J J (zaa J) (zbn xa (za0 J J J)) (zac J (zbb J (zbb J (zac J (zac J (zbb J (zbb J (zac J (zae (zah (za7 J (zag (zab (zad J J (zaa J) (zcc J ti42 tp42 J J) (zcm J (zaa J) (zat J ti42 J J J J J J xe xe) (zac J (zae (zah ?_))))))))))))))))))))
  (refine za3 ?_;repeat (first|refine zbg ?_|refine zbh ?_))
  exact zk3 (.inr rfl) rfl J J J J .nil .nil .nil .nil rfl
 by_cases h2:12<cols
 ·
  rw[if_pos (.inr (.inl h2))] at hR
  subst hR
  refine zab (zac J (zad J J (zaa J) (zbl xa (za0 J J J)) (zac J (zac J (zad J J (zap J J J) (zbn xa (zay J J J)) (zac J (zac J (zbb J (zbb J (zac J (zae (zah (za7 J (zag (zab (zad J J (zaa J) (zcc J ti42 tp42 J J) (zcm J (zaa J) (zat J ti42 J J J J J J xe xe) (zac J (zae (zah ?_))))))))))))))))))))
  (refine za3 ?_;repeat (first|refine zbg ?_|refine zbh ?_))
  exact zk3 (.inr rfl) rfl J J J J .nil .nil .nil .nil rfl
 by_cases h3:12<n.places+2*(acts.length:Int)
 ·
  rw[if_pos (.inr (.inr h3))] at hR
  subst hR
  refine zab (zac J (zad J J (zaa J) (zbl xa (za0 J J J)) (zac J (zac J (zad J J (zap J J J) (zbl xa (zay J J J)) (zac J (zac J (zac J (zad J J (zap J J J) (zbn xa (zay J J J)) (zac J (zae (zah (za7 J (zag (zab (zad J J (zaa J) (zcc J ti42 tp42 J J) (zcm J (zaa J) (zat J ti42 J J J J J J xe xe) (zac J (zae (zah ?_))))))))))))))))))))
  (refine za3 ?_;repeat (first|refine zbg ?_|refine zbh ?_))
  exact zk3 (.inr rfl) rfl J J J J .nil .nil .nil .nil rfl
 rw[if_neg xa] at hR
 refine zab (zac J (zad J J (zaa J) (zbl xa (za0 J J J)) (zac J (zac J (zad J J (zap J J J) (zbl xa (zay J J J)) (zac J (zac J (zac J (zad J J (zap J J J) (zbl xa (zay J J J)) (zac J (zae (zah (zaw J (zav (zag ?_)))))))))))))))
 have hFi:=z4b (P:=P) n
 rw[znb hval] at hFi
 replace hFi:Pure P 46 [eN n] (.tup [eL eI (oneL n.places.toNat n.sink),eI 0]):=hFi
 refine zab (zby ta24 ti24 J (zad J J (zaa J) (zai J J (hFi) (zaf J zaq)) (zac J (zac J (zac J (zac J (zac J (zae (zag (zag (zab (zac J ?_))))))))))))
 refine zad J J (zaa J) (zbl (fun h=>h J) (zbv J J J)) ?_
 refine zae (zah (zaw J (zav (zag (zab (zad J J (zaa J) (zcd J ti42 J J) (zae (zag (zag ?_)))))))))
 refine za4 (zgl (id:=2) (sz2:=2) (e':= .agg [.own 3 2 0, .s (.slice none 0 0), .s (.slice none 0 0), .s (.slice none 0 0)]) (pre:=[]) (post:=[.s (.slice none 0 0), .s (.slice none 0 0), .s (.slice none 0 0)]) J J J) ?_
 refine za4 (zgl (id:=2) (sz2:=1) (e':= .agg [.own 3 2 0, .own 4 1 0, .s (.slice none 0 0), .s (.slice none 0 0)]) (pre:=[.own 3 2 0]) (post:=[.s (.slice none 0 0), .s (.slice none 0 0)]) J J J) ?_
 refine za4 (zgl (id:=2) (sz2:=1) (e':= .agg [.own 3 2 0, .own 4 1 0, .own 5 1 0, .s (.slice none 0 0)]) (pre:=[.own 3 2 0, .own 4 1 0]) (post:=[.s (.slice none 0 0)]) J J J) ?_
 refine za4 (zgl (id:=2) (sz2:=2) (e':= .agg [.own 3 2 0, .own 4 1 0, .own 5 1 0, .own 6 2 0]) (pre:=[.own 3 2 0, .own 4 1 0, .own 5 1 0]) (post:=[]) J J J) ?_
 have hlf:Lo 0 (eL eI (oneL n.places.toNat n.sink)):=lo_I
 have hla:Lo 0 (eL eS acts):=lo_W acts
 have hlt:Lo 0 (eL eT n.trans):=zdj fun t=>lo_T t
 refine za4 (zdl (σ':=stPg [] [] [] [] (cntX P W)) [2,3,4,5,6,0,1] xe ⟨⟨_,rfl,zco (.cons (.own _ _ _ _ _ J J) (.cons (.own _ _ _ _ _ J J) (.cons (.own _ _ _ _ _ J J) (.cons (.own _ _ _ _ _ J J) .nil))))⟩,⟨_,rfl, .rowE (zbp []) J⟩,⟨_,rfl, .rowE (zd7 []) J⟩,⟨_,rfl, .rowE (zd6 []) J⟩,⟨_,rfl, .rowE (zbp []) J⟩,⟨_,rfl, .rowE zem J⟩,⟨_,rfl,zej J⟩,trivial⟩ (F':=fPg P n w c s acts cols) ⟨.lo _ hls, .lo _ hln, .lo _ hlc, .ptr 0 5 4 0 0 J, .lo _ hla, .mp 1 6 J, .lo _ (.s _), .lo _ hlf, .ptr 2 0 4 0 0 J,trivial⟩) ?_
 have rn0: ∀ (C:List Fr) (A:List (List Fr)) (R:List Int) (B:List Fr),True:=fun _ _ _ _=>trivial
 refine zab (zbm zdi J (zbq ta22 J (zad J J (zaa J) (zan J ts22 J) (zac J (zae (zah (za9 ?_)))))))
 refine zdq (S:=Nat) (fun k=>(88,eL eT n.trans)::(89,eI n.trans.length)::(90,eI k)::fPg P n w c s acts cols) (fun k=>stPg (ziz n c k 0) [] [] [] (cntX P W)) (fun k=>k≤n.trans.length) (fun k=>n.trans.length-k) 0 (zcv _ ⟨rfl,rfl,rfl,rfl,rfl,rfl,rfl,rfl,rfl,rfl,rfl,rfl,trivial⟩) (Nat.zero_le _) (fun k hk=>?_)
 replace hk:k≤n.trans.length:=hk
 refine zag ?_
 by_cases hlk:k<n.trans.length
 ·
  have hit:(n.trans.map eT)[k]?=some (eT (gti n.trans k)):=zdk hlk
  have hCs:ziz n c (k+1) 0=ziz n c k 0++[trC c (gti n.trans k)]:=by
   unfold ziz
   rw[List.take_add_one,zbr hlk];simp
  have hCl:(ziz n c k 0).length=k:=by unfold ziz;simp;omega
  generalize gti n.trans k=tr at hit hCs
  have htr:Lo 0 (.ref (eT tr).cells):= .ref _ (lo_T tr).cells
  refine zab (zad J J (zaa J) (zbn xa (za0 J J J)) (zae (zag (za7 J (zav (zag (za9 (zag (zab (zad J J (zaa J) (za1 J ts22 ti76 J J J hit J) (zby ta76 ti76 J (zad J J (zaa J) (zcd J ti76 J J) (zcm J (zaa J) (zat J ti76 J J J J J J xe xe) (zae (zag ?_)))))))))))))))
  refine za4 (zbw (id:=7) rfl) (za4 (zci (d:=20) rfl J J) ?_)
  refine za4 (zdl (σ':=stPg (ziz n c k 0) [] [] [] (cntX P W)) [0,1,2,3,4,5,6] xe ⟨⟨_,rfl,zco (.cons (.own _ _ _ _ _ J xb) (.cons (.own _ _ _ _ _ J xb) (.cons (.own _ _ _ _ _ J xb) (.cons (.own _ _ _ _ _ J xb) .nil))))⟩,⟨_,rfl, .rowE (zbp _) rfl⟩,⟨_,rfl, .rowE (zd7 _) rfl⟩,⟨_,rfl, .rowE (zd6 _) rfl⟩,⟨_,rfl, .rowE (zbp _) rfl⟩,⟨_,rfl, .rowE zem J⟩,⟨_,rfl,zej J⟩,trivial⟩ (F':=(20, .ref (eT tr).cells)::(88,eL eT n.trans)::(89,eI n.trans.length)::(90,eI k)::fPg P n w c s acts cols) ⟨.lo _ htr, .lo _ hlt, .lo _ (.s _), .lo _ (.s _), .lo _ hls, .lo _ hln, .lo _ hlc, .ptr 5 5 4 0 0 J, .lo _ hla, .mp 6 6 J, .lo _ (.s _), .lo _ hlf, .ptr 0 0 4 0 0 J,trivial⟩) ?_
  obtain⟨lab,inn,out⟩:=tr
  by_cases hem:lab={data:= #[]}
  ·
   have hin:=zeu (P:=P) c.silent
   have htc:trC c ⟨lab,inn,out⟩=Fr.of c.silent:=by unfold trC;rw[if_pos hem]
   refine zab (zbm zo2 J (zbq ta9 J (zad J J (zaa J) (zbn hem (zkp J J J)) (zae (zah (za7 J ?_))))))
   refine zb6 hmix ?_
   refine zgj ?_
   refine ex_f zo3 J (zb5 J J (zaa J) (zb9 J ta39 J J J J J) (ex_f tf27_2 J (ex_l ta3 J (zaz J J (zaa J) (fun _=>(zai J J (hin) (zaf J zaq))) (zaz J J (zaa J) (fun _=>(zel J ts39 zex J J xe xe J J J (.agg _ (zaj (.s _) (zaj (.s _) zba))))) ?_)))))
   refine ze8 J J (zaa J) (zca J ts39 zex J xe J J xp J xf xg xg) (fun _ h=>zc4 h) ?_
   refine ex_f zo3 J ?_
   refine zcx J (zaa J) (zat J ti39 J J J J J J xe xe) (fun _ h=>zbo h) ?_
   refine ze7 (by kernel_rfl) ?_
   refine zcf (zah (zab (zad J J (zaa J) (za2 J J J (IntWalk.i64_in _ xa)) (zac J (zae (zah ?_))))))
   exact⟨k+1,by show k+1≤n.trans.length;omega,by show n.trans.length-(k+1)<n.trans.length-k;omega,zdl [0,7,2,3,4,5,6] xe ⟨⟨_,rfl,zco (.cons (.own _ _ _ _ _ J (by first|rfl|(simp[hCs];done)|(simp[hCs];omega))) (.cons (.own _ _ _ _ _ J (by first|rfl|(simp[hCs];done)|(simp[hCs];omega))) (.cons (.own _ _ _ _ _ J (by first|rfl|(simp[hCs];done)|(simp[hCs];omega))) (.cons (.own _ _ _ _ _ J (by first|rfl|(simp[hCs];done)|(simp[hCs];omega))) .nil))))⟩,⟨_,rfl, .rowE (zbp _) (by rw[hCs,htc,List.map_append];rfl)⟩,⟨_,rfl, .rowE (zd7 _) rfl⟩,⟨_,rfl, .rowE (zd6 _) rfl⟩,⟨_,rfl, .rowE (zbp _) rfl⟩,⟨_,rfl, .rowE zem J⟩,⟨_,rfl,zej J⟩,trivial⟩ ⟨.lo _ hlt, .lo _ (.s _), .lo _ (.s _), .lo _ hls, .lo _ hln, .lo _ hlc, .ptr 5 5 4 0 0 J, .lo _ hla, .mp 6 6 J, .lo _ (.s _), .lo _ hlf, .ptr 0 0 4 0 0 J,trivial⟩⟩
  ·
   have hin:=zeu (P:=P) c.model
   have htc:trC c ⟨lab,inn,out⟩=Fr.of c.model:=by unfold trC;rw[if_neg hem]
   refine zab (zbm zo2 J (zbq ta9 J (zad J J (zaa J) (zbl hem (zkp J J J)) (zae (zah (zaw J ?_))))))
   refine zb6 hmix ?_
   refine zgj ?_
   refine ex_f zo3 J (zb5 J J (zaa J) (zb9 J ta39 J J J J J) (ex_f z5h J (ex_l ta3 J (zaz J J (zaa J) (fun _=>(zai J J (hin) (zaf J zaq))) (zaz J J (zaa J) (fun _=>(zel J ts39 zex J J xe xe J J J (.agg _ (zaj (.s _) (zaj (.s _) zba))))) ?_)))))
   refine ze8 J J (zaa J) (zca J ts39 zex J xe J J xp J xf xg xg) (fun _ h=>zc4 h) ?_
   refine ex_f zo3 J ?_
   refine zcx J (zaa J) (zat J ti39 J J J J J J xe xe) (fun _ h=>zbo h) ?_
   refine ze7 (by kernel_rfl) ?_
   refine zcf (zah (zab (zad J J (zaa J) (za2 J J J (IntWalk.i64_in _ xa)) (zac J (zae (zah ?_))))))
   exact⟨k+1,by show k+1≤n.trans.length;omega,by show n.trans.length-(k+1)<n.trans.length-k;omega,zdl [0,7,2,3,4,5,6] xe ⟨⟨_,rfl,zco (.cons (.own _ _ _ _ _ J (by first|rfl|(simp[hCs];done)|(simp[hCs];omega))) (.cons (.own _ _ _ _ _ J (by first|rfl|(simp[hCs];done)|(simp[hCs];omega))) (.cons (.own _ _ _ _ _ J (by first|rfl|(simp[hCs];done)|(simp[hCs];omega))) (.cons (.own _ _ _ _ _ J (by first|rfl|(simp[hCs];done)|(simp[hCs];omega))) .nil))))⟩,⟨_,rfl, .rowE (zbp _) (by rw[hCs,htc,List.map_append];rfl)⟩,⟨_,rfl, .rowE (zd7 _) rfl⟩,⟨_,rfl, .rowE (zd6 _) rfl⟩,⟨_,rfl, .rowE (zbp _) rfl⟩,⟨_,rfl, .rowE zem J⟩,⟨_,rfl,zej J⟩,trivial⟩ ⟨.lo _ hlt, .lo _ (.s _), .lo _ (.s _), .lo _ hls, .lo _ hln, .lo _ hlc, .ptr 5 5 4 0 0 J, .lo _ hla, .mp 6 6 J, .lo _ (.s _), .lo _ hlf, .ptr 0 0 4 0 0 J,trivial⟩⟩
 have e:k=n.trans.length:=by omega
 subst e
 refine zab (zad J J (zaa J) (zbl xa (za0 J J J)) (zae (zag (zaw J ?_))))
 (refine zdz ?_;repeat (first|refine zep ?_|refine zcg ?_|refine zbz J ?_|refine zcf ?_|refine zah ?_|refine zag ?_|refine zav ?_|refine za9 ?_))
 refine zab (zac J (zad J J (zaa J) (zan J ts25 J) (zac J (zae (zah (za9 ?_))))))
 refine zdq (S:=Nat) (fun k=>(115,eI acts.length)::(116,eI k)::fPg P n w c s acts cols) (fun k=>stPg (ziz n c n.trans.length k) [] [] [] (cntX P W)) (fun k=>k≤acts.length) (fun k=>acts.length-k) 0 (zcv _ ⟨rfl,rfl,rfl,rfl,rfl,rfl,rfl,rfl,rfl,rfl,rfl,trivial⟩) (Nat.zero_le _) (fun k hk2=>?_)
 replace hk2:k≤acts.length:=hk2
 refine zag ?_
 by_cases hlk:k<acts.length
 ·
  have hin:Pure P 47 [eI (0-c.log-c.model)] (eF (Fr.of (-c.log-c.model))):=by
   rw[show -c.log-c.model=0-c.log-c.model by omega]
   exact zeu _
  have hCs:ziz n c n.trans.length (k+1)=ziz n c n.trans.length k++[Fr.of (-c.log-c.model)]:=by
   unfold ziz
   rw[List.replicate_succ',List.append_assoc]
  have hCl:(ziz n c n.trans.length k).length=n.trans.length+k:=by unfold ziz;simp
  refine zab (zad J J (zaa J) (zbn xa (za0 J J J)) (zae (zag (za7 J (zav (zag (za9 ?_)))))))
  refine zb6 hmix ?_
  refine zgj ?_
  refine ex_f zo3 J (zb5 J J (zaa J) (zb9 J ta39 J J J J J) (ex_f zu6 J (ex_l ta3 J (zaz J J (zaa J) (fun _=>(zwa J J (IntWalk.i64_in _ xa))) (ex_f z5h J (ex_l ta3 J (zaz J J (zaa J) (fun _=>(zcb J J J (IntWalk.i64_in _ xa))) (zaz J J (zaa J) (fun _=>(zai J J (hin) (zaf J zaq))) (zaz J J (zaa J) (fun _=>(zel J ts39 zex J J xe xe J J J (.agg _ (zaj (.s _) (zaj (.s _) zba))))) ?_)))))))))
  refine ze8 J J (zaa J) (zca J ts39 zex J xe J J xp J xf xg xg) (fun _ h=>zc4 h) ?_
  refine ex_f zo3 J ?_
  refine zcx J (zaa J) (zat J ti39 J J J J J J xe xe) (fun _ h=>zbo h) ?_
  refine ze7 (by kernel_rfl) ?_
  refine zcf (zah (zab (zad J J (zaa J) (za2 J J J (IntWalk.i64_in _ xa)) (zac J (zae (zah ?_))))))
  exact⟨k+1,by show k+1≤acts.length;omega,by show acts.length-(k+1)<acts.length-k;omega,zdl [0,7,2,3,4,5,6] xe ⟨⟨_,rfl,zco (.cons (.own _ _ _ _ _ J (by first|rfl|(simp[hCs];done)|(simp[hCs];omega))) (.cons (.own _ _ _ _ _ J (by first|rfl|(simp[hCs];done)|(simp[hCs];omega))) (.cons (.own _ _ _ _ _ J (by first|rfl|(simp[hCs];done)|(simp[hCs];omega))) (.cons (.own _ _ _ _ _ J (by first|rfl|(simp[hCs];done)|(simp[hCs];omega))) .nil))))⟩,⟨_,rfl, .rowE (zbp _) (by rw[hCs,List.map_append];rfl)⟩,⟨_,rfl, .rowE (zd7 _) rfl⟩,⟨_,rfl, .rowE (zd6 _) rfl⟩,⟨_,rfl, .rowE (zbp _) rfl⟩,⟨_,rfl, .rowE zem J⟩,⟨_,rfl,zej J⟩,trivial⟩ ⟨.lo _ (.s _), .lo _ (.s _), .lo _ hls, .lo _ hln, .lo _ hlc, .ptr 5 5 4 0 0 J, .lo _ hla, .mp 6 6 J, .lo _ (.s _), .lo _ hlf, .ptr 0 0 4 0 0 J,trivial⟩⟩
 have e:k=acts.length:=by omega
 subst e
 refine zab (zad J J (zaa J) (zbl xa (za0 J J J)) (zae (zag (zaw J ?_))))
 (refine zdz ?_;repeat (first|refine zep ?_|refine zcg ?_|refine zbz J ?_|refine zcf ?_|refine zah ?_|refine zag ?_|refine zav ?_|refine za9 ?_))
 obtain⟨CC,hCC⟩: ∃CC,ziz n c n.trans.length acts.length=CC:=⟨_,rfl⟩
 rw[hCC] at hLp⊢
 refine zab (zad J J (zaa J) (zsv J J) (zac J (zae (zag (zag (zab (zbm zfn J (zbq ta3 J (zac J (zae (zah (za9 ?_))))))))))))
 obtain⟨pl,hpn⟩: ∃pl:Nat,n.places=pl:=⟨n.places.toNat,by omega⟩
 have hpt:n.places.toNat=pl:=by omega
 have hsl:s.length=pl+1:=by
  have h4:=zr5 z5
  rw[List.length_drop] at h4
  omega
 rw[hpt] at hLp
 have hlfn:Lo 0 (.fn 48 []):= .fn _ _ xm
 have hfl:(oneL n.places.toNat n.sink).length=pl:=by rw[zgc,hpt]
 refine zdq (S:=Nat) (fun i=>(21, .fn 48 [.ptr 0 4 0 0])::(133,eI pl)::(134,eI i)::fPg P n w c s acts cols) (fun i=>stPg CC (plA n cols i) (List.replicate i 3) (plB n s i) (cntX P W)) (fun i=>i≤pl) (fun i=>pl-i) 0 (zcv _ ⟨rfl,congrArg eI hpn,rfl,rfl,rfl,rfl,rfl,rfl,rfl,rfl,rfl,rfl,trivial⟩) (Nat.zero_le _) (fun i hi=>?_)
 replace hi:i≤pl:=hi
 refine zag ?_
 have hAl:(plA n cols i).length=i:=by simp[plA]
 have hBl:(plB n s i).length=i:=by simp[plB]
 by_cases hlk:i<pl
 ·
  have hz:=zsz (P:=P) cols xa
  refine zab (zad J J (zaa J) (zbn xa (za0 J J J)) (zae (zag (za7 J (zav (zag (za9 (zag (zab (zac J (zac J (zae (zag (zab (zac J (zad J J (zaa J) (zlg J J (hz) (zaf J zaq)) (zac J (zae (zag (zag (zab (zbm zdi J (zbq ta22 J (zad J J (zaa J) (zan J ts22 J) (zac J (zae (zah (za9 ?_))))))))))))))))))))))))))))
  have hzl:((zew cols).map eF).length=cols:=by simp[zew]
  refine zdq (S:=Nat) (fun t=>(22,eI i)::(23, .own 7 2 cols)::(140,eL eT n.trans)::(141,eI n.trans.length)::(142,eI t)::(21, .fn 48 [.ptr 0 4 0 0])::(133,eI pl)::(134,eI i)::fPg P n w c s acts cols) (fun t=>stPr CC (plA n cols i) (List.replicate i 3) (plB n s i) (cntX P W) (plR n cols i t)) (fun t=>t≤n.trans.length) (fun t=>n.trans.length-t) 0
   (zdl [0,1,2,3,4,5,6,7] xe ⟨⟨_,rfl,zco (.cons (.own _ _ _ _ _ J xb) (.cons (.own _ _ _ _ _ J xb) (.cons (.own _ _ _ _ _ J xb) (.cons (.own _ _ _ _ _ J xb) .nil))))⟩,⟨_,rfl, .rowE (zbp _) rfl⟩,⟨_,rfl, .rowE (zd7 _) rfl⟩,⟨_,rfl, .rowE (zd6 _) rfl⟩,⟨_,rfl, .rowE (zbp _) rfl⟩,⟨_,rfl, .rowE zem J⟩,⟨_,rfl,zej J⟩,⟨_,rfl, .rowE (zbp _) (by rw[plR_0])⟩,trivial⟩ ⟨.lo _ (.s _), .own 7 7 2 _ _ J hzl, .lo _ hlt, .lo _ (.s _), .lo _ (.s _),zkf J, .lo _ (.s _), .lo _ (.s _), .lo _ hls, .lo _ hln, .lo _ hlc, .ptr 5 5 4 0 0 J, .lo _ hla, .mp 6 6 J, .lo _ (.s _), .lo _ hlf, .ptr 0 0 4 0 0 J,trivial⟩) (Nat.zero_le _) (fun t ht=>?_)
  replace ht:t≤n.trans.length:=ht
  refine zag ?_
  have hrl:=z7b n cols i t
  by_cases hlt2:t<n.trans.length
  ·
   have hit:(n.trans.map eT)[t]?=some (eT (gti n.trans t)):=zdk hlt2
   have hin:=inc_pf (P:=P) (gti n.trans t) i
   have hig:=zeu (P:=P) (incI (gti n.trans t) i)
   have hst:=z7a (n:=n) (i:=i) (t:=t) (show t<cols by omega)
   have hel:=z0u (l:=plR n cols i t) (i:=t) xa
   generalize gti n.trans t=tr at hit hin hig hst
   have htr:Lo 0 (.ref (eT tr).cells):= .ref _ (lo_T tr).cells
   refine zab (zad J J (zaa J) (zbn xa (za0 J J J)) (zae (zag (za7 J (zav (zag (za9 (zag (zab (zac J (zad J J (zaa J) (za1 J ts22 ti76 J J J hit J) (zby ta76 ti76 J (zad J J (zaa J) (zcd J ti76 J J) (zac J (zcm J (zaa J) (zat J ti76 J J J J J J xe xe) (zae (zah ?_)))))))))))))))))
   refine za4 (zbw (id:=8) rfl) (za4 (zci (d:=25) rfl J J) ?_)
   refine za4 (zdl (σ':=stPr CC (plA n cols i) (List.replicate i 3) (plB n s i) (cntX P W) (plR n cols i t)) [0,1,2,3,4,5,6,7] xe ⟨⟨_,rfl,zco (.cons (.own _ _ _ _ _ J xb) (.cons (.own _ _ _ _ _ J xb) (.cons (.own _ _ _ _ _ J xb) (.cons (.own _ _ _ _ _ J xb) .nil))))⟩,⟨_,rfl, .rowE (zbp _) rfl⟩,⟨_,rfl, .rowE (zd7 _) rfl⟩,⟨_,rfl, .rowE (zd6 _) rfl⟩,⟨_,rfl, .rowE (zbp _) rfl⟩,⟨_,rfl, .rowE zem J⟩,⟨_,rfl,zej J⟩,⟨_,rfl, .rowE (zbp _) rfl⟩,trivial⟩ (F':=(24,eI t)::(25, .ref (eT tr).cells)::(22,eI i)::(23, .own 7 2 cols)::(140,eL eT n.trans)::(141,eI n.trans.length)::(142,eI t)::(21, .fn 48 [.ptr 0 4 0 0])::(133,eI pl)::(134,eI i)::fPg P n w c s acts cols) ⟨.lo _ (.s _), .lo _ htr, .lo _ (.s _), .own 7 7 2 _ _ J J, .lo _ hlt, .lo _ (.s _), .lo _ (.s _),zkf J, .lo _ (.s _), .lo _ (.s _), .lo _ hls, .lo _ hln, .lo _ hlc, .ptr 5 5 4 0 0 J, .lo _ hla, .mp 6 6 J, .lo _ (.s _), .lo _ hlf, .ptr 0 0 4 0 0 J,trivial⟩) ?_
   refine zab (zac J (zac J (zby ta76 ti76 J (zac J (zad J J (zaa J) (zai J J (hin) (zaf J (zaf J zaq))) (zad J J (zaa J) (zai J J (hig) (zaf J zaq)) (zad J J (zaa J) (zal J ts39 zex J J J xa) (zcm J (zaa J) (zat J zex J J J hel J J xe xe) (zae (zcf (zah (zab (zad J J (zaa J) (za2 J J J (IntWalk.i64_in _ xa)) (zac J (zae (zah ?_))))))))))))))))
   exact⟨t+1,by show t+1≤n.trans.length;omega,by show n.trans.length-(t+1)<n.trans.length-t;omega,zdl [0,1,2,3,4,5,6,7] xe ⟨⟨_,rfl,zco (.cons (.own _ _ _ _ _ J xb) (.cons (.own _ _ _ _ _ J xb) (.cons (.own _ _ _ _ _ J xb) (.cons (.own _ _ _ _ _ J xb) .nil))))⟩,⟨_,rfl, .rowE (zbp _) rfl⟩,⟨_,rfl, .rowE (zd7 _) rfl⟩,⟨_,rfl, .rowE (zd6 _) rfl⟩,⟨_,rfl, .rowE (zbp _) rfl⟩,⟨_,rfl, .rowE zem J⟩,⟨_,rfl,zej J⟩,⟨_,rfl, .rowE (zbp _) (by rw[←hst];exact Frs.set_at _ _ _ _ J)⟩,trivial⟩ ⟨.lo _ (.s _), .own 7 7 2 _ _ J J, .lo _ hlt, .lo _ (.s _), .lo _ (.s _),zkf J, .lo _ (.s _), .lo _ (.s _), .lo _ hls, .lo _ hln, .lo _ hlc, .ptr 5 5 4 0 0 J, .lo _ hla, .mp 6 6 J, .lo _ (.s _), .lo _ hlf, .ptr 0 0 4 0 0 J,trivial⟩⟩
  have e:t=n.trans.length:=by omega
  subst e
  refine zab (zad J J (zaa J) (zbl xa (za0 J J J)) (zae (zag (zaw J ?_))))
  (refine zdz ?_;repeat (first|refine zep ?_|refine zcg ?_|refine zbz J ?_|refine zcf ?_|refine zah ?_|refine zag ?_|refine zav ?_|refine za9 ?_))
  refine za4 (zbw (id:=7) rfl) (za4 (z2s (d:=23) rfl J (by simp[hrl])) ?_)
  have hadd:=zrb (P:=P) CC (plA n cols i) (List.replicate i 3) (plB n s i) (cntX P W) (plR n cols i n.trans.length) 3 (gti (oneL n.places.toNat n.sink) i-gti s (1+i)) xa (by simp[hAl]) xa
  have hlr:Lo 0 (eL eF (plR n cols i n.trans.length)):=zop _
  have hfi:((oneL n.places.toNat n.sink).map eI)[i]?=some (eI (gti (oneL n.places.toNat n.sink) i)):=zdk xa
  have hsi:(s.map eI)[1+i]?=some (eI (gti s (1+i))):=zdk xa
  have hki:(1:Int)+(i:Int)=((1+i:Nat):Int):=by omega
  have hfb:0≤gti (oneL n.places.toNat n.sink) i∧gti (oneL n.places.toNat n.sink) i≤1:=by
   rw[z3i];split<;>omega
  have hsb:0≤gti s (1+i)∧gti s (1+i)≤255:=by
   have h4:=znh z5 (gti s (1+i)) (by
    have h5:gti s (1+i)=gti (s.drop 1) i:=by unfold gti;rw[List.getElem?_drop]
    rw[h5]
    exact gti_mem (by rw[List.length_drop];omega))
   exact h4
  refine za4 (zdl (σ':=stPg CC (plA n cols i) (List.replicate i 3) (plB n s i) (cntX P W)) [0,1,2,3,4,5,6] xe ⟨⟨_,rfl,zco (.cons (.own _ _ _ _ _ J xb) (.cons (.own _ _ _ _ _ J xb) (.cons (.own _ _ _ _ _ J xb) (.cons (.own _ _ _ _ _ J xb) .nil))))⟩,⟨_,rfl, .rowE (zbp _) rfl⟩,⟨_,rfl, .rowE (zd7 _) rfl⟩,⟨_,rfl, .rowE (zd6 _) rfl⟩,⟨_,rfl, .rowE (zbp _) rfl⟩,⟨_,rfl, .rowE zem J⟩,⟨_,rfl,zej J⟩,trivial⟩ (F':=(22,eI i)::(23,eL eF (plR n cols i n.trans.length))::(21, .fn 48 [.ptr 0 4 0 0])::(133,eI pl)::(134,eI i)::fPg P n w c s acts cols) ⟨.lo _ (.s _), .lo _ hlr,zkf J, .lo _ (.s _), .lo _ (.s _), .lo _ hls, .lo _ hln, .lo _ hlc, .ptr 5 5 4 0 0 J, .lo _ hla, .mp 6 6 J, .lo _ (.s _), .lo _ hlf, .ptr 0 0 4 0 0 J,trivial⟩) ?_
  have hAs:plA n cols (i+1)=plA n cols i++[plR n cols i n.trans.length]:=by simp[plA,List.range_succ]
  have hBs:plB n s (i+1)=plB n s i++[Fr.of (gti (oneL n.places.toNat n.sink) i-gti s (1+i))]:=by simp[plB,List.range_succ]
  have hRs:List.replicate (i+1) (3:Int)=List.replicate i 3++[3]:=List.replicate_succ'
  refine zb6 hmix ?_
  refine zgj ?_
  refine ex_s J (ex_s J (ex_s J (ex_s J (zaz J J (zaa J) (fun _=>(za1 J ts38 ti3 J J J hfi J)) (ex_l ta3 J (ex_s J (ex_s J (zaz J J (zaa J) (fun _=>(za2 J J J (IntWalk.i64_in _ xa))) (zaz J J (zaa J) (fun _=>(za1 J ts38 ti3 J J hki hsi J)) (ex_l ta3 J (zaz J J (zaa J) (fun _=>(zcb J J J (IntWalk.i64_in _ xa))) ?_)))))))))))
  refine ze8 (W:=[0,2,3,4,7,8,9]) J J (zaa J) (zb4 J J hadd J) (fun _ h=>z2f h) ?_
  refine ze7 (by kernel_rfl) ?_
  refine zcf (zah (zab (zad J J (zaa J) (za2 J J J (IntWalk.i64_in _ xa)) (zac J (zae (zah ?_))))))
  exact⟨i+1,by show i+1≤pl;omega,by show pl-(i+1)<pl-i;omega,zdl [0,1,7,8,9,5,6] xe ⟨⟨_,rfl,zco (.cons (.own _ _ _ _ _ J (by first|rfl|(simp[hAs,hRs,hBs];done)|(simp[hAs,hRs,hBs];omega))) (.cons (.own _ _ _ _ _ J (by first|rfl|(simp[hAs,hRs,hBs];done)|(simp[hAs,hRs,hBs];omega))) (.cons (.own _ _ _ _ _ J (by first|rfl|(simp[hAs,hRs,hBs];done)|(simp[hAs,hRs,hBs];omega))) (.cons (.own _ _ _ _ _ J (by first|rfl|(simp[hAs,hRs,hBs];done)|(simp[hAs,hRs,hBs];omega))) .nil))))⟩,⟨_,rfl, .rowE (zbp _) rfl⟩,⟨_,rfl, .rowE (zd7 _) (by rw[hAs])⟩,⟨_,rfl, .rowE (zd6 _) (by rw[hRs])⟩,⟨_,rfl, .rowE (zbp _) (by rw[hBs])⟩,⟨_,rfl, .rowE zem J⟩,⟨_,rfl,zej J⟩,trivial⟩ ⟨zkf J, .lo _ (.s _), .lo _ (.s _), .lo _ hls, .lo _ hln, .lo _ hlc, .ptr 5 5 4 0 0 J, .lo _ hla, .mp 6 6 J, .lo _ (.s _), .lo _ hlf, .ptr 0 0 4 0 0 J,trivial⟩⟩
 have e:i=pl:=by omega
 subst e
 refine zab (zad J J (zaa J) (zbl xa (za0 J J J)) (zae (zag (zaw J ?_))))
 (refine zdz ?_;repeat (first|refine zep ?_|refine zcg ?_|refine zbz J ?_|refine zcf ?_|refine zah ?_|refine zag ?_|refine zav ?_|refine za9 ?_))
 refine zab (zac J (zad J J (zaa J) (zan J ts25 J) (zac J (zae (zah (za9 ?_))))))
 generalize hPA:plA n cols i=PA at hLp hAl⊢
 generalize hPB:plB n s i=PB at hLp hBl⊢
 refine zdq (S:=Nat) (fun k=>(21, .fn 48 [.ptr 0 4 0 0])::(169,eL eS acts)::(170,eI acts.length)::(171,eI k)::fPg P n w c s acts cols) (fun k=>stPg CC (PA++acA n cols acts k) (List.replicate i 3++acR k) (PB++acB W acts k) (cntX P W)) (fun k=>k≤acts.length) (fun k=>acts.length-k) 0
  (zdl [0,1,2,3,4,5,6] xe ⟨⟨_,rfl,zco (.cons (.own _ _ _ _ _ J (by first|rfl|(simp[acA,acR,acB];done)|(simp[acA,acR,acB];omega))) (.cons (.own _ _ _ _ _ J (by first|rfl|(simp[acA,acR,acB];done)|(simp[acA,acR,acB];omega))) (.cons (.own _ _ _ _ _ J (by first|rfl|(simp[acA,acR,acB];done)|(simp[acA,acR,acB];omega))) (.cons (.own _ _ _ _ _ J (by first|rfl|(simp[acA,acR,acB];done)|(simp[acA,acR,acB];omega))) .nil))))⟩,⟨_,rfl, .rowE (zbp _) rfl⟩,⟨_,rfl, .rowE (zd7 _) (by simp[acA])⟩,⟨_,rfl, .rowE (zd6 _) (by simp[acR])⟩,⟨_,rfl, .rowE (zbp _) (by simp[acB])⟩,⟨_,rfl, .rowE zem J⟩,⟨_,rfl,zej J⟩,trivial⟩ ⟨zkf J, .lo _ hla, .lo _ (.s _), .lo _ (.s _), .lo _ hls, .lo _ hln, .lo _ hlc, .ptr 5 5 4 0 0 J, .lo _ hla, .mp 6 6 J, .lo _ (.s _), .lo _ hlf, .ptr 0 0 4 0 0 J,trivial⟩) (Nat.zero_le _) (fun k hk3=>?_)
 replace hk3:k≤acts.length:=hk3
 refine zag ?_
 by_cases hlk:k<acts.length
 ·
  have hz:=zsz (P:=P) cols xa
  have hzl:((zew cols).map eF).length=cols:=by simp[zew]
  have hia:(acts.map eS)[k]?=some (eS (gti acts k)):=zdk hlk
  refine zab (zad J J (zaa J) (zbn xa (za0 J J J)) (zae (zag (za7 J (zav (zag (za9 (zag (zab (zac J (zad J J (zaa J) (za1 J ts25 ti9 J J J hia J) (zbq ta9 J (zac J (zac J (zae (zag (zab (zac J (zad J J (zaa J) (zlg J J (hz) (zaf J zaq)) (zac J (zad J J (zaa J) (zlg J J (hz) (zaf J zaq)) (zac J (zac J (zae (zag ?_)))))))))))))))))))))))))
  have hks0:=ham _ (gti_mem hlk)
  have hlook:=zkr (gti acts k) W.reverse
  rw[z4v] at hlook
  have hXD:(cntX P W).D=cntR W.reverse:=rfl
  rw[←hXD] at hlook
  have hAs:=zre n cols acts k
  have hBs:=zrd W acts k
  have hRs:=zrc k
  have hAk:=z2j n cols acts k
  have hBk:=z2i W acts k
  have hRk:=z2h k
  have hcnt:=z1y W (gti acts k)
  generalize hag:gti acts k=a at hia hks0 hlook hAs hBs hcnt
  have hks:a.size≤maxLen:=by unfold maxLen;omega
  generalize hcn:cntS W a=cn at hlook hBs hcnt
  refine za4 (zdl (σ':=stPs CC (PA++acA n cols acts k) (List.replicate i 3++acR k) (PB++acB W acts k) (cntX P W) (zew cols) (zew cols)) [0,1,2,3,4,5,6,7,8] xe ⟨⟨_,rfl,zco (.cons (.own _ _ _ _ _ J xb) (.cons (.own _ _ _ _ _ J xb) (.cons (.own _ _ _ _ _ J xb) (.cons (.own _ _ _ _ _ J xb) .nil))))⟩,⟨_,rfl, .rowE (zbp _) rfl⟩,⟨_,rfl, .rowE (zd7 _) rfl⟩,⟨_,rfl, .rowE (zd6 _) rfl⟩,⟨_,rfl, .rowE (zbp _) rfl⟩,⟨_,rfl, .rowE zem J⟩,⟨_,rfl,zej J⟩,⟨_,rfl, .rowE (zbp _) rfl⟩,⟨_,rfl, .rowE (zbp _) rfl⟩,trivial⟩ (F':=(26,eI k)::(27,eS a)::(28, .own 7 2 cols)::(29, .own 8 2 cols)::(21, .fn 48 [.ptr 0 4 0 0])::(169,eL eS acts)::(170,eI acts.length)::(171,eI k)::fPg P n w c s acts cols) ⟨.lo _ (.s _), .lo _ (.s _), .own 7 7 2 _ _ J hzl, .own 8 8 2 _ _ J hzl,zkf J, .lo _ hla, .lo _ (.s _), .lo _ (.s _), .lo _ hls, .lo _ hln, .lo _ hlc, .ptr 5 5 4 0 0 J, .lo _ hla, .mp 6 6 J, .lo _ (.s _), .lo _ hlf, .ptr 0 0 4 0 0 J,trivial⟩) ?_
  have hg1:=zeu (P:=P) 1
  have hkT:((n.trans.length:Int)+(k:Int))=((n.trans.length+k:Nat):Int):=by omega
  have hzl2:(zew cols).length=cols:=by simp[zew]
  have hel:=z0u (l:=zew cols) (i:=n.trans.length+k) xa
  refine zb6 hmix ?_
  refine zgj ?_
  refine ex_s J (ex_f zdi J (ex_l ta22 J (zaz J J (zaa J) (fun _=>(zan J ts22 J)) (ex_s J (zaz J J (zaa J) (fun _=>(za2 J J J (IntWalk.i64_in _ xa))) (ex_s J (ex_f zdi J (ex_l ta22 J (zaz J J (zaa J) (fun _=>(zan J ts22 J)) (ex_s J (zaz J J (zaa J) (fun _=>(za2 J J J (IntWalk.i64_in _ xa))) (zaz J J (zaa J) (fun _=>(zai J J (hg1) (zaf J zaq))) (zaz J J (zaa J) (fun _=>(zai J J (hg1) (zaf J zaq))) ?_)))))))))))))
  refine zaz J J (zaa J) (fun _=>(zal J ts39 zex J J hkT xa)) ?_
  refine zcx J (zaa J) (zat J zex J J J hel J J xe xe) (fun _ h=>zbo h) ?_
  refine zaz J J (zaa J) (fun _=>(zal J ts39 zex J J hkT xa)) ?_
  refine zcx J (zaa J) (zat J zex J J J hel J J xe xe) (fun _ h=>zbo h) ?_
  refine ze7 (by kernel_rfl) ?_
  refine zag (zag (zab (zbm zdi J (zbq ta22 J (zad J J (zaa J) (zan J ts22 J) (zac J (zae (zah (za9 ?_)))))))))
  have hfl1:(rowF n cols k).length=cols:=by simp[rowF,zew]
  refine zdq (S:=Nat) (fun t=>(26,eI k)::(27,eS a)::(28, .own 7 2 cols)::(29, .own 8 2 cols)::(197,eL eT n.trans)::(198,eI n.trans.length)::(199,eI t)::(21, .fn 48 [.ptr 0 4 0 0])::(169,eL eS acts)::(170,eI acts.length)::(171,eI k)::fPg P n w c s acts cols) (fun t=>stPs CC (PA++acA n cols acts k) (List.replicate i 3++acR k) (PB++acB W acts k) (cntX P W) (rowF n cols k) (rowS n cols a k t)) (fun t=>t≤n.trans.length) (fun t=>n.trans.length-t) 0
   (zdl [0,1,2,3,4,5,6,7,8] xe ⟨⟨_,rfl,zco (.cons (.own _ _ _ _ _ J xb) (.cons (.own _ _ _ _ _ J xb) (.cons (.own _ _ _ _ _ J xb) (.cons (.own _ _ _ _ _ J xb) .nil))))⟩,⟨_,rfl, .rowE (zbp _) rfl⟩,⟨_,rfl, .rowE (zd7 _) rfl⟩,⟨_,rfl, .rowE (zd6 _) rfl⟩,⟨_,rfl, .rowE (zbp _) rfl⟩,⟨_,rfl, .rowE zem J⟩,⟨_,rfl,zej J⟩,⟨_,rfl, .rowE (zbp _) (Frs.set_at _ _ _ _ J)⟩,⟨_,rfl, .rowE (zbp _) (by rw[rowS_0 xa];exact Frs.set_at _ _ _ _ J)⟩,trivial⟩ ⟨.lo _ (.s _), .lo _ (.s _), .own 7 7 2 _ _ J J, .own 8 8 2 _ _ J J, .lo _ hlt, .lo _ (.s _), .lo _ (.s _),zkf J, .lo _ hla, .lo _ (.s _), .lo _ (.s _), .lo _ hls, .lo _ hln, .lo _ hlc, .ptr 5 5 4 0 0 J, .lo _ hla, .mp 6 6 J, .lo _ (.s _), .lo _ hlf, .ptr 0 0 4 0 0 J,trivial⟩) (Nat.zero_le _) (fun t ht=>?_)
  replace ht:t≤n.trans.length:=ht
  refine zag ?_
  have hrl:=z26 n cols a k t
  by_cases hlt2:t<n.trans.length
  ·
   have hit:(n.trans.map eT)[t]?=some (eT (gti n.trans t)):=zdk hlt2
   have hst:=fun h=>z25 (n:=n) (cols:=cols) (a:=a) (k:=k) (t:=t) (show t<cols by omega) h
   have hsk:=fun h=>zys (n:=n) (cols:=cols) (a:=a) (k:=k) (t:=t) h
   have hel2:=z0u (l:=rowS n cols a k t) (i:=t) xa
   generalize gti n.trans t=tr at hit hst hsk
   have htr:Lo 0 (.ref (eT tr).cells):= .ref _ (lo_T tr).cells
   refine zab (zad J J (zaa J) (zbn xa (za0 J J J)) (zae (zag (za7 J (zav (zag (za9 (zag (zab (zac J (zad J J (zaa J) (za1 J ts22 ti76 J J J hit J) (zby ta76 ti76 J (zad J J (zaa J) (zcd J ti76 J J) (zac J (zcm J (zaa J) (zat J ti76 J J J J J J xe xe) (zae (zag ?_)))))))))))))))))
   refine za4 (zbw (id:=9) rfl) (za4 (zci (d:=31) rfl J J) ?_)
   refine za4 (zdl (σ':=stPs CC (PA++acA n cols acts k) (List.replicate i 3++acR k) (PB++acB W acts k) (cntX P W) (rowF n cols k) (rowS n cols a k t)) [0,1,2,3,4,5,6,7,8] xe ⟨⟨_,rfl,zco (.cons (.own _ _ _ _ _ J xb) (.cons (.own _ _ _ _ _ J xb) (.cons (.own _ _ _ _ _ J xb) (.cons (.own _ _ _ _ _ J xb) .nil))))⟩,⟨_,rfl, .rowE (zbp _) rfl⟩,⟨_,rfl, .rowE (zd7 _) rfl⟩,⟨_,rfl, .rowE (zd6 _) rfl⟩,⟨_,rfl, .rowE (zbp _) rfl⟩,⟨_,rfl, .rowE zem J⟩,⟨_,rfl,zej J⟩,⟨_,rfl, .rowE (zbp _) rfl⟩,⟨_,rfl, .rowE (zbp _) rfl⟩,trivial⟩ (F':=(30,eI t)::(31, .ref (eT tr).cells)::(26,eI k)::(27,eS a)::(28, .own 7 2 cols)::(29, .own 8 2 cols)::(197,eL eT n.trans)::(198,eI n.trans.length)::(199,eI t)::(21, .fn 48 [.ptr 0 4 0 0])::(169,eL eS acts)::(170,eI acts.length)::(171,eI k)::fPg P n w c s acts cols) ⟨.lo _ (.s _), .lo _ htr, .lo _ (.s _), .lo _ (.s _), .own 7 7 2 _ _ J J, .own 8 8 2 _ _ J J, .lo _ hlt, .lo _ (.s _), .lo _ (.s _),zkf J, .lo _ hla, .lo _ (.s _), .lo _ (.s _), .lo _ hls, .lo _ hln, .lo _ hlc, .ptr 5 5 4 0 0 J, .lo _ hla, .mp 6 6 J, .lo _ (.s _), .lo _ hlf, .ptr 0 0 4 0 0 J,trivial⟩) ?_
   obtain⟨lab,inn,out⟩:=tr
   by_cases hla2:lab=a
   ·
    have hgm:=zeu (P:=P) (-1)
    refine zab (zbm zo2 J (zbq ta9 J (zac J (zad J J (zaa J) (zbn hla2 (zkp J J J)) (zae (zah (za7 J (zab (zac J (zac J (zad J J (zaa J) (zai J J (hgm) (zaf J zaq)) (zad J J (zaa J) (zal J ts39 zex J J J xa) (zcm J (zaa J) (zat J zex J J J hel2 J J xe xe) (zae (zcf (zah (zab (zad J J (zaa J) (za2 J J J (IntWalk.i64_in _ xa)) (zac J ?_)))))))))))))))))))
    refine zae (zah ?_)
    exact⟨t+1,by show t+1≤n.trans.length;omega,by show n.trans.length-(t+1)<n.trans.length-t;omega,zdl [0,1,2,3,4,5,6,7,8] xe ⟨⟨_,rfl,zco (.cons (.own _ _ _ _ _ J xb) (.cons (.own _ _ _ _ _ J xb) (.cons (.own _ _ _ _ _ J xb) (.cons (.own _ _ _ _ _ J xb) .nil))))⟩,⟨_,rfl, .rowE (zbp _) rfl⟩,⟨_,rfl, .rowE (zd7 _) rfl⟩,⟨_,rfl, .rowE (zd6 _) rfl⟩,⟨_,rfl, .rowE (zbp _) rfl⟩,⟨_,rfl, .rowE zem J⟩,⟨_,rfl,zej J⟩,⟨_,rfl, .rowE (zbp _) rfl⟩,⟨_,rfl, .rowE (zbp _) (by rw[←hst hla2];exact Frs.set_at _ _ _ _ J)⟩,trivial⟩ ⟨.lo _ (.s _), .lo _ (.s _), .own 7 7 2 _ _ J J, .own 8 8 2 _ _ J J, .lo _ hlt, .lo _ (.s _), .lo _ (.s _),zkf J, .lo _ hla, .lo _ (.s _), .lo _ (.s _), .lo _ hls, .lo _ hln, .lo _ hlc, .ptr 5 5 4 0 0 J, .lo _ hla, .mp 6 6 J, .lo _ (.s _), .lo _ hlf, .ptr 0 0 4 0 0 J,trivial⟩⟩
   ·
    refine zab (zbm zo2 J (zbq ta9 J (zac J (zad J J (zaa J) (zbl hla2 (zkp J J J)) (zae (zah (zaw J (zav (zcf (zah (zab (zad J J (zaa J) (za2 J J J (IntWalk.i64_in _ xa)) (zac J (zae (zah ?_)))))))))))))))
    exact⟨t+1,by show t+1≤n.trans.length;omega,by show n.trans.length-(t+1)<n.trans.length-t;omega,zdl [0,1,2,3,4,5,6,7,8] xe ⟨⟨_,rfl,zco (.cons (.own _ _ _ _ _ J xb) (.cons (.own _ _ _ _ _ J xb) (.cons (.own _ _ _ _ _ J xb) (.cons (.own _ _ _ _ _ J xb) .nil))))⟩,⟨_,rfl, .rowE (zbp _) rfl⟩,⟨_,rfl, .rowE (zd7 _) rfl⟩,⟨_,rfl, .rowE (zd6 _) rfl⟩,⟨_,rfl, .rowE (zbp _) rfl⟩,⟨_,rfl, .rowE zem J⟩,⟨_,rfl,zej J⟩,⟨_,rfl, .rowE (zbp _) rfl⟩,⟨_,rfl, .rowE (zbp _) (by rw[hsk hla2])⟩,trivial⟩ ⟨.lo _ (.s _), .lo _ (.s _), .own 7 7 2 _ _ J J, .own 8 8 2 _ _ J J, .lo _ hlt, .lo _ (.s _), .lo _ (.s _),zkf J, .lo _ hla, .lo _ (.s _), .lo _ (.s _), .lo _ hls, .lo _ hln, .lo _ hlc, .ptr 5 5 4 0 0 J, .lo _ hla, .mp 6 6 J, .lo _ (.s _), .lo _ hlf, .ptr 0 0 4 0 0 J,trivial⟩⟩
  have e:t=n.trans.length:=by omega
  subst e
  refine zab (zad J J (zaa J) (zbl xa (za0 J J J)) (zae (zag (zaw J ?_))))
  (refine zdz ?_;repeat (first|refine zep ?_|refine zcg ?_|refine zbz J ?_|refine zcf ?_|refine zah ?_|refine zag ?_|refine zav ?_|refine za9 ?_))
  refine za4 (zbw (id:=7) rfl) (za4 (z2s (d:=28) rfl J (by simp[hfl1])) ?_)
  refine za4 (zbw (id:=8) rfl) (za4 (z2s (d:=29) rfl J (by simp[hrl])) ?_)
  have hl1:Lo 0 (eL eF (rowF n cols k)):=zop _
  have hl2:Lo 0 (eL eF (rowS n cols a k n.trans.length)):=zop _
  have hrp:(List.replicate i (3:Int)).length=i:=by simp
  have hadd1:=zrb (P:=P) CC (PA++acA n cols acts k) (List.replicate i 3++acR k) (PB++acB W acts k) (cntX P W) (rowF n cols k) 1 cn (by simp only[List.length_append];omega) (by simp only[List.length_append];omega) (by simp only[List.length_append];omega)
  have hadd2:=zrb (P:=P) CC (PA++acA n cols acts k++[rowF n cols k]) (List.replicate i 3++acR k++[1]) (PB++acB W acts k++[Fr.of cn]) (cntX P W) (rowS n cols a k n.trans.length) 1 0 (by simp only[List.length_append,List.length_singleton];omega) (by simp only[List.length_append,List.length_singleton];omega) (by simp only[List.length_append,List.length_singleton];omega)
  refine za4 (zdl (σ':=stPg CC (PA++acA n cols acts k) (List.replicate i 3++acR k) (PB++acB W acts k) (cntX P W)) [0,1,2,3,4,5,6] xe ⟨⟨_,rfl,zco (.cons (.own _ _ _ _ _ J xb) (.cons (.own _ _ _ _ _ J xb) (.cons (.own _ _ _ _ _ J xb) (.cons (.own _ _ _ _ _ J xb) .nil))))⟩,⟨_,rfl, .rowE (zbp _) rfl⟩,⟨_,rfl, .rowE (zd7 _) rfl⟩,⟨_,rfl, .rowE (zd6 _) rfl⟩,⟨_,rfl, .rowE (zbp _) rfl⟩,⟨_,rfl, .rowE zem J⟩,⟨_,rfl,zej J⟩,trivial⟩ (F':=(27,eS a)::(28,eL eF (rowF n cols k))::(29,eL eF (rowS n cols a k n.trans.length))::(21, .fn 48 [.ptr 0 4 0 0])::(169,eL eS acts)::(170,eI acts.length)::(171,eI k)::fPg P n w c s acts cols) ⟨.lo _ (.s _), .lo _ hl1, .lo _ hl2,zkf J, .lo _ hla, .lo _ (.s _), .lo _ (.s _), .lo _ hls, .lo _ hln, .lo _ hlc, .ptr 5 5 4 0 0 J, .lo _ hla, .mp 6 6 J, .lo _ (.s _), .lo _ hlf, .ptr 0 0 4 0 0 J,trivial⟩) ?_
  refine zab (zac J (zac J (zac J (zac J ?_))))
  refine zad J J (zaa J) (zfd J tm85 tK9 J J ⟨rfl,rfl,rfl⟩ rfl (keyOf_string_mk tn9 hks) ti3 (plainElem_int tn3 (by first|rfl|assumption)) hlook) ?_
  refine zad J J (zaa J) (zb4 J J hadd1 J) (zae (zah ?_))
  refine za4 (zdl (σ':=stPg CC (PA++acA n cols acts k++[rowF n cols k]) (List.replicate i 3++acR k++[1]) (PB++acB W acts k++[Fr.of cn]) (cntX P W)) [0,1,7,8,9,5,6] xe ⟨⟨_,rfl,zco (.cons (.own _ _ _ _ _ J xo) (.cons (.own _ _ _ _ _ J xo) (.cons (.own _ _ _ _ _ J xo) (.cons (.own _ _ _ _ _ J xo) .nil))))⟩,⟨_,rfl, .rowE (zbp _) rfl⟩,⟨_,rfl, .rowE (zd7 _) rfl⟩,⟨_,rfl, .rowE (zd6 _) rfl⟩,⟨_,rfl, .rowE (zbp _) rfl⟩,⟨_,rfl, .rowE zem J⟩,⟨_,rfl,zej J⟩,trivial⟩ (F':=(29,eL eF (rowS n cols a k n.trans.length))::(21, .fn 48 [.ptr 0 4 0 0])::(169,eL eS acts)::(170,eI acts.length)::(171,eI k)::fPg P n w c s acts cols) ⟨.lo _ hl2,zkf J, .lo _ hla, .lo _ (.s _), .lo _ (.s _), .lo _ hls, .lo _ hln, .lo _ hlc, .ptr 5 5 4 0 0 J, .lo _ hla, .mp 6 6 J, .lo _ (.s _), .lo _ hlf, .ptr 0 0 4 0 0 J,trivial⟩) ?_
  refine zab (zac J (zac J (zad J J (zaa J) (zb4 J J hadd2 J) (zae (zcf (zah (zab (zad J J (zaa J) (za2 J J J (IntWalk.i64_in _ xa)) (zac J (zae (zah ?_)))))))))))
  have hA2:PA++acA n cols acts (k+1)=PA++acA n cols acts k++[rowF n cols k]++[rowS n cols a k n.trans.length]:=by rw[zre,hag,List.append_assoc,List.append_assoc,List.append_assoc]
  have hR2:List.replicate i (3:Int)++acR (k+1)=List.replicate i 3++acR k++[1]++[1]:=by rw[zrc,List.append_assoc,List.append_assoc,List.append_assoc]
  have hB2:PB++acB W acts (k+1)=PB++acB W acts k++[Fr.of cn]++[Fr.of 0]:=by rw[zrd,hag,hcn,List.append_assoc,List.append_assoc,List.append_assoc]
  refine⟨k+1,by show k+1≤acts.length;omega,by show acts.length-(k+1)<acts.length-k;omega,?_⟩
  rw[hA2,hR2,hB2]
  exact zdl [0,1,7,8,9,5,6] xe ⟨⟨_,rfl,zco (.cons (.own _ _ _ _ _ J xo) (.cons (.own _ _ _ _ _ J xo) (.cons (.own _ _ _ _ _ J xo) (.cons (.own _ _ _ _ _ J xo) .nil))))⟩,⟨_,rfl, .rowE (zbp _) rfl⟩,⟨_,rfl, .rowE (zd7 _) rfl⟩,⟨_,rfl, .rowE (zd6 _) rfl⟩,⟨_,rfl, .rowE (zbp _) rfl⟩,⟨_,rfl, .rowE zem J⟩,⟨_,rfl,zej J⟩,trivial⟩ ⟨zkf J, .lo _ hla, .lo _ (.s _), .lo _ (.s _), .lo _ hls, .lo _ hln, .lo _ hlc, .ptr 5 5 4 0 0 J, .lo _ hla, .mp 6 6 J, .lo _ (.s _), .lo _ hlf, .ptr 0 0 4 0 0 J,trivial⟩
 have e:k=acts.length:=by omega
 subst e
 refine zab (zad J J (zaa J) (zbl xa (za0 J J J)) (zae (zag (zaw J ?_))))
 (refine zdz ?_;repeat (first|refine zep ?_|refine zcg ?_|refine zbz J ?_|refine zcf ?_|refine zah ?_|refine zag ?_|refine zav ?_|refine za9 ?_))
 refine zab (zad J J (zaa J) (zdg J ta42 ti42 J J J J J) (zcm J (zaa J) (zat J ti42 J J J J J J xe xe) (zac J (zae (zah ?_)))))
 (refine za3 ?_;repeat (first|refine zbg ?_|refine zbh ?_))
 subst hR
 rw[hLp]
 exact zk3 (.inr rfl) rfl J J J J (.own _ _ _ _ _ J J xm) (.own _ _ _ _ _ J J xm) (.own _ _ _ _ _ J J xm) (.own _ _ _ _ _ J J xm) rfl
end Aw
namespace Aw
open Go Go.RowKit Go.Proofs Dl
theorem z7x (s:Sol):Lo 0 (eSol s):= .agg _ (zaj (.s _) (zaj (zop _) (zaj (zop _) (zaj (zop _) (zaj (.s _) (zaj (.s _) zba))))))
def zjr (a:Fr):Int × Int:=if a.okB=true then(zx2 a,0) else(0,1)
def bndQ (n:Net)(w:List ByteArray)(c:Cst)(s:List Int)(q:Sol × Int):Int × Bool × Int:=
 if (prgO n w c s).2≠0 then(0,false,(prgO n w c s).2) else
 if q.2≠0 then(0,false,q.2) else
 if q.1.kind≠1 then(0,false,0) else
 if (zjr q.1.v).2≠0 then(0,false,(zjr q.1.v).2) else
 ((zjr q.1.v).1+c.log*((w.length:Int)-gti s 0),true,0)
theorem prg_st {n:Net}{w:List ByteArray}{c:Cst}{s:List Int}(h:(prgO n w c s).2=0):zb1 n w s=true∧vcB c=true∧prgO n w c s=(prgL n w c s,0):=by
 unfold prgO at h⊢
 by_cases h1:zb1 n w s=false∨vcB c=false
 ·
  rw[if_pos h1] at h;cases h
 ·
  rw[if_neg h1] at h⊢
  rw[not_or] at h1
  split at h
  ·
   cases h
  ·
   rename_i h2
   rw[if_neg h2]
   exact⟨by simpa using h1.1,by simpa using h1.2,rfl⟩
theorem z4y {a:Fr}(h:a.ok): -1073741825≤zx2 a∧zx2 a≤1073741825:=by
 obtain⟨x,y⟩:=a
 obtain⟨h1,h2,h3,h4, -⟩:=h
 replace h1: -1073741824≤x:=h1
 replace h2:x≤1073741824:=h2
 have hb:=Int.natAbs_tdiv_le_natAbs x y
 show -1073741825≤x.tdiv y+(if 0<x.tmod y then 1 else 0)∧x.tdiv y+(if 0<x.tmod y then 1 else 0)≤1073741825
 split<;>omega
variable {P:Program}[IsP P]
theorem z4z (a:Fr):Pure P 58 [eF a] (.tup [eI (zjr a).1,eI (zjr a).2]):=by
 by_cases h:a.okB=true
 ·
  have e:zjr a=(zx2 a,0):=if_pos h
  rw[e]
  exact z8x a ((Fr.okB_iff a).1 h)
 ·
  have e:zjr a=(0,1):=if_neg h
  have hV:=znw (P:=P) a
  rw[show a.okB=false by simpa using h] at hV
  rw[e]
  obtain⟨x,y⟩:=a
  refine zd1 (by rw[IsP.eq (P:=P)];exact Tryz.func58) rfl J J J J xh (.tup _ (zaj (.s _) (zaj (.s _) zba))) (by simp only[argF];rfl) ?_
  refine zag (zab (zad J J (zaa J) (zbt J J J J) (zac J (zac J (zae (zag (zag (zab (zad J J (zaa J) (zdg J z2z zex J J J J J) (zad J J (zaa J) (zai J J (hV) (zaf J zaq)) (zad J J (zaa J) (zbs J J) (zae (zah (za7 J (zag (zab (zac J (zac J (zae (zah ?_))))))))))))))))))))
  (refine za3 ?_;repeat (first|refine zbg ?_|refine zbh ?_))
  exact⟨.inr rfl,[eI 0,eI 1], .cons _ _ _ _ (.tmp _ _ J) (.cons _ _ _ _ (.tmp _ _ J) .nil), .refl _⟩
def eBn (r:Int × Bool × Int):AV:= .tup [eI r.1,eB r.2.1,eI r.2.2]
theorem lo_Bn {k:Nat}(r:Int × Bool × Int):Lo k (eBn r):= .tup _ (zaj (.s _) (zaj (.s _) (zaj (.s _) zba)))
theorem zm5 {F:Frm}{σ:List Ob}{r:Int × Bool × Int}{x z:Int}{y:Bool}{e:Exit}(he:e= .normal∨e= .ret)(h1:F.get 8=eI x)(h2:F.get 9=eB y)(h3:F.get 10=eI z)(hr:r=(x,y,z)):zl6 P [.tmp 8, .tmp 9, .tmp 10] (eBn r) e F σ:=by
 subst hr
 exact⟨he,[eI x,eB y,eI z], .cons _ _ _ _ (.tmp _ _ h1) (.cons _ _ _ _ (.tmp _ _ h2) (.cons _ _ _ _ (.tmp _ _ h3) .nil)), .refl _⟩
set_option maxHeartbeats 4000000 in
theorem z41 (n:Net)(w:List ByteArray)(c:Cst)(s:List Int)(q:Sol × Int)(hw12:zb1 n w s=true→w.length≤12)(hS:Pure P 57 [eP (prgO n w c s).1] (.tup [eSol q.1,eI q.2])):Pure P 20 [eN n,eL eS w,eC c,eL eI s] (eBn (bndQ n w c s q)):=by
 have hP:=zw6 (P:=P) n w c s hw12
 have hst:= @prg_st n w c s
 have hR:bndQ n w c s q=if (prgO n w c s).2≠0 then(0,false,(prgO n w c s).2) else
  if q.2≠0 then(0,false,q.2) else
  if q.1.kind≠1 then(0,false,0) else
  if (zjr q.1.v).2≠0 then(0,false,(zjr q.1.v).2) else
  ((zjr q.1.v).1+c.log*((w.length:Int)-gti s 0),true,0):=rfl
 generalize bndQ n w c s q=R at hR⊢
 generalize prgO n w c s=r at hP hst hR hS
 obtain⟨p,e⟩:=r
 dsimp only at hS hR hst
 obtain⟨⟨kd,x1,x2,x3,vl⟩,e2⟩:=q
 dsimp only at hR
 have hC:=z4z (P:=P) vl
 have hcb0:(zjr vl).2=0→ -1073741825≤(zjr vl).1∧(zjr vl).1≤1073741825:=fun h=>by
  unfold zjr at h⊢
  by_cases ho:vl.okB=true
  ·
   rw[if_pos ho];exact z4y ((Fr.okB_iff vl).1 ho)
  ·
   rw[if_neg ho] at h;cases h
 generalize zjr vl=k at hC hR hcb0
 obtain⟨k,e3⟩:=k
 dsimp only at hR hcb0
 have hln:Lo 0 (.ref (eN n).cells):= .ref _ (lo_N n).cells
 have hlc:Lo 0 (.ref (eC c).cells):= .ref _ (lo_C c).cells
 have hlp:Lo 0 (.ref (eP p).cells):= .ref _ (lo_P p).cells
 have hls:Lo 0 (eL eI s):=lo_I
 refine zd1 (by rw[IsP.eq (P:=P)];exact Tryz.func20) rfl J J J J (zaj (lo_N n) (zaj (lo_W w) (zaj (lo_C c) (zaj lo_I zba)))) (lo_Bn _) (by simp only[argF];rfl) ?_
 refine zag (zab (zad J J (zaa J) (zbt J J J J) ?_))
 refine zax (zbw (id:=0) rfl) (zax (zci (d:=4) rfl J J) ?_)
 refine zad J J (zaa J) (zbt J J J J) ?_
 refine zax (zbw (id:=1) rfl) (zax (zci (d:=6) rfl J J) ?_)
 refine zac J (zac J (zac J (zae (zag (zab (zby ta24 ti24 J (zac J (zby ta27 ti27 J (zac J (zad J J (zaa J) (zai J J (hP) (zaf J (zaf J (zaf J (zaf J zaq))))) (zac J (zac J (zac J (zad J J (zaa J) (zcd J ti42 J J) (zcm J (zaa J) (zat J ti42 J J J J J J xe xe) (zac J (zae (zag (zag ?_)))))))))))))))))))
 refine za4 (zbw (id:=2) rfl) (za4 (zci (d:=11) rfl J J) ?_)
 refine za4 (zdl (σ':=[]) [] xe trivial (F':=[(1,eL eS w),(3,eL eI s),(4, .ref (eN n).cells),(6, .ref (eC c).cells),(11, .ref (eP p).cells),(12,eI e)]) ⟨.lo _ (lo_W w), .lo _ hls, .lo _ hln, .lo _ hlc, .lo _ hlp, .lo _ (.s _),trivial⟩) ?_
 by_cases h1:e≠0
 ·
  rw[if_pos h1] at hR
  refine zab (zac J (zad J J (zaa J) (zbn h1 (zbv J J J)) (zae (zah (za7 J (zag (zab (zac J (zac J (zac J (zac J (zae (zah ?_)))))))))))))
  (refine za3 ?_;repeat (first|refine zbg ?_|refine zbh ?_))
  exact zm5 (.inr rfl) rfl J J hR
 rw[if_neg h1] at hR
 obtain⟨hz,hvc, -⟩:=hst (Decidable.not_not.1 h1)
 obtain⟨z1,z2,z3,z4,z5⟩:=zdb.1 hz
 have hw:=hw12 hz
 have hcb:0≤c.log∧c.log≤1000:=by
  unfold vcB inB at hvc
  simp only[Bool.and_eq_true,decide_eq_true_eq] at hvc
  exact hvc.1
 refine zab (zac J (zad J J (zaa J) (zbl h1 (zbv J J J)) (zae (zah (zaw J (zav (zag ?_)))))))
 have hlsol:Lo 0 (.ref (eSol ⟨kd,x1,x2,x3,vl⟩).cells):= .ref _ (z7x _).cells
 refine zab (zby ta42 ti42 J (zad J J (zaa J) (zai J J (hS) (zaf J zaq)) (zac J (zac J (zac J (zad J J (zaa J) (zcd J ti110 J J) (zcm J (zaa J) (zat J ti110 J J J J J J xe xe) (zac J (zae (zag (zag ?_)))))))))))
 refine za4 (zbw (id:=0) rfl) (za4 (zci (d:=13) rfl J J) ?_)
 refine za4 (zdl (σ':=[]) [] xe trivial (F':=[(1,eL eS w),(3,eL eI s),(6, .ref (eC c).cells),(13, .ref (eSol ⟨kd,x1,x2,x3,vl⟩).cells),(12,eI e2)]) ⟨.lo _ (lo_W w), .lo _ hls, .lo _ hlc, .lo _ hlsol, .lo _ (.s _),trivial⟩) ?_
 by_cases h2:e2≠0
 ·
  rw[if_pos h2] at hR
  refine zab (zac J (zad J J (zaa J) (zbn h2 (zbv J J J)) (zae (zah (za7 J (zag (zab (zac J (zac J (zac J (zac J (zae (zah ?_)))))))))))))
  (refine za3 ?_;repeat (first|refine zbg ?_|refine zbh ?_))
  exact zm5 (.inr rfl) rfl J J hR
 rw[if_neg h2] at hR
 refine zab (zac J (zad J J (zaa J) (zbl h2 (zbv J J J)) (zae (zah (zaw J (zav (zag (zag ?_))))))))
 by_cases h3:kd≠1
 ·
  rw[if_pos h3] at hR
  refine zab (zbm zyf J (zbq ta3 J (zad J J (zaa J) (zbn h3 (zbv J J J)) (zae (zah (za7 J (zag (zab (zac J (zac J (zac J (zae (zah ?_)))))))))))))
  (refine za3 ?_;repeat (first|refine zbg ?_|refine zbh ?_))
  exact zm5 (.inr rfl) rfl J J hR
 rw[if_neg h3] at hR
 refine zab (zbm zyf J (zbq ta3 J (zad J J (zaa J) (zbl h3 (zbv J J J)) (zae (zah (zaw J (zav (zag ?_))))))))
 obtain⟨vn,vd⟩:=vl
 refine zab (zbm z6q J (zby z2z zex J (zad J J (zaa J) (zai J J (hC) (zaf J zaq)) (zac J (zac J (zac J (zac J (zac J (zae (zag (zag ?_)))))))))))
 by_cases h4:e3≠0
 ·
  rw[if_pos h4] at hR
  refine zab (zac J (zad J J (zaa J) (zbn h4 (zbv J J J)) (zae (zah (za7 J (zag (zab (zac J (zac J (zac J (zac J (zae (zah ?_)))))))))))))
  (refine za3 ?_;repeat (first|refine zbg ?_|refine zbh ?_))
  exact zm5 (.inr rfl) rfl J J hR
 rw[if_neg h4] at hR
 have hcb1:=hcb0 (Decidable.not_not.1 h4)
 have hs0:(s.map eI)[0]?=some (eI (gti s 0)):=zdk xa
 have hm1:0≤c.log*((w.length:Int)-gti s 0):=Int.mul_nonneg hcb.1 xa
 have hm2:c.log*((w.length:Int)-gti s 0)≤1000*12:=Int.mul_le_mul hcb.2 xa xa xa
 have hw1:IntKind.i64.wrap ((w.length:Int)-gti s 0)=(w.length:Int)-gti s 0:=IntWalk.i64_in _ xa
 have hw2:IntKind.i64.wrap (c.log*((w.length:Int)-gti s 0))=c.log*((w.length:Int)-gti s 0):=IntWalk.i64_in _ xa
 have hw3:IntKind.i64.wrap (k+c.log*((w.length:Int)-gti s 0))=k+c.log*((w.length:Int)-gti s 0):=IntWalk.i64_in _ xa
 refine zab (zac J (zad J J (zaa J) (zbl h4 (zbv J J J)) (zae (zah (zaw J (zav (zag ?_)))))))
 refine zb6 hmix ?_
 refine zbj (by kernel_rfl) ?_
 refine qx_s J (qx_f zu6 J (qx_l ta3 J (qx_s J (zbi J J (zaa J) (zan J ts25 J) (qx_s J (zbi J J (zaa J) (za1 J ts38 ti3 J J J hs0 J) (qx_l ta3 J (zbi J J (zaa J) (zcb J J J hw1) (zbi J J (zaa J) (ze3 J J J hw2) (zbi J J (zaa J) (za2 J J J hw3) (qx_s J (qx_s J (qx_s J ?_)))))))))))))
 refine zds ?_
 refine zah ?_
 (refine za3 ?_;repeat (first|refine zbg ?_|refine zbh ?_))
 exact zm5 (.inr rfl) rfl J J hR
end Aw
namespace Aw
open Go Go.RowKit Go.Proofs Go.Maps Go.WideMaps Dl
variable {P:Program}[IsP P]
def rA (x:Int):Int:=x % 200+1
def rB (x:Int):Int:=x / 200+1
def xsR (m:List Int):List Int:=m.flatMap fun n=>[n % 200+1,n / 200+1]
theorem z2q (m:List Int)(n:Int):xsR (m++[n])=xsR m++[n % 200+1,n / 200+1]:=by simp[xsR]
theorem zs5 (m:List Int):(xsR m).length=2*m.length:=by
 induction m with
 |nil=>rfl
 |cons a m ih=>
  have:xsR (a::m)=[a % 200+1,a / 200+1]++xsR m:=rfl
  rw[this,List.length_append,ih]
  simp;omega
def zjm (m:List Int):List UInt8:=(xsR m).map fun n=>UInt8.ofNat n.toNat
theorem zr9: ∀ {a b:List Int},Small a→Small b→zjm a=zjm b→a=b
 |[],[],_,_,_=>rfl
 |[],y::b,_,_,h=>by simp[zjm,xsR] at h
 |x::a,[],_,_,h=>by simp[zjm,xsR] at h
 |x::a,y::b,ha,hb,h=>by
  have e1:zjm (x::a)=UInt8.ofNat (x % 200+1).toNat::UInt8.ofNat (x / 200+1).toNat::zjm a:=rfl
  have e2:zjm (y::b)=UInt8.ofNat (y % 200+1).toNat::UInt8.ofNat (y / 200+1).toNat::zjm b:=rfl
  rw[e1,e2] at h
  injection h with h1 h
  injection h with h2 h
  have hx:=ha x xm
  have hy:=hb y xm
  have g1:=congrArg UInt8.toNat h1
  have g2:=congrArg UInt8.toNat h2
  rw[UInt8.toNat_ofNat',UInt8.toNat_ofNat'] at g1 g2
  have:x=y:=by omega
  rw[this,zr9 (fun z hz=>ha z (by simp[hz])) (fun z hz=>hb z (by simp[hz])) h]
def zxd (m:List Int):ByteArray:=zp1 (xsR m)
theorem zpj (m:List Int):(zxd m).size=2*m.length:=by
 have:=zs5 m
 simp[zxd,zp1,ByteArray.size,this]
set_option maxHeartbeats 1000000 in
theorem zzb (m:List Int)(hm:Small m)(hl:m.length≤300):Pure P 92 [eL eI m] (eS (zxd m)):=by
 refine zd1 (by rw[IsP.eq (P:=P)];exact Tryz.func92) rfl J J J J (zaj (zdj fun _=> .s _) zba) (.s _) (by simp only[argF];rfl) ?_
 refine zag (zab (zac J (zae (zag (zab (zad J J (zaa J) (zss J J z2x ti5) (zac J (zae (zag (zag (zab (zac J (zae (zah (za9 ?_)))))))))))))))
 refine za4 (wk_own (d:=3) 1 J (.inl rfl)) ?_
 refine zdq (S:=Nat) (fun k=>[(0,eL eI m),(4,eI k),(3, .own 0 1 (2*k))]) (fun k=>[.row 1 ((xsR (m.take k)).map eU)]) (fun k=>k≤m.length) (fun k=>m.length-k) 0 (zdl [0] xe ⟨⟨_,rfl, .rowE (lo_U _) rfl⟩,trivial⟩ ⟨.lo _ (zdj fun _=> .s _), .lo _ (.s _), .own 0 0 1 _ _ J J,trivial⟩) (Nat.zero_le _) (fun k hk=>?_)
 by_cases hlt:k<m.length
 ·
  obtain⟨hx0,hx1⟩:=hm (gti m k) (gti_mem hlt)
  have hix:(m.map eI)[k]?=some (eI (gti m k)):=zdk hlt
  have hlm:k<(m.map eI).length:=by rw[List.length_map];exact hlt
  have hxl2:(xsR (m.take k)).length=2*k:=by rw[zs5,List.length_take];omega
  have hxl:((xsR (m.take k)).map eU).length=2*k:=by rw[List.length_map,hxl2]
  have hrow:(xsR (m.take (k+1))).map eU=(xsR (m.take k)).map eU++[eU (gti m k % 200+1),eU (gti m k / 200+1)]:=by
   rw[zyg hlt,z2q,List.map_append];rfl
  generalize gti m k=x at hx0 hx1 hix hrow
  have hq:IntKind.i64.wrap (x.tdiv 200)=x / 200:=by rw[Int.tdiv_eq_ediv_of_nonneg hx0];exact IntWalk.i64_in _ xa
  have hr:x.tmod 200=x % 200:=Int.tmod_eq_emod_of_nonneg hx0
  have h0:0≤x / 200:=by omega
  have h2:x / 200≤1:=by omega
  have hw1:IntKind.u8.wrap (x % 200+1)=x % 200+1:=zx6 xa xa
  have hw2:IntKind.u8.wrap (x / 200+1)=x / 200+1:=zx6 xa xa
  refine zag (zag (zab (zac J (zac J (zad J J (zaa J) (zan J ts38 J) (zad J J (zaa J) (zbn xa (za0 J J J)) (zae (zah (za7 J (zav (zag (za9 ?_))))))))))))
  refine zb6 hmix ?_
  refine zgj ?_
  refine ex_s J (ex_s J (ex_s J (zaz J J (zaa J) (fun _=>(za1 J ts38 ti3 J J J hix J)) (ex_l ta3 J (zaz J J (zaa J) (fun _=>(zmh J J J xa hr)) (zaz J J (zaa J) (fun _=>(za2 J J J (IntWalk.i64_in _ xa))) (zaz J J (zaa J) (fun _=>(ze4 J tu3 tk5 J hw1)) (ex_s J (ex_s J (zaz J J (zaa J) (fun _=>(za1 J ts38 ti3 J J J hix J)) (ex_l ta3 J (zaz J J (zaa J) (fun _=>(zmi J J J xa hq)) ?_))))))))))))
  refine zaz J J (zaa J) (fun _=>(za2 J J J (IntWalk.i64_in _ xa))) (zaz J J (zaa J) (fun _=>(ze4 J tu3 tk5 J hw2)) (zaz J J (zaa J) (fun _=>(zh8 J z2x ti5 J J xe xe xe J J)) ?_))
  all_goals refine ze8 rfl rfl (zaa rfl) (zca (y':= .sl [eU (rA x),eU (rB x)]) (l:=[eU (rA x),eU (rB x)]) rfl z2x ti5 rfl xe rfl rfl hxl.symm rfl (by exact .sl _ (by intro e he;simp at he;rcases he with rfl|rfl<;>rfl)) (by show((xsR (m.take k)).map eU).length+2≤9223372036854775807;rw[hxl];omega) (by show(((xsR (m.take k)).map eU).length+2)*1≤140737488355328;rw[hxl];omega)) (fun _ h=>zc4 h) ?_
  refine ex_s J ?_
  refine ze7 (by kernel_rfl) ?_
  refine zcf (zah (zab (zac J (zad J J (zaa J) (za2 J J J (IntWalk.i64_in _ xa)) (zac J (zae (zah ?_)))))))
  exact⟨k+1,by show k+1≤m.length;omega,by show m.length-(k+1)<m.length-k;omega,zdl [1] xe ⟨⟨_,rfl, .rowE (lo_U _) hrow.symm⟩,trivial⟩ ⟨.lo _ (zdj fun _=> .s _), .lo _ (.s _), .own 1 0 1 _ _ J (by rw[hxl];rfl),trivial⟩⟩
 ·
  have e:k=m.length:=by omega
  subst e
  rw[List.take_length]
  refine zag (zag (zab (zac J (zac J (zad J J (zaa J) (zan J ts38 J) (zad J J (zaa J) (zbl xa (za0 J J J)) (zae (zah (zaw J ?_)))))))))
  (refine zdz ?_;repeat (first|refine zep ?_|refine zcg ?_|refine zbz J ?_|refine zcf ?_|refine zah ?_|refine zag ?_|refine zav ?_|refine za9 ?_))
  refine zab (zac J ?_)
  refine zad J J (zaa J) (z1u J z2x tk5 tg9 J (.own _ _ _ J J _ (by rw[List.length_map,zs5]))) ?_
  refine zac J (zae (zah ?_))
  (refine za3 ?_;repeat (first|refine zbg ?_|refine zbh ?_))
  exact zcl (.inr rfl) rfl J
theorem zy8 (a b:List Int)(hl:a.length=b.length)(hb:a.length≤1000):Pure P 93 [eL eI a,eL eI b] (eB (decide (a=b))):=by
 obtain⟨R,hR⟩: ∃R,decide (a=b)=R:=⟨_,rfl⟩
 rw[hR]
 refine zd1 (by rw[IsP.eq (P:=P)];exact Tryz.func93) rfl J J J J xh (.s _) (by simp only[argF];rfl) ?_
 refine zag (zab (zac J (zae (zag (zag (zab (zac J (zae (zah (za9 ?_))))))))))
 refine zdq (S:=Nat) (fun k=>[(0,eL eI a),(1,eL eI b),(5,eI k)]) (fun _=>[]) (fun k=>k≤a.length∧ ∀i,i<k→gti a i=gti b i) (fun k=>a.length-k) 0 (zcv _ ⟨rfl,rfl,rfl,trivial⟩) ⟨Nat.zero_le _,fun i h=>by omega⟩ (fun k hk=>?_)
 obtain⟨hk,he⟩:=hk
 by_cases hlt:k<a.length
 ·
  have hia:(a.map eI)[k]?=some (eI (gti a k)):=zdk hlt
  have hib:(b.map eI)[k]?=some (eI (gti b k)):=zdk xa
  refine zag (zag (zab (zac J (zac J (zad J J (zaa J) (zan J ts38 J) (zad J J (zaa J) (zbn xa (za0 J J J)) (zae (zah (za7 J (zav (zag (za9 (zag ?_)))))))))))))
  by_cases hne:gti a k=gti b k
  ·
   refine zb6 hmix ?_
   refine zbj (by kernel_rfl) ?_
   refine qx_s J (qx_s J (zbi J J (zaa J) (za1 J ts38 ti3 J J J hia J) (qx_l ta3 J (qx_s J (qx_s J (zbi J J (zaa J) (za1 J ts38 ti3 J J J hib J) (qx_l ta3 J ?_)))))))
   refine zbi J J (zaa J) (zbl (fun h=>h hne) (zbv J J J)) ?_
   refine zds ?_
   refine zah (zaw J (zav (zcf (zah (zab (zac J (zad J J (zaa J) (za2 J J J (IntWalk.i64_in _ xa)) (zac J (zae (zah ?_))))))))))
   refine⟨k+1,⟨by show k+1≤a.length;omega,fun i hi=>?_⟩,by show a.length-(k+1)<a.length-k;omega,zcv _ ⟨rfl,rfl,rfl,trivial⟩⟩
   by_cases hik:i=k
   ·
    subst hik;exact hne
   ·
    exact he i xa
  ·
   refine zb6 hmix ?_
   refine zbj (by kernel_rfl) ?_
   refine qx_s J (qx_s J (zbi J J (zaa J) (za1 J ts38 ti3 J J J hia J) (qx_l ta3 J (qx_s J (qx_s J (zbi J J (zaa J) (za1 J ts38 ti3 J J J hib J) (qx_l ta3 J (zbi J J (zaa J) (zbn hne (zbv J J J)) ?_))))))))
   refine zds ?_
   refine zah (za7 J (zag (zab (zac J (zae (zah ?_))))))
   (refine za3 ?_;repeat (first|refine zbg ?_|refine zbh ?_))
   have hf:R=false:=by rw[←hR];exact decide_eq_false fun h=>hne (by rw[h])
   subst hf
   exact zcl (.inr rfl) rfl J
 ·
  have e:k=a.length:=by omega
  subst e
  refine zag (zag (zab (zac J (zac J (zad J J (zaa J) (zan J ts38 J) (zad J J (zaa J) (zbl xa (za0 J J J)) (zae (zah (zaw J ?_)))))))))
  (refine zdz ?_;repeat (first|refine zep ?_|refine zcg ?_|refine zbz J ?_|refine zcf ?_|refine zah ?_|refine zag ?_|refine zav ?_|refine za9 ?_))
  refine zab (zac J (zae (zah ?_)))
  (refine za3 ?_;repeat (first|refine zbg ?_|refine zbh ?_))
  have hf:R=true:=by
   rw[←hR]
   refine decide_eq_true (List.ext_getElem hl fun i h1 h2=>?_)
   have:=he i h1
   rwa [zfq (List.getElem?_eq_getElem h1),zfq (List.getElem?_eq_getElem h2)] at this
  subst hf
  exact zcl (.inr rfl) rfl J
end Aw
namespace Aw
open Go Go.RowKit Go.Proofs Go.Maps Go.WideMaps Dl
variable {P:Program}[IsP P]
def givR (n:Net)(w:List ByteArray)(c:Cst)(most:Int):Int:=if zc0 n w c=false then 1 else if most<1∨2000<most then 2 else 0
theorem zyu (n:Net)(w:List ByteArray)(c:Cst):zc0 n w c=(zb7 n && (zd0 w && vcB c)):=by
 unfold zc0 zb0
 cases zb7 n<;>cases zd0 w<;>cases vcB c<;>rfl
theorem zrv (n:Net)(w:List ByteArray)(c:Cst)(most:Int):Pure P 42 [eN n,eL eS w,eC c,eI most] (eI (givR n w c most)):=by
 have hR:givR n w c most=if zc0 n w c=false then 1 else if most<1∨2000<most then 2 else 0:=rfl
 rw[zyu] at hR
 generalize givR n w c most=R at hR⊢
 have h1:=zyp (P:=P) n
 have h2:=zw1 (P:=P) w
 have h3:=zon (P:=P) c
 generalize zb7 n=b1 at h1 hR
 generalize zd0 w=b2 at h2 hR
 generalize vcB c=b3 at h3 hR
 have hln:Lo 0 (.ref (eN n).cells):= .ref _ (lo_N n).cells
 have hlc:Lo 0 (.ref (eC c).cells):= .ref _ (lo_C c).cells
 refine zd1 (by rw[IsP.eq (P:=P)];exact Tryz.func42) rfl J J J J (zaj (lo_N n) (zaj (lo_W w) (zaj (lo_C c) (zaj (.s _) zba)))) (.s _) (by simp only[argF];rfl) ?_
 refine zag (zab (zad J J (zaa J) (zbt J J J J) ?_))
 refine zax (zbw (id:=0) rfl) (zax (zci (d:=4) rfl J J) ?_)
 refine zad J J (zaa J) (zbt J J J J) ?_
 refine zax (zbw (id:=1) rfl) (zax (zci (d:=6) rfl J J) ?_)
 refine zac J (zae (zag (zag ?_)))
 by_cases hb:(b1 && (b2 && b3))=false
 ·
  rw[if_pos hb] at hR
  cases b1 with
  |false=>
   refine zab (zby ta24 ti24 J (zad J J (zaa J) (zai J J (h1) (zaf J zaq)) (zad J J (zaa J) (zbs J J) (zac J (zbb J (zbb J (zbb J (zac J (zac J (zbb J (zbb J (zbb J (zac J (zae (zah (za7 J (zag (zab (zac J (zae (zah ?_)))))))))))))))))))))
   (refine za3 ?_;repeat (first|refine zbg ?_|refine zbh ?_))
   subst hR
   exact zcl (.inr rfl) rfl J
  |true=>
  cases b2 with
  |false=>
   refine zab (zby ta24 ti24 J (zad J J (zaa J) (zai J J (h1) (zaf J zaq)) (zad J J (zaa J) (zbs J J) (zac J (zac J (zad J J (zap J J J) (zai J J (h2) (zaf J zaq)) (zad J J (zap J J J) (zbs J J) (zac J (zac J (zbb J (zbb J (zbb J (zac J (zae (zah (za7 J (zag (zab (zac J (zae (zah ?_)))))))))))))))))))))
   (refine za3 ?_;repeat (first|refine zbg ?_|refine zbh ?_))
   subst hR
   exact zcl (.inr rfl) rfl J
  |true=>
  cases b3 with
  |false=>
   refine zab (zby ta24 ti24 J (zad J J (zaa J) (zai J J (h1) (zaf J zaq)) (zad J J (zaa J) (zbs J J) (zac J (zac J (zad J J (zap J J J) (zai J J (h2) (zaf J zaq)) (zad J J (zap J J J) (zbs J J) (zac J (zac J (zby ta27 ti27 J (zad J J (zap J J J) (zai J J (h3) (zaf J zaq)) (zad J J (zap J J J) (zbs J J) (zac J (zae (zah (za7 J (zag (zab (zac J ?_)))))))))))))))))))
   refine zae (zah ?_)
   (refine za3 ?_;repeat (first|refine zbg ?_|refine zbh ?_))
   subst hR
   exact zcl (.inr rfl) rfl J
  |true=>cases hb
 rw[if_neg hb] at hR
 have hb1:b1=true:=by cases b1<;>simp at hb⊢
 subst hb1
 have hb2:b2=true:=by cases b2<;>simp at hb⊢
 subst hb2
 have hb3:b3=true:=by cases b3<;>simp at hb⊢
 subst hb3
 refine zab (zby ta24 ti24 J (zad J J (zaa J) (zai J J (h1) (zaf J zaq)) (zad J J (zaa J) (zbs J J) (zac J (zac J (zad J J (zap J J J) (zai J J (h2) (zaf J zaq)) (zad J J (zap J J J) (zbs J J) (zac J (zac J (zby ta27 ti27 J (zad J J (zap J J J) (zai J J (h3) (zaf J zaq)) (zad J J (zap J J J) (zbs J J) (zac J (zae (zah (zaw J (zav (zag (zag (zab ?_))))))))))))))))))))
 refine zac J ?_
 refine zk4 J J (zaa J) (za0 J J J) (fun h23=>?_) (fun h23=>?_)
 all_goals refine zac J ?_
 all_goals (first|refine zac J ?_|refine zbb J ?_)
 all_goals (first|refine zk4 J J (zap J J J) (zay J J J) (fun h26=>?_) (fun h26=>?_)|refine zbb J ?_)
 all_goals refine zac J (zae (zah ?_))
 all_goals (first|refine za7 J ?_|refine zaw J ?_)
 all_goals (repeat (first|refine zag ?_|refine zav ?_))
 all_goals first
  |
   refine zab (zac J (zae (zah ?_)))
   (refine za3 ?_;repeat (first|refine zbg ?_|refine zbh ?_))
   have hR2:=hR.trans (if_pos xa)
   subst hR2
   exact zcl (.inr rfl) rfl J
  |skip
 have hR2:=hR.trans (if_neg xa)
 subst hR2
 refine zab (zac J (zae (zah ?_)))
 (refine za3 ?_;repeat (first|refine zbg ?_|refine zbh ?_))
 exact zcl (.inr rfl) rfl J
def atR (S:List (List Int)):DataW Unit:=S.zipIdx.foldl (fun D p=>D.put (.string (zjm p.1)) (.lit (.int .i64 ((p.2+1:Nat))))) (.map [])
theorem zmj (S:List (List Int))(m:List Int):atR (S++[m])=(atR S).put (.string (zjm m)) (.lit (.int .i64 ((S.length+1:Nat)))):=by
 unfold atR
 rw[List.zipIdx_append,List.foldl_append]
 simp
theorem z2a: ∀ (k:Nat) (S:List (List Int)),S.length=k→IsMap (atR S)
 |0,S,h=>by rw[List.eq_nil_of_length_eq_zero h];exact isMap_empty
 |k+1,S,h=>by
  have hne:S≠[]:=fun e=>by rw[e] at h;simp at h
  rw[←List.dropLast_concat_getLast hne,zmj]
  exact(z2a k S.dropLast (by simp[h])).put _ _
theorem zvw {a b:List Int}(ha:Small a)(hb:Small b)(h:a≠b):Lit.string (zjm a)≠Lit.string (zjm b):=fun e=>h (zr9 ha hb (by injection e))
theorem z6d {x:List Int}(hx:Small x): ∀ (k:Nat) (S:List (List Int)),S.length=k→(∀y∈S,Small y)→x ∉ S→Maps.has (atR S) (.string (zjm x))=false
 |0,S,h,_,_=>by rw[List.eq_nil_of_length_eq_zero h];rfl
 |k+1,S,h,hs,hn=>by
  have hne:S≠[]:=fun e=>by rw[e] at h;simp at h
  have e:=List.dropLast_concat_getLast hne
  have hl:S.getLast hne∈S:=List.getLast_mem hne
  rw[←e,zmj,has_put_other (zvw hx (hs _ hl) (fun e=>hn (e▸hl)))]
  exact z6d hx k S.dropLast (by simp[h]) (fun y hy=>hs y (List.dropLast_subset _ hy)) (fun hm=>hn (List.dropLast_subset _ hm))
theorem z19 {x:List Int}(hx:Small x): ∀ (k:Nat) (S:List (List Int)),S.length=k→(∀y∈S,Small y)→S.Nodup→x∈S→ ∀z,(atR S).atKey (.string (zjm x)) z= .lit (.int .i64 (zek S x+1))
 |0,S,h,_,_,hm=>by rw[List.eq_nil_of_length_eq_zero h] at hm;simp at hm
 | k +1,S,h,hs,hnd,hm=>by
  have hne:S≠[]:=fun e=>by rw[e] at h;simp at h
  have e:=List.dropLast_concat_getLast hne
  have hl:S.getLast hne∈S:=List.getLast_mem hne
  generalize S.getLast hne=y at e hl
  generalize hS:S.dropLast=T at e
  have hTl:T.length=k:=by rw[←hS];simp[h]
  subst e
  have hiM:=z2a k T hTl
  rw[zmj]
  by_cases he:x=y
  ·
   subst he
   have hnT:x ∉ T:=fun hT=>by
    have:=List.nodup_append.1 hnd
    exact this.2.2 x hT x xm J
   intro z
   rw[atKey_put_same hiM (show WideAt.IsKeyLit (.string _) from trivial),zh5 hnT]
   rfl
  ·
   have hmT:x∈T:=by
    rcases List.mem_append.1 hm with h1|h1
    ·
     exact h1
    ·
     simp at h1;exact absurd h1 he
   have h2:=z19 hx k T hTl (fun z hz=>hs z (List.mem_append_left _ hz)) (List.nodup_append.1 hnd).1 hmT
   have hk:=zvw hx (hs y hl) he
   intro z
   rw[atKey_put_other hk,h2,zi5 hmT]
def atY (P:Program)(S:List (List Int)):MapX:=⟨P,9,3,S.length,atR S⟩
theorem z42 (P:Program)(S:List (List Int))(m:List Int):atY P (S++[m])={atY P S with n:=(atY P S).n+1,D:=(atY P S).D.put (.string (zjm m)) (.lit (.int .i64 ((S.length+1:Nat))))}:=by
 unfold atY
 rw[zmj]
 simp
def aFd (y:List Int)(c:Int)(d:Bool)(f:Int)(m:Stp):AV:= .agg [eL eI y,eI c,eB d,eI f,eI m.kind,eI m.trans,eS m.act]
def mx0 (f:Int):Int:=if f<0 then 0 else f
theorem zz0 (x:Nat):mx0 x=x:=if_neg xa
def eFd (S:Sr)(k:Nat):AV:=aFd (gti S.st k) (gti S.co k) (gti S.dn k) (mx0 (gti S.fr k)) (gti S.mv k)
def fnds (S:Sr):List AV:=(List.range S.st.length).map (eFd S)
theorem zv3 (S:Sr):(fnds S).length=S.st.length:=by simp[fnds]
theorem zgr {S:Sr}{k:Nat}(h:k<S.st.length):(fnds S)[k]?=some (eFd S k):=by
 unfold fnds
 rw[List.getElem?_map,List.getElem?_range h];rfl
theorem z5z {k:Nat}(y:List Int)(c:Int)(d:Bool)(f:Int)(m:Stp):Lo k (aFd y c d f m):=
 .agg _ (zaj lo_I (zaj (.s _) (zaj (.s _) (zaj (.s _) (zaj (.s _) (zaj (.s _) (zaj (.s _) zba)))))))
theorem ztz (S:Sr): ∀e∈fnds S, ∀c∈e.cells,Lo 0 c:=fun e he c hc=>by
 obtain⟨k,_,rfl⟩:=List.mem_map.1 he
 exact(z5z _ _ _ _ _).cells c hc
theorem z35 {S:Sr}(h1:S.co.length=S.st.length)(h2:S.dn.length=S.st.length)(h3:S.fr.length=S.st.length)(h4:S.mv.length=S.st.length)(y:List Int)(c f:Int)(m:Stp):
  fnds ⟨S.st++[y],S.co++[c],S.dn++[false],S.fr++[f],S.mv++[m]⟩=fnds S++[aFd y c false (mx0 f) m]:=by
 unfold fnds
 rw[List.length_append,List.length_singleton,List.range_succ,List.map_append]
 congr 1
 ·
  refine List.map_congr_left fun k hk=>?_
  have hk:=List.mem_range.1 hk
  unfold eFd
  dsimp only
  rw[zcj hk,zcj xa,zcj xa,zcj xa,zcj xa]
 ·
  show [eFd _ S.st.length]=_
  unfold eFd
  dsimp only
  have e1:gti (S.co++[c]) S.st.length=c:=by rw[←h1];exact zef
  have e2:gti (S.dn++[false]) S.st.length=false:=by rw[←h2];exact zef
  have e3:gti (S.fr++[f]) S.st.length=f:=by rw[←h3];exact zef
  have e4:gti (S.mv++[m]) S.st.length=m:=by rw[←h4];exact zef
  rw[zef,e1,e2,e3,e4]
theorem gtiA {α:Type}[Inhabited α]{l:List α}{i j:Nat}{x:α}(hi:i<l.length):gti (l.set i x) j=if i=j then x else gti l j:=by
 unfold gti
 rw[List.getElem?_set]
 by_cases h:i=j
 ·
  subst h;simp[hi]
 ·
  simp[h]
theorem zph {α:Type}{g g':Nat→α}{N i:Nat}(hi:i<N)(h: ∀k,k≠i→g' k=g k):(List.range N).map g'=((List.range N).map g).set i (g' i):=by
 refine List.ext_getElem? fun k=>?_
 rw[List.getElem?_set]
 by_cases hk:i=k
 ·
  subst hk;simp[hi]
 ·
  rw[if_neg hk,List.getElem?_map,List.getElem?_map]
  by_cases hkN:k<N
  ·
   rw[List.getElem?_range hkN,Option.map_some,Option.map_some,h k (fun e=>hk e.symm)]
  ·
   rw[List.getElem?_eq_none (by simpa using hkN)];rfl
theorem z74 {S:Sr}{x:Nat}(hx:x<S.st.length)(h2:S.dn.length=S.st.length):(fnds S).set x (putC (eFd S x) 2 [eB true])=fnds {S with dn:=S.dn.set x true}:=by
 have:=zph (g:=eFd S) (g':=eFd {S with dn:=S.dn.set x true}) hx (fun k hk=>by unfold eFd;dsimp only;rw[gtiA xa,if_neg (fun e=>hk e.symm)])
 unfold fnds
 dsimp only
 rw[this]
 congr 1
 unfold eFd
 dsimp only
 rw[gtiA xa,if_pos J]
 rfl
theorem z75 {S:Sr}{i:Nat}(hi:i<S.st.length)(h1:S.co.length=S.st.length)(h3:S.fr.length=S.st.length)(h4:S.mv.length=S.st.length)(c f:Int)(m:Stp):
  (fnds S).set i (aFd (gti S.st i) c (gti S.dn i) (mx0 f) m)=fnds ⟨S.st,S.co.set i c,S.dn,S.fr.set i f,S.mv.set i m⟩:=by
 have:=zph (g:=eFd S) (g':=eFd ⟨S.st,S.co.set i c,S.dn,S.fr.set i f,S.mv.set i m⟩) hi (fun k hk=>by unfold eFd;dsimp only;rw[gtiA xa,gtiA xa,gtiA xa,if_neg (fun e=>hk e.symm),if_neg (fun e=>hk e.symm),if_neg (fun e=>hk e.symm)])
 unfold fnds
 dsimp only
 rw[this]
 congr 1
 unfold eFd
 dsimp only
 rw[gtiA xa,gtiA xa,gtiA xa,if_pos J,if_pos J,if_pos J]
end Aw
end Go.Proofs.YtjdpnadhgjohnaaGreatDoor
