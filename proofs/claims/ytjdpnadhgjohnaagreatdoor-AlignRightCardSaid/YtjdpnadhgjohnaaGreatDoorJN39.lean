import Derived.Test.YtjdpnadhgjohnaaGreatDoorJN0
import Derived.Test.YtjdpnadhgjohnaaGreatDoorJN21
import Derived.Test.YtjdpnadhgjohnaaGreatDoorJN10
import Derived.Test.YtjdpnadhgjohnaaGreatDoorJN22
import Derived.Test.YtjdpnadhgjohnaaGreatDoorJN16
import Derived.Test.YtjdpnadhgjohnaaGreatDoorJN25
import Derived.Test.YtjdpnadhgjohnaaGreatDoorJN37
set_option linter.unusedSimpArgs false
set_option linter.unusedVariables false
set_option linter.unusedSectionVars false
namespace Go.Proofs.YtjdpnadhgjohnaaGreatDoor
namespace Aw
open Go Go.RowKit Go.Proofs Dl
variable {P:Program}[IsP P]
def eEn (e:En):AV:= .agg [eI e.1,eI e.2]
structure HQ (σ:List Ob)(a b:Nat)(l:List En):Prop where
 ha:σ[a]?=some (.row 1 [.own b 2 l.length])
 hb:σ[b]?=some (.row 2 (l.map eEn))
 ne:a≠b
theorem HQ.set {σ:List Ob}{a b:Nat}{l l':List En}(h:HQ σ a b l)(hl:l'.length=l.length):HQ (σ.set b (.row 2 (l'.map eEn))) a b l':=by
 have hbl:=(List.getElem?_eq_some_iff.1 h.hb).1
 exact⟨by rw[List.getElem?_set_ne (fun e=>h.ne e.symm),hl];exact h.ha,List.getElem?_set_self hbl,h.ne⟩
theorem zuc {l:List En}{i:Nat}(h:i<l.length):(l.map eEn)[i]?=some (eEn (gti l i)):=by rw[List.getElem?_map,zbr h];rfl
theorem zj4 (b m:Nat)(σ:List Ob):CallE P 88 [.own b 2 m] σ (eI m) σ:=by
 refine callE_fn (by rw[IsP.eq (P:=P)];exact Tryz.func88) rfl J (Nat.le_of_ble_eq_true J) ?_
 refine za8 (zar (zam J (zas (za8 (zar (zam J (zau J J (zaa J) (zcy J zjx J) (zam J (zas (zah ?_))))))))))
 (refine zg2 ?_;repeat (first|refine zbg ?_|refine zbh ?_))
 exact⟨.inr rfl,rfl,_, .cons _ _ _ _ (.tmp _ _ J) .nil,rfl⟩
theorem zk2 {b:Nat}{σ:List Ob}{l:List En}(hb:σ[b]?=some (.row 2 (l.map eEn))){i j:Nat}(hi:i<l.length)(hj:j<l.length)(hl:l.length≤1000000):CallE P 274 [.own b 2 l.length,eI i,eI j] σ (eB (decide (ky l i<ky l j))) σ:=by
 refine callE_fn (by rw[IsP.eq (P:=P)];exact Tryz.func274) rfl J (Nat.le_of_ble_eq_true J) ?_
 refine za8 (zar (zam J (zas (za8 ?_))))
 refine zdy hmix ?_
 refine zdu ?_
 refine ex_s J (ex_s J (zaz J J (zaa J) (fun _=>(zal J zjx zfo J J J hi)) (ex_f zg9 J (zb5 J J (zaa J) (zb9 J ta3 J hb J (zuc hi) rfl) (ex_s J (ex_s J (zaz J J (zaa J) (fun _=>(zal J zjx zfo J J J hj)) (ex_f zg9 J (zb5 J J (zaa J) (zb9 J ta3 J hb J (zuc hj) rfl) (zaz J J (zaa J) (fun _=>(za0 J J J)) (ex_s J ?_)))))))))))
 refine zh6 (by kernel_rfl) ?_
 refine zah ?_
 (refine zg2 ?_;repeat (first|refine zbg ?_|refine zbh ?_))
 exact⟨.inr rfl,rfl,_, .cons _ _ _ _ (.tmp _ _ J) .nil,rfl⟩
theorem zk1 {b:Nat}{σ:List Ob}{l:List En}(hb:σ[b]?=some (.row 2 (l.map eEn))){i j:Nat}(hi:i<l.length)(hj:j<l.length)(hl:l.length≤1000000):CallE P 277 [.own b 2 l.length,eI i,eI j] σ (.tup []) (σ.set b (.row 2 ((swp l i j).map eEn))):=by
 have hbl:=(List.getElem?_eq_some_iff.1 hb).1
 have h1:(σ.set b (.row 2 ((l.map eEn).set i (putC (eEn (gti l i)) 0 (eEn (gti l j)).cells))))[b]?=some (.row 2 ((l.set i (gti l j)).map eEn)):=by
  rw[List.getElem?_set_self hbl,List.map_set];rfl
 have hj1:j<(l.set i (gti l j)).length:=by simpa using hj
 refine callE_fn (by rw[IsP.eq (P:=P)];exact Tryz.func277) rfl J (Nat.le_of_ble_eq_true J) ?_
 refine zdy hmix ?_
 refine zdu ?_
 refine ex_s J (ex_s J (ex_s J (ex_s J (ex_s J (ex_s J (zaz J J (zaa J) (fun _=>(zal J zjx zfo J J J hj)) (zb5 J J (zaa J) (zfu J z2y zfo J hb J (zuc hj) rfl) (ex_s J (ex_s J (zaz J J (zaa J) (fun _=>(zal J zjx zfo J J J hi)) (zb5 J J (zaa J) (zfu J z2y zfo J hb J (zuc hi) rfl) (zaz J J (zaa J) (fun _=>(zal J zjx zfo J J J hi)) ?_))))))))))))
 refine zcx J (zaa J) (zat J zfo J J hb (zuc hi) rfl J xe xe) (fun _ h=>zbo h) ?_
 refine zaz J J (zaa J) (fun _=>(zal J zjx zfo J J J hj)) ?_
 refine zcx J (zaa J) (zat J zfo J J h1 (zuc hj1) rfl J xe xe) (fun _ h=>zbo h) ?_
 refine zh6 (by kernel_rfl) ?_
 refine⟨.inl rfl,?_,_, .nil,rfl⟩
 rw[List.set_set]
 unfold swp
 rw[List.map_set (i:=j)]
 rfl
theorem zw4 {a b:Nat}{σ:List Ob}{l:List En}(h:HQ σ a b l)(hl:l.length≤1000000)(x:En):CallE P 276 [.ptr a 1 0 0, .ifc 147 (eEn x)] σ (.tup []) ((σ.set b .dead++[Ob.row 2 ((l++[x]).map eEn)]).set a (.row 1 [.own σ.length 2 (l.length+1)])):=by
 obtain⟨ha,hb,hne⟩:=h
 have hal:=(List.getElem?_eq_some_iff.1 ha).1
 have hlm:(l.map eEn).length=l.length:=List.length_map _
 have hst:(σ.set b .dead++[Ob.row 2 (l.map eEn++[eEn x])])[a]?=some (.row 1 [.own b 2 l.length]):=by
  rw[List.getElem?_append_left (by simpa using hal),List.getElem?_set_ne (fun e=>hne e.symm)];exact ha
 refine callE_fn (by rw[IsP.eq (P:=P)];exact Tryz.func276) rfl J (Nat.le_of_ble_eq_true J) ?_
 refine zdy hmix ?_
 refine zdu ?_
 refine ex_s J (ex_s J (ex_s J (zb5 J J (zaa J) (zb9 J zmq J ha J J J) (ex_s J ?_))))
 refine zaz J J (zaa J) (fun _=>(zlv J (by rw[IsP.eq (P:=P)];kernel_rfl) rfl)) ?_
 refine zaz J J (zaa J) (fun _=>(zel J zjx zfo J J xe xe J J J (.agg _ (zaj (.s _) (zaj (.s _) zba))))) ?_
 refine ze8 J J (zaa J) (zca J zjx zfo J xe J hb hlm.symm J (.sl _ (by intro e he;simp at he;subst he;rfl)) (by unfold maxLen;simp;omega) (by simp;omega)) (fun _ h=>zc4 h) ?_
 refine ex_s J ?_
 refine zcx J (zaa J) (zat J ti149 J J hst J J J xe xe) (fun _ h=>zbo h) ?_
 refine zh6 (by kernel_rfl) ?_
 refine⟨.inl rfl,?_,_, .nil,rfl⟩
 show(σ.set b .dead++[Ob.row 2 (l.map eEn++[eEn x])]).set a (.row 1 [.own σ.length 2 ((l.map eEn).length+1)])=_
 rw[hlm,List.map_append]
 rfl
theorem zzh {a b:Nat}{σ:List Ob}{l:List En}(h:HQ σ a b l)(h0:0<l.length)(hl:l.length≤1000000):CallE P 275 [.ptr a 1 0 0] σ (.ifc 147 (eEn (gti l (l.length-1)))) (((σ++[Ob.row 2 [eEn (gti l (l.length-1))]]).set b (.row 2 ((l.take (l.length-1)).map eEn))).set a (.row 1 [.own b 2 (l.length-1)])):=by
 obtain⟨ha,hb,hne⟩:=h
 have hal:=(List.getElem?_eq_some_iff.1 ha).1
 have hbl:=(List.getElem?_eq_some_iff.1 hb).1
 have hk:l.length-1<l.length:=by omega
 have hki:(l.length:Int)-1=((l.length-1:Nat):Int):=by omega
 refine callE_fn (by rw[IsP.eq (P:=P)];exact Tryz.func275) rfl J (Nat.le_of_ble_eq_true J) ?_
 refine za8 (zar (zam J (zas (za8 (zar (zam J (zam J (zau J J (zaa J) (zao J zmq J ha J J J) (zam J (zas (za8 (zar (zam J (zam J (zau J J (zaa J) (zcy J zjx J) (zau J J (zaa J) (zcb J J J (IntWalk.i64_in _ xa)) (zau J J (zaa J) (zal J zjx zfo J J hki hk) (zau J J (zaa J) (zdg J z2y zfo J hb J (zuc hk) rfl) (zau J J (zaa J) (zcd J zfo J J) ?_)))))))))))))))))))
 refine zv7 J (zaa J) (zat J zfo J J (by rw[List.getElem?_append_right (Nat.le_refl _),Nat.sub_self];rfl) rfl J J xe xe) ?_
 refine zas (za8 ?_)
 have hw:IntKind.i64.wrap ((l.length:Int)-1)=((l.length-1:Nat):Int):=by rw[hki];exact IntWalk.i64_in _ xa
 obtain⟨z,hz⟩: ∃z,z=gti l (l.length-1):=⟨_,rfl⟩
 obtain⟨σ1,hs1⟩: ∃σ1,σ1=(σ++[Ob.row 2 [AV.agg [eI 0,eI 0]]]).set σ.length (.row 2 ([AV.agg [eI 0,eI 0]].set 0 (putC (AV.agg [eI 0,eI 0]) 0 (eEn z).cells))):=⟨_,rfl⟩
 have hb2:σ1[b]?=some (.row 2 (l.map eEn)):=by
  rw[hs1,List.getElem?_set_ne xa,List.getElem?_append_left hbl];exact hb
 have ha2:(σ1.set b (.row 2 ((l.map eEn).take (l.length-1))))[a]?=some (.row 1 [.own b 2 l.length]):=by
  rw[List.getElem?_set_ne (fun e=>hne e.symm),hs1,List.getElem?_set_ne xa,List.getElem?_append_left hal];exact ha
 have hc2:((σ1.set b (.row 2 ((l.map eEn).take (l.length-1)))).set a (.row 1 ([AV.own b 2 l.length].set 0 (putC (.own b 2 l.length) 0 (AV.own b 2 (l.length-1)).cells))))[σ.length]?=some (.row 2 [eEn z]):=by
  rw[List.getElem?_set_ne xa,List.getElem?_set_ne xa,hs1,List.getElem?_set_self xm];rfl
 have he:σ1=σ++[Ob.row 2 [eEn z]]:=by
  rw[hs1,List.set_append_right _ _ (Nat.le_refl _),Nat.sub_self];rfl
 refine ew_st (σ':=σ1) (by rw[hs1,hz];rfl) ?_
 rw[←hz]
 clear hs1
 refine zar (zam J (zam J (zam J (zau J J (zaa J) (zcy J zjx J) (zau J J (zaa J) (zcb J J J hw) (zau J J (zaa J) (zqy J zjx zfo J J h0 J J xa hb2) (zam J (zv7 J (zaa J) (zat J ti149 J J ha2 J J J xe xe) (zas (za8 (zar (zau J J (zaa J) (zdg J z2y zfo J hc2 J J J) ?_))))))))))))
 refine zau J J (zaa J) (zg3 J (by rw[IsP.eq (P:=P)];kernel_rfl) rfl) ?_
 refine zam J (zas (zah ?_))
 (refine zg2 ?_;repeat (first|refine zbg ?_|refine zbh ?_))
 refine⟨.inr rfl,?_,_, .cons _ _ _ _ (.tmp _ _ J) .nil,rfl⟩
 rw[he,List.map_take]
 rfl
end Aw
namespace Aw
open Go Go.RowKit Go.Proofs Dl
variable {P:Program}[IsP P]
theorem mLen:MethV P 145 "Len" 88 149:=⟨fun a w=>by rw[IsP.eq (P:=P)];kernel_rfl⟩
theorem mLess:MethV P 145 "Less" 274 149:=⟨fun a w=>by rw[IsP.eq (P:=P)];kernel_rfl⟩
theorem z7v:MethV P 145 "Swap" 277 149:=⟨fun a w=>by rw[IsP.eq (P:=P)];kernel_rfl⟩
theorem mPush:MethP P 145 "Push" 276:=⟨fun a w=>by rw[IsP.eq (P:=P)];kernel_rfl⟩
theorem mPop:MethP P 145 "Pop" 275:=⟨fun a w=>by rw[IsP.eq (P:=P)];kernel_rfl⟩
theorem zl9 {σ:List Ob}{b:Nat}{x:Ob}(h:σ[b]?=some x):σ.set b x=σ:=by
 obtain⟨hb,h1⟩:=List.getElem?_eq_some_iff.1 h
 rw[←h1];exact List.set_getElem_self hb
def qIf (a:Nat):AV:= .ifc 145 (.ptr a 1 0 0)
set_option maxHeartbeats 1000000 in
theorem z3z {a b:Nat}{σ:List Ob}{l:List En}(h:HQ σ a b l){j:Nat}(hj:j<l.length)(hl:l.length≤1000000):CallE P 144 [qIf a,eI j] σ (.tup []) (σ.set b (.row 2 ((upD l j).map eEn))):=by
 obtain⟨R,hR⟩: ∃R,upD l j=R:=⟨_,rfl⟩
 rw[hR]
 refine callE_fn (by rw[IsP.eq (P:=P)];exact Tryz.func144) rfl J (Nat.le_of_ble_eq_true J) ?_
 refine zck ?_
 refine zit (S:=List En × Nat) (fun p=>[(0,qIf a),(1,eI p.2)]) (fun p=>σ.set b (.row 2 (p.1.map eEn))) (fun p=>p.1.length=l.length∧p.2<l.length∧upD p.1 p.2=R) (fun p=>p.2) (l,j) ⟨rfl,rfl,trivial⟩ (zl9 h.hb).symm ⟨rfl,hj,hR⟩ (fun p hp=>?_)
 obtain⟨l1,j⟩:=p
 obtain⟨h1,h2,h3⟩:=hp
 replace h1:l1.length=l.length:=h1
 replace h2:j<l.length:=h2
 replace h3:upD l1 j=R:=h3
 have hQ:=h.set h1
 rw[zu0] at h3
 have hq:IntKind.i64.wrap (((j:Int)-1).tdiv 2)=(((j-1) / 2:Nat):Int):=by
  have:((j:Int)-1).tdiv 2=(((j-1) / 2:Nat):Int):=by
   by_cases h0:j=0
   ·
    subst h0;rfl
   ·
    rw[show(j:Int)-1=((j-1:Nat):Int) by omega];rfl
  rw[this];exact IntWalk.i64_in _ xa
 refine zck (za8 (zar (zam J (zau J J (zaa J) (zcb J J J (IntWalk.i64_in _ xa)) (zau J J (zaa J) (zmi J J J xa hq) (zam J (zas (za8 (za8 ?_)))))))))
 by_cases h0:j=0
 ·
  rw[dif_pos h0] at h3
  have heq:((((j-1) / 2:Nat):Int))=(j:Int):=by omega
  refine zar (zam J (zam J (zau J J (zaa J) (zbn heq (zb2 J J J)) (zam J (zh7 J (zh7 J (zh7 J (zh7 J (zh7 J (zam J (zas (zah (ze2 J ?_)))))))))))))
  (refine zf5 ?_;repeat (first|refine zep ?_|refine zcg ?_|refine zbz J ?_|refine zcf ?_|refine zah ?_|refine za8 ?_|refine zc7 ?_|refine zck ?_))
  refine⟨.inl rfl,?_,_, .nil,rfl⟩
  show σ.set b _=σ.set b _
  rw[h3]
 ·
  rw[dif_neg h0] at h3
  have hne: ¬ ((((j-1) / 2:Nat):Int))=(j:Int):=by omega
  have hi:(j-1) / 2<l1.length:=by omega
  have hL:=zk2 (P:=P) hQ.hb (i:=j) (j:=(j-1) / 2) xa hi xa
  have hS:=zk1 (P:=P) hQ.hb (i:=(j-1) / 2) (j:=j) hi xa xa
  have hA:zl5 P 145 "Less" 274 (σ.set b (.row 2 (l1.map eEn))) (.ptr a 1 0 0) (.own b 2 l1.length):=zjk mLess zmq hQ.ha J J J
  have hA2:zl5 P 145 "Swap" 277 (σ.set b (.row 2 (l1.map eEn))) (.ptr a 1 0 0) (.own b 2 l1.length):=zjk z7v zmq hQ.ha J J J
  by_cases hlt:ky l1 j<ky l1 ((j-1) / 2)
  ·
   rw[if_pos hlt] at h3
   rw[decide_eq_true hlt] at hL
   refine zar (zam J (zam J (zau J J (zaa J) (zbl hne (zb2 J J J)) (zam J (zam J (zam J (zam J (zau J J (zap J J J) (zcq J J hA hL J) (zau J J (zap J J J) (zbs J J) (zam J (zas (zah (zd9 J (zc7 (za8 (zar (zam J (zam J (zam J (zau J J (zaa J) (zcq J J hA2 hS J) (zas (zah (zar (zam J (zam J (zas (zcf (zah ?_))))))))))))))))))))))))))))
   exact⟨(swp l1 ((j-1) / 2) j,(j-1) / 2),⟨by rw[zd4];exact h1,by show(j-1) / 2<l.length;omega,h3⟩,by show(j-1) / 2<j;omega,⟨rfl,rfl,trivial⟩,List.set_set ..⟩
  ·
   rw[if_neg hlt] at h3
   rw[decide_eq_false hlt] at hL
   refine zar (zam J (zam J (zau J J (zaa J) (zbl hne (zb2 J J J)) (zam J (zam J (zam J (zam J (zau J J (zap J J J) (zcq J J hA hL J) (zau J J (zap J J J) (zbs J J) (zam J (zas (zah (ze2 J ?_)))))))))))))
   (refine zf5 ?_;repeat (first|refine zep ?_|refine zcg ?_|refine zbz J ?_|refine zcf ?_|refine zah ?_|refine za8 ?_|refine zc7 ?_|refine zck ?_))
   refine⟨.inl rfl,?_,_, .nil,rfl⟩
   show σ.set b _=σ.set b _
   rw[h3]
set_option maxHeartbeats 2000000 in
theorem zxk {a b:Nat}{σ:List Ob}{l:List En}(h:HQ σ a b l){i0 n:Nat}(hi:i0≤n)(hn:n≤l.length)(hl:l.length≤1000000):CallE P 142 [qIf a,eI i0,eI n] σ .any (σ.set b (.row 2 ((dnD l n i0).map eEn))):=by
 obtain⟨R,hR⟩: ∃R,dnD l n i0=R:=⟨_,rfl⟩
 rw[hR]
 refine callE_fn (by rw[IsP.eq (P:=P)];exact Tryz.func142) rfl J (Nat.le_of_ble_eq_true J) ?_
 refine za8 (zar (zam J (zas (za8 (zar (zam J (zam J (zas (za8 (zck ?_))))))))))
 refine zit (S:=List En × Nat) (fun p=>[(0,qIf a),(1,eI i0),(2,eI n),(7,eI p.2)]) (fun p=>σ.set b (.row 2 (p.1.map eEn))) (fun p=>p.1.length=l.length∧p.2≤n∧dnD p.1 n p.2=R) (fun p=>n-p.2) (l,i0) ⟨rfl,rfl,rfl,rfl,trivial⟩ (zl9 h.hb).symm ⟨rfl,hi,hR⟩ (fun p hp=>?_)
 obtain⟨l1,i⟩:=p
 obtain⟨h1,h2,h3⟩:=hp
 replace h1:l1.length=l.length:=h1
 replace h2:i≤n:=h2
 replace h3:dnD l1 n i=R:=h3
 have hQ:=h.set h1
 rw[zkq] at h3
 refine zck (za8 (zar (zam J (zau J J (zaa J) (ze3 J J J (IntWalk.i64_in _ xa)) (zau J J (zaa J) (za2 J J J (IntWalk.i64_in _ xa)) (zam J (zas (za8 (za8 ?_)))))))))
 by_cases hc:2*i+1<n
 rotate_left 1
 ·
  rw[dif_neg hc] at h3
  refine zar (zam J (zam J (zau J J (zaa J) (zbn xa (zc9 J J J)) (zam J (zh7 J (zh7 J (zam J (zas (zah (ze2 J ?_))))))))))
  (refine zf5 ?_;repeat (first|refine zep ?_|refine zcg ?_|refine zbz J ?_|refine zcf ?_|refine zah ?_|refine za8 ?_|refine zc7 ?_|refine zck ?_))
  refine zar (zam J (zam J (zau J J (zaa J) (zay J J J) (zam J (zas (zah (zlu [(0,qIf a)] ⟨rfl,trivial⟩ ?_)))))))
  (refine zg2 ?_;repeat (first|refine zbg ?_|refine zbh ?_))
  refine⟨.inr rfl,?_,_, .cons _ _ _ _ (.tmp _ _ J) .nil,rfl⟩
  show σ.set b _=σ.set b _
  rw[h3]
 rw[dif_pos hc] at h3
 have hcl:=zl1 (l:=l1) hc
 have hA:zl5 P 145 "Less" 274 (σ.set b (.row 2 (l1.map eEn))) (.ptr a 1 0 0) (.own b 2 l1.length):=zjk mLess zmq hQ.ha J J J
 have hA2:zl5 P 145 "Swap" 277 (σ.set b (.row 2 (l1.map eEn))) (.ptr a 1 0 0) (.own b 2 l1.length):=zjk z7v zmq hQ.ha J J J
 refine zar (zam J (zam J (zau J J (zaa J) (zbl xa (zc9 J J J)) (zam J (zam J (zau J J (zap J J J) (zbl xa (za0 J J J)) (zam J (zas (zah (zd9 J (zc7 (za8 (zar (zam J (zam J (zas (za8 (za8 (zar (zam J (zau J J (zaa J) (za2 J J J (IntWalk.i64_in _ xa)) (zam J (zas (za8 ?_))))))))))))))))))))))))
 have hcd:chD l1 n i=if 2*i+2<n∧ky l1 (2*i+2)<ky l1 (2*i+1) then 2*i+2 else 2*i+1:=rfl
 have hL8:=zk2 (P:=P) hQ.hb (i:=chD l1 n i) (j:=i) xa xa xa
 have hS9:=zk1 (P:=P) hQ.hb (i:=i) (j:=chD l1 n i) xa xa xa
 obtain⟨j,hj⟩: ∃j,chD l1 n i=j:=⟨_,rfl⟩
 rw[hj] at hL8 hS9 h3 hcl hcd
 by_cases h22:2*i+2<n
 rotate_left 1
 ·
  rw[if_neg (fun h=>h22 h.1)] at hcd
  refine zar (zam J (zam J (zau J J (zaa J) (zbl xa (za0 J J J)) (zam J (zh7 J (zh7 J (zh7 J (zh7 J (zam J (zas (zah (zd9 J (zc7 (za8 (za8 (zlu [(0,qIf a),(1,eI i0),(2,eI n),(7,eI i),(9,eI j)] ⟨rfl,rfl,rfl,rfl,congrArg eI xa,trivial⟩ ?_))))))))))))))))
  by_cases hlt:ky l1 j<ky l1 i
  ·
   rw[if_pos hlt] at h3
   rw[decide_eq_true hlt] at hL8
   refine zar (zam J (zam J (zam J (zau J J (zaa J) (zcq J J hA hL8 J) (zau J J (zaa J) (zbs J J) (zas (zah (zd9 J (zc7 (za8 (zar (zam J (zam J (zam J (zau J J (zaa J) (zcq J J hA2 hS9 J) (zas (zah (zar (zam J (zam J (zas (zcf (zah ?_)))))))))))))))))))))))
   exact⟨(swp l1 i j,j),⟨by rw[zd4];exact h1,by show j≤n;omega,h3⟩,by show n-j<n-i;omega,⟨rfl,rfl,rfl,rfl,trivial⟩,List.set_set ..⟩
  ·
   rw[if_neg hlt] at h3
   rw[decide_eq_false hlt] at hL8
   refine zar (zam J (zam J (zam J (zau J J (zaa J) (zcq J J hA hL8 J) (zau J J (zaa J) (zbs J J) (zas (zah (ze2 J ?_))))))))
   (refine zf5 ?_;repeat (first|refine zep ?_|refine zcg ?_|refine zbz J ?_|refine zcf ?_|refine zah ?_|refine za8 ?_|refine zc7 ?_|refine zck ?_))
   refine zar (zam J (zam J (zau J J (zaa J) (zay J J J) (zam J (zas (zah (zlu [(0,qIf a)] ⟨rfl,trivial⟩ ?_)))))))
   (refine zg2 ?_;repeat (first|refine zbg ?_|refine zbh ?_))
   refine⟨.inr rfl,?_,_, .cons _ _ _ _ (.tmp _ _ J) .nil,rfl⟩
   show σ.set b _=σ.set b _
   rw[h3]
 have hL6:=zk2 (P:=P) hQ.hb (i:=2*i+2) (j:=2*i+1) xa xa xa
 by_cases hk:ky l1 (2*i+2)<ky l1 (2*i+1)
 ·
  rw[if_pos ⟨h22,hk⟩] at hcd
  rw[decide_eq_true hk] at hL6
  refine zar (zam J (zam J (zau J J (zaa J) (zbn xa (za0 J J J)) (zam J (zam J (zam J (zam J ?_)))))))
  refine zau J J (zap J J J) (zcq J J hA hL6 (by first|rfl|(simp only[eI];congr 3<;>omega))) ?_
  refine zam J (zas (zah (ze2 J (zar (zam J (zam J (zas (za8 (za8 (zlu [(0,qIf a),(1,eI i0),(2,eI n),(7,eI i),(9,eI j)] ⟨rfl,rfl,rfl,rfl,congrArg eI xa,trivial⟩ ?_))))))))))
  by_cases hlt:ky l1 j<ky l1 i
  ·
   rw[if_pos hlt] at h3
   rw[decide_eq_true hlt] at hL8
   refine zar (zam J (zam J (zam J (zau J J (zaa J) (zcq J J hA hL8 J) (zau J J (zaa J) (zbs J J) (zas (zah (zd9 J (zc7 (za8 (zar (zam J (zam J (zam J (zau J J (zaa J) (zcq J J hA2 hS9 J) (zas (zah (zar (zam J (zam J (zas (zcf (zah ?_)))))))))))))))))))))))
   exact⟨(swp l1 i j,j),⟨by rw[zd4];exact h1,by show j≤n;omega,h3⟩,by show n-j<n-i;omega,⟨rfl,rfl,rfl,rfl,trivial⟩,List.set_set ..⟩
  ·
   rw[if_neg hlt] at h3
   rw[decide_eq_false hlt] at hL8
   refine zar (zam J (zam J (zam J (zau J J (zaa J) (zcq J J hA hL8 J) (zau J J (zaa J) (zbs J J) (zas (zah (ze2 J ?_))))))))
   (refine zf5 ?_;repeat (first|refine zep ?_|refine zcg ?_|refine zbz J ?_|refine zcf ?_|refine zah ?_|refine za8 ?_|refine zc7 ?_|refine zck ?_))
   refine zar (zam J (zam J (zau J J (zaa J) (zay J J J) (zam J (zas (zah (zlu [(0,qIf a)] ⟨rfl,trivial⟩ ?_)))))))
   (refine zg2 ?_;repeat (first|refine zbg ?_|refine zbh ?_))
   refine⟨.inr rfl,?_,_, .cons _ _ _ _ (.tmp _ _ J) .nil,rfl⟩
   show σ.set b _=σ.set b _
   rw[h3]
 ·
  rw[if_neg (fun h=>hk h.2)] at hcd
  rw[decide_eq_false hk] at hL6
  refine zar (zam J (zam J (zau J J (zaa J) (zbn xa (za0 J J J)) (zam J (zam J (zam J (zam J ?_)))))))
  refine zau J J (zap J J J) (zcq J J hA hL6 (by first|rfl|(simp only[eI];congr 3<;>omega))) ?_
  refine zam J (zas (zah (zd9 J (zc7 (za8 (za8 (zlu [(0,qIf a),(1,eI i0),(2,eI n),(7,eI i),(9,eI j)] ⟨rfl,rfl,rfl,rfl,congrArg eI xa,trivial⟩ ?_)))))))
  by_cases hlt:ky l1 j<ky l1 i
  ·
   rw[if_pos hlt] at h3
   rw[decide_eq_true hlt] at hL8
   refine zar (zam J (zam J (zam J (zau J J (zaa J) (zcq J J hA hL8 J) (zau J J (zaa J) (zbs J J) (zas (zah (zd9 J (zc7 (za8 (zar (zam J (zam J (zam J (zau J J (zaa J) (zcq J J hA2 hS9 J) (zas (zah (zar (zam J (zam J (zas (zcf (zah ?_)))))))))))))))))))))))
   exact⟨(swp l1 i j,j),⟨by rw[zd4];exact h1,by show j≤n;omega,h3⟩,by show n-j<n-i;omega,⟨rfl,rfl,rfl,rfl,trivial⟩,List.set_set ..⟩
  ·
   rw[if_neg hlt] at h3
   rw[decide_eq_false hlt] at hL8
   refine zar (zam J (zam J (zam J (zau J J (zaa J) (zcq J J hA hL8 J) (zau J J (zaa J) (zbs J J) (zas (zah (ze2 J ?_))))))))
   (refine zf5 ?_;repeat (first|refine zep ?_|refine zcg ?_|refine zbz J ?_|refine zcf ?_|refine zah ?_|refine za8 ?_|refine zc7 ?_|refine zck ?_))
   refine zar (zam J (zam J (zau J J (zaa J) (zay J J J) (zam J (zas (zah (zlu [(0,qIf a)] ⟨rfl,trivial⟩ ?_)))))))
   (refine zg2 ?_;repeat (first|refine zbg ?_|refine zbh ?_))
   refine⟨.inr rfl,?_,_, .cons _ _ _ _ (.tmp _ _ J) .nil,rfl⟩
   show σ.set b _=σ.set b _
   rw[h3]
def z5j (σ:List Ob)(a b:Nat)(l:List En)(x:En):List Ob:=((σ.set b .dead++[Ob.row 2 ((l++[x]).map eEn)]).set a (.row 1 [.own σ.length 2 (l.length+1)])).set σ.length (.row 2 ((zix l x).map eEn))
theorem zpm {a b:Nat}{σ:List Ob}{l:List En}(h:HQ σ a b l)(hl:l.length≤900000)(x:En):CallE P 91 [qIf a, .ifc 147 (eEn x)] σ (.tup []) (z5j σ a b l x):=by
 have hal:=(List.getElem?_eq_some_iff.1 h.ha).1
 obtain⟨σ1,hs1⟩: ∃σ1,σ1=(σ.set b .dead++[Ob.row 2 ((l++[x]).map eEn)]).set a (.row 1 [.own σ.length 2 (l.length+1)]):=⟨_,rfl⟩
 have hP:=zw4 (P:=P) h xa x
 rw[←hs1] at hP
 have hQ:HQ σ1 a σ.length (l++[x]):=by
  refine⟨?_,?_,by omega⟩
  ·
   rw[hs1,List.getElem?_set_self (by simp;omega),List.length_append];rfl
  ·
   rw[hs1,List.getElem?_set_ne xa,List.getElem?_append_right xm,List.length_set,Nat.sub_self];rfl
 have hA:zl5 P 145 "Push" 276 σ (.ptr a 1 0 0) (.ptr a 1 0 0):=zz4 mPush
 have hA2:zl5 P 145 "Len" 88 σ1 (.ptr a 1 0 0) (.own σ.length 2 (l++[x]).length):=zjk mLen zmq hQ.ha J J J
 have hL:=zj4 (P:=P) σ.length (l++[x]).length σ1
 have hU:=z3z (P:=P) hQ (j:=l.length) xm (by simp;omega)
 have hw:IntKind.i64.wrap (((l++[x]).length:Int)-1)=(l.length:Int):=by
  rw[show(((l++[x]).length:Nat):Int)-1=(l.length:Int) by simp];exact IntWalk.i64_in _ xa
 refine callE_fn (by rw[IsP.eq (P:=P)];exact Tryz.func91) rfl J (Nat.le_of_ble_eq_true J) ?_
 refine za8 (zar (zam J (zam J (zau J J (zaa J) (zcq J J hA hP J) (zas (zah (zar (zam J (zam J (zau J J (zaa J) (zcq J J hA2 hL J) (zau J J (zaa J) (zcb J J J hw) (zau J J (zaa J) (zb4 J J hU J) (zas ?_)))))))))))))
 refine⟨.inl rfl,?_,_, .nil,rfl⟩
 unfold z5j zix
 rw[hs1]
def stPop (σ:List Ob)(a b:Nat)(l:List En):List Ob:=((σ.set b (.row 2 ((popD l).map eEn))++[Ob.row 2 [eEn (gti l 0)]]).set b (.row 2 (((popD l).take (l.length-1)).map eEn))).set a (.row 1 [.own b 2 (l.length-1)])
theorem z0r {a b:Nat}{σ:List Ob}{l:List En}(h:HQ σ a b l)(h0:0<l.length)(hl:l.length≤900000):CallE P 89 [qIf a] σ (.ifc 147 (eEn (gti l 0))) (stPop σ a b l):=by
 have hki:(l.length:Int)-1=((l.length-1:Nat):Int):=by omega
 have hw:IntKind.i64.wrap ((l.length:Int)-1)=((l.length-1:Nat):Int):=by rw[hki];exact IntWalk.i64_in _ xa
 have hA1:zl5 P 145 "Len" 88 σ (.ptr a 1 0 0) (.own b 2 l.length):=zjk mLen zmq h.ha J J J
 have hL:=zj4 (P:=P) b l.length σ
 have hA2:zl5 P 145 "Swap" 277 σ (.ptr a 1 0 0) (.own b 2 l.length):=zjk z7v zmq h.ha J J J
 have hS:=zk1 (P:=P) h.hb (i:=0) (j:=l.length-1) h0 xa xa
 have hQ1:=h.set (l':=swp l 0 (l.length-1)) (zd4 ..)
 have hD:=zxk (P:=P) hQ1 (i0:=0) (n:=l.length-1) (Nat.zero_le _) (by rw[zd4];omega) (by rw[zd4];omega)
 rw[List.set_set] at hD
 have hpd:dnD (swp l 0 (l.length-1)) (l.length-1) 0=popD l:=rfl
 rw[hpd] at hD
 have hQ2:=h.set (l':=popD l) zgo
 have hA3:zl5 P 145 "Pop" 275 (σ.set b (.row 2 ((popD l).map eEn))) (.ptr a 1 0 0) (.ptr a 1 0 0):=zz4 mPop
 have hP:=zzh (P:=P) hQ2 (by rw[zgo];exact h0) (by rw[zgo];omega)
 rw[zgo,z69 h0] at hP
 refine callE_fn (by rw[IsP.eq (P:=P)];exact Tryz.func89) rfl J (Nat.le_of_ble_eq_true J) ?_
 refine za8 (zar (zam J (zas (za8 (zar (zam J (zau J J (zaa J) (zcq J J hA1 hL J) (zau J J (zaa J) (zcb J J J hw) (zam J (zas (za8 (zar (zam J (zam J (zau J J (zaa J) (zcq J J hA2 hS J) (zas (za8 (zar (zam J (zam J (zau J J (zaa J) (zb4 J J hD J) (zas (za8 (zar (zam J (zau J J (zaa J) (zcq J J hA3 hP J) (zam J (zas (zah ?_)))))))))))))))))))))))))))))
 (refine zg2 ?_;repeat (first|refine zbg ?_|refine zbh ?_))
 exact⟨.inr rfl,rfl,_, .cons _ _ _ _ (.tmp _ _ J) .nil,rfl⟩
end Aw
end Go.Proofs.YtjdpnadhgjohnaaGreatDoor
