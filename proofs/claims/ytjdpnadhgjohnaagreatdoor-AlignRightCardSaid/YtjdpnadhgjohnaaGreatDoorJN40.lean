import Derived.Test.YtjdpnadhgjohnaaGreatDoorJN0
import Derived.Test.YtjdpnadhgjohnaaGreatDoorJN39
import Derived.Test.YtjdpnadhgjohnaaGreatDoorJN34
set_option linter.unusedSimpArgs false
set_option linter.unusedVariables false
set_option linter.unusedSectionVars false
namespace Go.Proofs.YtjdpnadhgjohnaaGreatDoor
namespace Dl
open Go.RowKit
def swpB (l:List ByteArray)(i j:Nat):List ByteArray:=(l.set i (gti l j)).set j (gti l i)
theorem zp5 (l:List ByteArray)(i j:Nat):(swpB l i j).length=l.length:=by simp[swpB]
def bubS:List ByteArray→Nat→List ByteArray
 |l,0=>l
 |l,j+1=>if ltS (gti l (j+1)) (gti l j)=true then bubS (swpB l (j+1) j) j else l
def srtS (l:List ByteArray):Nat→List ByteArray
 |0=>l
 |i+1=>bubS (srtS l i) i
theorem zwi: ∀ (j:Nat) (l:List ByteArray),(bubS l j).length=l.length
 |0,l=>rfl
 | j+1,l=>by
  unfold bubS
  split
  ·
   rw[zwi j,zp5]
  ·
   rfl
theorem zj0 (l:List ByteArray): ∀i,(srtS l i).length=l.length
 |0=>rfl
 |i+1=>by unfold srtS;rw[zwi,zj0 l i]
end Dl
namespace Aw
open Go Go.RowKit Go.Proofs Dl
variable {P:Program}[IsP P]
theorem z7l (s:ByteArray):Pure P 237 [eS s] (eB false):=by
 refine zd1 (by rw[IsP.eq (P:=P)];exact Tryz.func237) rfl J J J J (zaj (.s _) zba) (.s _) (by simp only[argF];rfl) ?_
 refine zag (zab (zac J (zae (zag (zab (zac J (zac J ?_)))))))
 refine zad J J (zaa J) (zbl (fun h=>h J) (zv9 J J J)) ?_
 refine zac J (zae (zah ?_))
 (refine za3 ?_;repeat (first|refine zbg ?_|refine zbh ?_))
 exact zcl (.inr rfl) rfl J
theorem z7z (a b:ByteArray):Pure P 198 [eS a,eS b] (eB (ltS a b)):=by
 have h1:=z7l (P:=P) a
 refine zd1 (by rw[IsP.eq (P:=P)];exact Tryz.func198) rfl J J J J (zaj (.s _) (zaj (.s _) zba)) (.s _) (by simp only[argF];rfl) ?_
 refine zag (zab (zac J (zae (zag (zab (zac J (zad J J (zaa J) (zai J J (h1) (zaf J zaq)) (zac J (zbb J (zbb J (zbb J (zac J (zac J (zac J (zac J (zad J J (zap J J J) (zwb J J J) (zac J (zac J (zae (zah ?_))))))))))))))))))))
 (refine za3 ?_;repeat (first|refine zbg ?_|refine zbh ?_))
 exact zcl (.inr rfl) rfl J
theorem zsx {l:List ByteArray}{i:Nat}(h:i<l.length):(l.map eS)[i]?=some (eS (gti l i)):=by rw[List.getElem?_map,zbr h];rfl
set_option maxHeartbeats 1000000 in
theorem z3x {b:Nat}{σ:List Ob}{l:List ByteArray}(hb:σ[b]?=some (.row 1 (l.map eS)))(hl:l.length≤1000):CallE P 192 [.own b 1 l.length,eI 0,eI l.length] σ (.tup []) (σ.set b (.row 1 ((srtS l l.length).map eS))):=by
 have hbl:=(List.getElem?_eq_some_iff.1 hb).1
 refine callE_fn (by rw[IsP.eq (P:=P)];exact Tryz.func192) rfl J (Nat.le_of_ble_eq_true J) ?_
 refine za8 (zar (zam J (zau J J (zaa J) (za2 J J J (IntWalk.i64_in _ xa)) (zam J (zas (zah (zck ?_)))))))
 refine zit (S:=Nat) (fun i=>[(0, .own b 1 l.length),(1,eI 0),(2,eI l.length),(6,eI i)]) (fun i=>σ.set b (.row 1 ((srtS l i).map eS))) (fun i=>1≤i∧(i≤l.length∨i=1)) (fun i=>l.length-i) 1 ⟨rfl,rfl,rfl,rfl,trivial⟩ (zl9 hb).symm ⟨Nat.le_refl _, .inr rfl⟩ (fun i hi=>?_)
 obtain⟨hi1,hi2⟩:=hi
 refine za8 (za8 ?_)
 by_cases hlt:i<l.length
 ·
  refine zar (zam J (zam J (zau J J (zaa J) (zbn xa (za0 J J J)) (zas (zah (ze2 J (zc7 (za8 (zck (za8 (zar (zam J (zam J (zas (zah (zck ?_))))))))))))))))
  refine zit (S:=List ByteArray × Nat) (fun p=>[(0, .own b 1 l.length),(1,eI 0),(2,eI l.length),(6,eI i),(7,eI p.2)]) (fun p=>σ.set b (.row 1 (p.1.map eS))) (fun p=>p.1.length=l.length∧p.2≤i∧bubS p.1 p.2=srtS l (i+1)) (fun p=>p.2) (srtS l i,i) ⟨rfl,rfl,rfl,rfl,rfl,trivial⟩ rfl ⟨zj0 l i,Nat.le_refl _,rfl⟩ (fun p hp=>?_)
  obtain⟨L,j⟩:=p
  obtain⟨hL,hj,hB⟩:=hp
  replace hL:L.length=l.length:=hL
  replace hj:j≤i:=hj
  replace hB:bubS L j=srtS l (i+1):=hB
  have hb1:(σ.set b (.row 1 (L.map eS)))[b]?=some (.row 1 (L.map eS)):=List.getElem?_set_self hbl
  refine za8 (za8 ?_)
  cases j with
  |zero=>
   replace hB:L=srtS l (i+1):=hB
   refine zdy hmix ?_
   refine zdu ?_
   refine ex_s J (ex_s J ?_)
   refine zaz J J (zaa J) (fun _=>(zbl (by show ¬ (((0:Nat):Int)>0);omega) (zay J J J))) ?_
   refine ex_s J (ex_z J (ex_z J (ex_z J (ex_z J (ex_z J (ex_z J (ex_z J (ex_z J (ex_z J (ex_z J (ex_s J ?_)))))))))))
   refine zh6 (by kernel_rfl) ?_
   refine zah (zd9 J ?_)
   (refine zf5 ?_;repeat (first|refine zep ?_|refine zcg ?_|refine zbz J ?_|refine zcf ?_|refine zah ?_|refine za8 ?_|refine zc7 ?_|refine zck ?_))
   refine zar (zam J (zau J J (zaa J) (za2 J J J (IntWalk.i64_in _ xa)) (zam J (zas (zah ?_)))))
   refine⟨i+1,⟨by show 1≤i+1;omega, .inl hlt⟩,by show l.length-(i+1)<l.length-i;omega,⟨rfl,rfl,rfl,rfl,trivial⟩,?_⟩
   show σ.set b _=σ.set b _
   rw[hB]
  | succ j=>
   have hj1:j+1<L.length:=by omega
   have hj0:j<L.length:=by omega
   have hlp:=z7z (P:=P) (gti L (j+1)) (gti L j)
   have hk:((j+1:Nat):Int)-1=(j:Int):=by omega
   have hwk:IntKind.i64.wrap (((j+1:Nat):Int)-1)=(j:Int):=by rw[hk];exact IntWalk.i64_in _ xa
   unfold bubS at hB
   by_cases hls:ltS (gti L (j+1)) (gti L j)=true
   ·
    rw[if_pos hls] at hB
    rw[hls] at hlp
    have hg3:((L.map eS).set (j+1) (putC (eS (gti L (j+1))) 0 (eS (gti L j)).cells))[j]?=some (eS (gti L j)):=by rw[List.getElem?_set_ne xa];exact zsx hj0
    have hb2:((σ.set b (.row 1 (L.map eS))).set b (.row 1 ((L.map eS).set (j+1) (putC (eS (gti L (j+1))) 0 (eS (gti L j)).cells))))[b]?=some (.row 1 ((L.map eS).set (j+1) (putC (eS (gti L (j+1))) 0 (eS (gti L j)).cells))):=List.getElem?_set_self (by simpa using hbl)
    refine zdy hmix ?_
    refine zdu ?_
    refine ex_s J (ex_s J (zaz J J (zaa J) (fun _=>(zbn xa (zay J J J))) (ex_s J (ex_s J (ex_s J (zaz J J (zap J J J) (fun _=>(zal J ts25 ti9 J J J xa)) (zb5 J J (zap J J J) (zb9 J ta9 J hb1 J (zsx hj1) rfl) (ex_s J (ex_s J (zaz J J (zap J J J) (fun _=>(zcb J J J (IntWalk.i64_in _ xa))) (zaz J J (zap J J J) (fun _=>(zal J ts25 ti9 J J hk xa)) (zb5 J J (zap J J J) (zb9 J ta9 J hb1 J (zsx hj0) rfl) ?_))))))))))))
    refine zaz J J (zap J J J) (fun _=>(zai J J (hlp) (zaf J (zaf J zaq)))) (ex_s J ?_)
    refine zh6 (by kernel_rfl) ?_
    refine zah (ze2 J (zc7 (za8 (zck ?_))))
    refine zdy hmix ?_
    refine zdu ?_
    refine ex_s J (ex_s J (ex_s J (ex_s J (zaz J J (zaa J) (fun _=>(zcb J J J (IntWalk.i64_in _ xa))) (ex_s J (ex_s J (zaz J J (zaa J) (fun _=>(zcb J J J (IntWalk.i64_in _ xa))) (zaz J J (zaa J) (fun _=>(zal J ts25 ti9 J J hk xa)) (zb5 J J (zaa J) (zb9 J ta9 J hb1 J (zsx hj0) rfl) (ex_s J (ex_s J (zaz J J (zaa J) (fun _=>(zal J ts25 ti9 J J J xa)) (zb5 J J (zaa J) (zb9 J ta9 J hb1 J (zsx hj1) rfl) ?_)))))))))))))
    refine zaz J J (zaa J) (fun _=>(zal J ts25 ti9 J J J xa)) ?_
    refine zcx J (zaa J) (zat J ti9 J J hb1 (zsx hj1) rfl J xe xe) (fun _ h=>zbo h) ?_
    refine zaz J J (zaa J) (fun _=>(zal J ts25 ti9 J J hk xa)) ?_
    refine zcx J (zaa J) (zat J ti9 J J hb2 hg3 J J xe xe) (fun _ h=>zbo h) ?_
    refine zh6 (by kernel_rfl) ?_
    refine zcf (zah (zar (zam J (zau J J (zaa J) (zcb J J J hwk) (zam J (zas (zah ?_)))))))
    refine⟨(swpB L (j+1) j,j),⟨by show(swpB L (j+1) j).length=l.length;rw[zp5];exact hL,by show j≤i;omega,hB⟩,by show j<j+1;omega,⟨rfl,rfl,rfl,rfl,rfl,trivial⟩,?_⟩
    show((σ.set b _).set b _).set b _=σ.set b _
    rw[List.set_set,List.set_set]
    unfold swpB
    rw[List.map_set (i:=j),List.map_set]
    rfl
   ·
    rw[if_neg hls] at hB
    have hls2:ltS (gti L (j+1)) (gti L j)=false:=by simpa using hls
    rw[hls2] at hlp
    refine zdy hmix ?_
    refine zdu ?_
    refine ex_s J (ex_s J (zaz J J (zaa J) (fun _=>(zbn xa (zay J J J))) (ex_s J (ex_s J (ex_s J (zaz J J (zap J J J) (fun _=>(zal J ts25 ti9 J J J xa)) (zb5 J J (zap J J J) (zb9 J ta9 J hb1 J (zsx hj1) rfl) (ex_s J (ex_s J (zaz J J (zap J J J) (fun _=>(zcb J J J (IntWalk.i64_in _ xa))) (zaz J J (zap J J J) (fun _=>(zal J ts25 ti9 J J hk xa)) (zb5 J J (zap J J J) (zb9 J ta9 J hb1 J (zsx hj0) rfl) ?_))))))))))))
    refine zaz J J (zap J J J) (fun _=>(zai J J (hlp) (zaf J (zaf J zaq)))) (ex_s J ?_)
    refine zh6 (by kernel_rfl) ?_
    refine zah (zd9 J ?_)
    (refine zf5 ?_;repeat (first|refine zep ?_|refine zcg ?_|refine zbz J ?_|refine zcf ?_|refine zah ?_|refine za8 ?_|refine zc7 ?_|refine zck ?_))
    refine zar (zam J (zau J J (zaa J) (za2 J J J (IntWalk.i64_in _ xa)) (zam J (zas (zah ?_)))))
    refine⟨i+1,⟨by show 1≤i+1;omega, .inl hlt⟩,by show l.length-(i+1)<l.length-i;omega,⟨rfl,rfl,rfl,rfl,trivial⟩,?_⟩
    show σ.set b _=σ.set b _
    rw[hB]
 ·
  refine zar (zam J (zam J (zau J J (zaa J) (zbl xa (za0 J J J)) (zas (zah (zd9 J ?_))))))
  (refine zf5 ?_;repeat (first|refine zep ?_|refine zcg ?_|refine zbz J ?_|refine zcf ?_|refine zah ?_|refine za8 ?_|refine zc7 ?_|refine zck ?_))
  refine⟨.inl rfl,?_,_, .nil,rfl⟩
  show σ.set b _=σ.set b _
  rcases hi2 with h|h
  ·
   rw[show i=l.length by omega]
  ·
   subst h
   by_cases h0:l.length=0
   ·
    rw[h0];rfl
   ·
    rw[show l.length=1 by omega]
set_option maxHeartbeats 1000000 in
theorem z3d {b:Nat}{σ:List Ob}{l:List ByteArray}(hb:σ[b]?=some (.row 1 (l.map eS)))(hl:l.length≤12)(lim:Int):CallE P 149 [.own b 1 l.length,eI 0,eI l.length,eI lim] σ (.tup []) (σ.set b (.row 1 ((srtS l l.length).map eS))):=by
 have hi:=z3x (P:=P) hb xa
 refine callE_fn (by rw[IsP.eq (P:=P)];exact Tryz.func149) rfl J (Nat.le_of_ble_eq_true J) ?_
 refine za8 (zar (zam J (zas (za8 (zar (zam J (zas (zah (zck ?_)))))))))
 refine zit (S:=Unit) (fun _=>[(0, .own b 1 l.length),(1,eI 0),(2,eI l.length)]) (fun _=>σ) (fun _=>True) (fun _=>0) () ⟨rfl,rfl,rfl,trivial⟩ rfl trivial (fun _ _=>?_)
 refine zck (za8 (zar (zam J (zam J (zau J J (zaa J) (zcb J J J (IntWalk.i64_in _ xa)) (zam J (zas (za8 (za8 (zar (zam J ?_)))))))))))
 refine zau J J (zaa J) (zbn (by show(l.length:Int)-0≤12;omega) (zc8 J J J)) ?_
 refine zas (zah (ze2 J (za8 (zar (zam J (zam J (zam J (zau J J (zaa J) (zb4 J J hi J) (zas (zah ?_))))))))))
 (refine zg2 ?_;repeat (first|refine zbg ?_|refine zbh ?_))
 exact⟨.inr rfl,rfl,_, .nil,rfl⟩
theorem z3r (n:Nat)(h:n≤12): ∃r:Int,Pure P 202 [.s (.int .u64 (n:Int))] (eI r)∧0≤r∧r≤8:=by
 obtain⟨u,hu,hu8⟩: ∃u:UInt8,(∀b:ByteArray,b.data.toList.take 13=[0,1,2,2,3,3,3,3,4,4,4,4,4]→b[n]?=some u)∧(u.toNat:Int)≤8:=by
  have key: ∀b:ByteArray,b.data.toList.take 13=[0,1,2,2,3,3,3,3,4,4,4,4,4]→b[n]?=([0,1,2,2,3,3,3,3,4,4,4,4,4]:List UInt8)[n]?:=fun b hb=>by
   have h1:b[n]?=b.data.toList[n]?:=by
    rw[←Array.getElem?_toList.symm];rfl
   rw[h1, ←hb,List.getElem?_take,if_pos xa]
  obtain⟨u,hu⟩: ∃u,([0,1,2,2,3,3,3,3,4,4,4,4,4]:List UInt8)[n]?=some u:=⟨_,List.getElem?_eq_getElem (by simp;omega)⟩
  refine⟨u,fun b hb=>(key b hb).trans hu,?_⟩
  have hm:=List.mem_of_getElem? hu
  simp at hm
  rcases hm with rfl|rfl|rfl|rfl|rfl<;>decide
 refine⟨u.toNat,?_,by omega,hu8⟩
 have hc8:IntKind.u8.wrap (n:Int)=(n:Int):=IntWalk.u8_in _ xa
 have hci:IntKind.i64.wrap (u.toNat:Int)=(u.toNat:Int):=IntWalk.i64_in _ xa
 have hca:IntKind.i64.wrap (0+(u.toNat:Int))=(u.toNat:Int):=by rw[Int.zero_add];exact hci
 refine zd1 (by rw[IsP.eq (P:=P)];exact Tryz.func202) rfl J J J J (zaj (.s _) zba) (.s _) (by simp only[argF];rfl) ?_
 refine zag (zab (zac J (zae (zag (zag (zab (zac J (zad J J (zaa J) (zbl xa (zc9 J J J)) (zae (zah (zaw J (zav (zag (zag (zab (zac J (zad J J (zaa J) (zbl xa (zc9 J J J)) (zae (zah (zaw J (zav (zag (zag (zab (zac J (zad J J (zaa J) (zbl xa (zc9 J J J)) (zae (zah (zaw J (zav (zag (zab (zac J (zac J (zad J J (zaa J) (ze4 J tu245 tk5 J hc8) ?_)))))))))))))))))))))))))))))))))))
 refine zad J J (zaa J) (zja J tg9 J J J (hu _ J)) (zad J J (zaa J) (ze4 J tu5 tk3 J hci) (zad J J (zaa J) (za2 J J J hca) (zac J (zae (zah ?_)))))
 (refine za3 ?_;repeat (first|refine zbg ?_|refine zbh ?_))
 exact zcl (.inr rfl) rfl J
theorem z83 (n:Nat)(h:n≤12): ∃r:Int,Pure P 150 [.s (.int .u64 (n:Int))] (eI r)∧0≤r∧r≤8:=by
 obtain⟨r,hr,h1⟩:=z3r (P:=P) n h
 refine⟨r,?_,h1⟩
 refine zd1 (by rw[IsP.eq (P:=P)];exact Tryz.func150) rfl J J J J (zaj (.s _) zba) (.s _) (by simp only[argF];rfl) ?_
 refine zag (zab (zac J (zae (zag (zaw J (zav (zag (zab (zac J (zad J J (zaa J) (zai J J (hr) (zaf J zaq)) (zac J (zae (zah ?_)))))))))))))
 (refine za3 ?_;repeat (first|refine zbg ?_|refine zbh ?_))
 exact zcl (.inr rfl) rfl J
set_option maxHeartbeats 1000000 in
theorem zyn {b:Nat}{σ:List Ob}{l:List ByteArray}(hb:σ[b]?=some (.row 1 (l.map eS)))(hl:l.length≤12):CallE P 100 [.own b 1 l.length] σ (.tup []) (σ.set b (.row 1 ((srtS l l.length).map eS))):=by
 obtain⟨r,hr,h1⟩:=z83 (P:=P) l.length hl
 have hp:=z3d (P:=P) hb hl r
 have hcu:IntKind.u64.wrap (l.length:Int)=(l.length:Int):=IntWalk.u64_in _ xa
 refine callE_fn (by rw[IsP.eq (P:=P)];exact Tryz.func100) rfl J (Nat.le_of_ble_eq_true J) ?_
 refine za8 (zar (zam J (zau J J (zaa J) (zcy J ts25 J) (zam J (zas (zah (zar (zam J (zam J (zam J (zau J J (zaa J) (ze4 J tu3 z6o J hcu) (zau J J (zaa J) (zai J J (hr) (zaf J zaq)) (zau J J (zaa J) (zb4 J J hp J) (zas ?_))))))))))))))
 exact⟨.inl rfl,rfl,_, .nil,rfl⟩
end Aw
end Go.Proofs.YtjdpnadhgjohnaaGreatDoor
