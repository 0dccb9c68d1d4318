import Derived.Test.YtjdpnadhgjohnaaGreatDoorJN0
import Derived.Test.YtjdpnadhgjohnaaGreatDoorJN42
import Derived.Test.YtjdpnadhgjohnaaGreatDoorJN13
import Derived.Test.YtjdpnadhgjohnaaGreatDoorJN34
import Derived.Test.YtjdpnadhgjohnaaGreatDoorJN41
import Derived.Test.YtjdpnadhgjohnaaGreatDoorJN39
import Derived.Test.YtjdpnadhgjohnaaGreatDoorJN22
import Derived.Test.YtjdpnadhgjohnaaGreatDoorJN32
import Derived.Test.YtjdpnadhgjohnaaGreatDoorJN16
set_option linter.unusedSimpArgs false
set_option linter.unusedVariables false
set_option linter.unusedSectionVars false
namespace Go.Proofs.YtjdpnadhgjohnaaGreatDoor
namespace Aw
open Go Go.RowKit Go.Proofs Go.Maps Go.WideMaps Dl
variable {P:Program}[IsP P]
def runR (n:Net)(w:List ByteArray)(c:Cst)(most:Int):Sr × Int × Int:=
 if zc0 n w c=false then(zSr,0,1) else if most<1∨2000<most then(zSr,0,2) else srR n w c most
def eSea (r:Sr × Int × Int):AV:= .tup [.sl (fnds r.1),eI r.2.1,eI r.2.2]
theorem lo_Sea {k:Nat}(r:Sr × Int × Int):Lo k (eSea r):= .tup _ (zaj (.sl _ fun e he=>by
 obtain⟨j,_,rfl⟩:=List.mem_map.1 he
 exact z5z _ _ _ _ _) (zaj (.s _) (zaj (.s _) zba)))
def stSe (P:Program)(S:Sr):List Ob:=[.row 7 (fnds S), .mp (atY P S.st)]
theorem zj5 {F:Frm}{σ:List Ob}{R:Sr × Int × Int}{e:Exit}{m:Int}(he:e= .normal∨e= .ret)(h1:F.get 8= .s (.slice none 0 0))(h2:F.get 9=eI 0)(h3:F.get 10=eI m)(hR:R=(zSr,0,m)):zl6 P [.tmp 8, .tmp 9, .tmp 10] (eSea R) e F σ:=by
 refine⟨he,[.s (.slice none 0 0),eI 0,eI m], .cons _ _ _ _ (.tmp _ _ h1) (.cons _ _ _ _ (.tmp _ _ h2) (.cons _ _ _ _ (.tmp _ _ h3) .nil)),?_⟩
 subst hR
 exact .tup _ _ J (zeq.cons .nil (zeq.cons (.refl _) (zeq.cons (.refl _) zeq.nil))).2
theorem zrx {F:Frm}{S:Sr}{X:List Ob}{R:Sr × Int × Int}{e:Exit}{k:Int}{l:Nat}(he:e= .normal∨e= .ret)(h1:F.get 8= .own 0 7 l)(h2:F.get 9=eI k)(h3:F.get 10=eI 0)(hl:l=(fnds S).length)(hR:R=(S,k,0)):zl6 P [.tmp 8, .tmp 9, .tmp 10] (eSea R) e F (.row 7 (fnds S)::X):=by
 refine⟨he,[.own 0 7 l,eI k,eI 0], .cons _ _ _ _ (.tmp _ _ h1) (.cons _ _ _ _ (.tmp _ _ h2) (.cons _ _ _ _ (.tmp _ _ h3) .nil)),?_⟩
 subst hR
 exact .tup _ _ J (zeq.cons (.own _ _ _ _ _ J J hl) (zeq.cons (.refl _) (zeq.cons (.refl _) zeq.nil))).2
set_option maxHeartbeats 8000000 in
theorem zwz (n:Net)(w:List ByteArray)(c:Cst)(most:Int):Pure P 40 [eN n,eL eS w,eC c,eI most] (eSea (runR n w c most)):=by
 have HI:runR n w c most=if zc0 n w c=false then(zSr,0,1) else if most<1∨2000<most then(zSr,0,2) else srR n w c most:=rfl
 have hRB:zc0 n w c=(decide ((zb0 n w).2=0) && vcB c):=rfl
 have hgv:givR n w c most=if zc0 n w c=false then 1 else if most<1∨2000<most then 2 else 0:=rfl
 have hlR:=lo_Sea (k:=0) (runR n w c most)
 generalize runR n w c most=R at HI hlR⊢
 have hrt:=zrv (P:=P) n w c most
 have hS0:=zy7 (P:=P) n w
 have hE0:=z68 (P:=P) n w
 generalize givR n w c most=gv at hrt hgv
 generalize zc0 n w c=rb at HI hRB hgv
 have hln:Lo 0 (.ref (eN n).cells):= .ref _ (lo_N n).cells
 have hlc:Lo 0 (.ref (eC c).cells):= .ref _ (lo_C c).cells
 refine zd1 (by rw[IsP.eq (P:=P)];exact Tryz.func40) rfl J J J J (zaj (lo_N n) (zaj (lo_W w) (zaj (lo_C c) (zaj (.s _) zba)))) hlR (by simp only[argF];rfl) ?_
 refine zag (zab (zad J J (zaa J) (zbt J J J J) ?_))
 refine zax (zbw (id:=0) rfl) (zax (zci (d:=4) rfl J J) ?_)
 refine zad J J (zaa J) (zbt J J J J) ?_
 refine zax (zbw (id:=1) rfl) (zax (zci (d:=6) rfl J J) ?_)
 refine zac J (zac J (zac J (zae (zag (zag (zab (zby ta24 ti24 J (zac J (zby ta27 ti27 J (zac J (zad J J (zaa J) (zai J J (hrt) (zaf J (zaf J (zaf J (zaf J zaq))))) (zac J (zae (zag ?_))))))))))))))
 by_cases hbad:rb=false∨(most<1∨2000<most)
 ·
  have hg:gv≠0∧R=(zSr,0,gv):=by
   by_cases h1:rb=false
   ·
    rw[if_pos h1] at HI hgv;rw[hgv];exact⟨by decide,HI⟩
   ·
    rw[if_neg h1] at HI hgv
    have h2:most<1∨2000<most:=hbad.resolve_left h1
    rw[if_pos h2] at HI hgv;rw[hgv];exact⟨by decide,HI⟩
  refine zab (zac J (zad J J (zaa J) (zbn hg.1 (zbv J J J)) (zae (zah (za7 J (zag (zab (zac J (zac J (zac J (zac J (zae (zah ?_)))))))))))))
  (refine za3 ?_;repeat (first|refine zbg ?_|refine zbh ?_))
  exact zj5 (.inr rfl) rfl J J hg.2
 have hrb:rb=true:=by cases rb with|true=>rfl|false=>exact absurd (.inl rfl) hbad
 subst hrb
 have hm:1≤most∧most≤2000:=by omega
 rw[if_neg xe,if_neg xa] at HI hgv
 subst hgv
 refine zab (zac J (zad J J (zaa J) (zbl xe (zbv J J J)) (zae (zah (zaw J (zav (zag ?_)))))))
 have hs2:(zb0 n w).2=0:=by
  symm at hRB;simp only[Bool.and_eq_true,decide_eq_true_eq] at hRB;exact hRB.1
 have hvc:vcB c=true:=by
  symm at hRB;simp only[Bool.and_eq_true,decide_eq_true_eq] at hRB;exact hRB.2
 obtain⟨hvn,hww,hse,hee,hsk,hek⟩:=zhb hs2
 have hI0:Dl.RI n w c (zb0 n w).1 (endE n w).1 most (iniS (zb0 n w).1) (-1) 0:=z0o hsk hm.1
 have HI2:R=refR n w c most (endE n w).1 (most.toNat+1) (iniS (zb0 n w).1) (-1) 0:=HI
 clear HI hbad
 generalize zb0 n w=s0 at hS0 hsk hI0 HI2 hse hs2 hRB
 generalize endE n w=e0 at hE0 hek hI0 HI2 hee
 obtain⟨s0,s02⟩:=s0
 obtain⟨goal,e02⟩:=e0
 replace hI0:Dl.RI n w c s0 goal most (iniS s0) (-1) 0:=hI0
 replace HI2:R=refR n w c most goal (most.toNat+1) (iniS s0) (-1) 0:=HI2
 replace hsk:okS n w s0:=hsk
 replace hek:okS n w goal:=hek
 have hk0:=zzb (P:=P) s0 hsk.small (by have:=hsk.len;omega)
 have hks0:(zxd s0).size≤maxLen:=by rw[zpj];have:=hsk.len;unfold maxLen;omega
 refine zab (zby ta24 ti24 J (zac J (zad J J (zaa J) (zai J J (hS0) (zaf J (zaf J zaq))) (zac J (zac J (zac J (zac J (zac J (zae (zag (zab (zby ta24 ti24 J (zac J (zad J J (zaa J) (zai J J (hE0) (zaf J (zaf J zaq))) (zac J (zac J (zac J (zac J (zac J (zae (zag (zab (zac J (zad J J (zaa J) (zcc J ti92 tp92 J J) (zad J J (zaa J) (zko J ts88 ti92 J J xe xe J J J) ?_)))))))))))))))))))))))))
 refine zac J (zae (zag (zab (zad J J (zaa J) (zlf J tm85) (zac J (zae (zag ?_)))))))
 have hlf:=ztz
 refine zab (zac J (zac J (zad J J (zaa J) (zai J J (hk0) (zaf J zaq)) ?_)))
 refine zcm J (zaa J) (zhi (.inl rfl) tm85 tK9 J J ⟨rfl,rfl,rfl⟩ (by(try dsimp only);unfold maxLen;omega) rfl J (keyOf_string_mk tn9 (by first|assumption|(unfold maxLen;omega))) (plainElem_int tn3 (by first|rfl|assumption))) ?_
 refine zae (zag (zab (zac J (zae (zag (zab (zac J (zae (zag (za9 ?_))))))))))
 clear hRB hS0 hE0 hse hee hs2 hrt hk0 hks0
 refine zdq (S:=Nat × Sr × Int × Int) (fun p=>[(1,eL eS w),(3,eI most),(4, .ref (eN n).cells),(6, .ref (eC c).cells),(14,eL eI goal),(16, .own 0 7 p.2.1.st.length),(17, .mp 1),(18,eI p.2.2.1),(19,eI p.2.2.2)]) (fun p=>stSe P p.2.1)
  (fun p=>Dl.RI n w c s0 goal most p.2.1 p.2.2.1 p.2.2.2∧R=refR n w c most goal p.1 p.2.1 p.2.2.1 p.2.2.2∧most-p.2.2.2<p.1) (fun p=>p.1) (most.toNat+1,iniS s0, -1,0)
  (zdl [2,3] xe ⟨⟨_,rfl, .rowE (hlf _) rfl⟩,⟨_,rfl,zej J⟩,trivial⟩ ⟨.lo _ (lo_W w), .lo _ (.s _), .lo _ hln, .lo _ hlc, .lo _ lo_I, .own 2 0 7 _ _ J J, .mp 3 1 J, .lo _ (.s _), .lo _ (.s _),trivial⟩) ⟨hI0,HI2,by show most-0<((most.toNat+1:Nat):Int);omega⟩ (fun p hp=>?_)
 clear hI0 HI2
 obtain⟨f,S,en,nr⟩:=p
 obtain⟨hP,hR,hf⟩:=hp
 replace hP:Dl.RI n w c s0 goal most S en nr:=hP
 replace hR:R=refR n w c most goal f S en nr:=hR
 replace hf:most-nr<f:=hf
 have hsl:=ri_len hP hm.2
 have hnm:=hP.nm
 obtain⟨f,rfl⟩: ∃f',f=f'+1:=⟨f-1,by omega⟩
 have hR0:=hR
 unfold refR at hR
 obtain⟨cx0,hdi⟩:=id hP.di
 have htake:=fun {x}=>hP.takeN (x:=x) hvc
 have hmark:=fun {x} hx=>hP.mark (x:=x) hx
 have hbok:=zof S S.st.length
 have hfl:=zv3 S
 refine za9 (zag (zab (zac J (zae (zag (zag (zab (zac J (zae (zah (za9 ?_)))))))))))
 refine zdq (S:=Nat) (fun i=>[(1,eL eS w),(3,eI most),(4, .ref (eN n).cells),(6, .ref (eC c).cells),(14,eL eI goal),(16, .own 0 7 S.st.length),(17, .mp 1),(18,eI en),(19,eI nr),(20,eI (bstR S i)),(21,eI i)]) (fun _=>stSe P S) (fun i=>i≤S.st.length) (fun i=>S.st.length-i) 0 (zcv _ ⟨rfl,rfl,rfl,rfl,rfl,rfl,rfl,rfl,rfl,rfl,rfl,trivial⟩) (Nat.zero_le _) (fun i hi=>?_)
 by_cases hlt:i<S.st.length
 ·
  have hat:(fnds S)[i]?=some (aFd (gti S.st i) (gti S.co i) (gti S.dn i) (mx0 (gti S.fr i)) (gti S.mv i)):=zgr hlt
  have hbi:=zof S i
  have hbs:bstR S (i+1)=if gti S.dn i=false∧(bstR S i<0∨gti S.co i<gti S.co (bstR S i).toNat) then(i:Int) else bstR S i:=rfl
  have hif:i<(fnds S).length:=by omega
  obtain⟨b,hb⟩: ∃b,bstR S i=b:=⟨_,rfl⟩
  rw[hb] at hbi hbs⊢
  refine zag (zag (zab (zac J (zac J (zad J J (zaa J) (zcy J ts88 J) (zad J J (zaa J) (zbn xa (za0 J J J)) (zae (zah (za7 J (zav (zag (za9 (zag ?_)))))))))))))
  cases hdn:gti S.dn i with
  |true=>
   rw[hdn] at hat
   rw[if_neg (by rw[hdn];rintro ⟨h,_⟩;cases h)] at hbs
   refine zb6 hmix ?_
   refine zbj (by kernel_rfl) ?_
   refine qx_s J (qx_s J (zbi J J (zaa J) (zal J ts88 ti92 J J J hlt) (qx_f zlm J (zbi J J (zaa J) (zao J ta4 J J J hat J) (zbi J J (zaa J) (zbs J J) (qx_s J (qx_z J (qx_z J (qx_z J (zdc J J (zct J J J) (zdc J J (zct J J J) (zdc J J (zct J J J) (zdc J J (zct J J J) (zdc J J (zct J J J) (zdc J J (zct J J J) (zdc J J (zct J J J) (zdc J J (zct J J J) ?_)))))))))))))))))
   refine zdc J J (zct J J J) (zdc J J (zct J J J) (zdc J J (zct J J J) (qx_z J (qx_s J ?_))))
   refine zds ?_
   refine zah (zaw J (zav (zcf (zah (zab (zac J (zad J J (zaa J) (za2 J J J (IntWalk.i64_in _ xa)) (zac J (zae (zah ?_))))))))))
   exact⟨i+1,by show i+1≤S.st.length;omega,by show S.st.length-(i+1)<S.st.length-i;omega,by rw[hbs];exact zcv _ ⟨rfl,rfl,rfl,rfl,rfl,rfl,rfl,rfl,rfl,rfl,rfl,trivial⟩⟩
  |false=>
  rw[hdn] at hat
  by_cases hneg:b<0
  ·
   rw[if_pos ⟨hdn, .inl hneg⟩] at hbs
   refine zb6 hmix ?_
   refine zbj (by kernel_rfl) ?_
   refine qx_s J (qx_s J (zbi J J (zaa J) (zal J ts88 ti92 J J J hlt) (qx_f zlm J (zbi J J (zaa J) (zao J ta4 J J J hat J) (zbi J J (zaa J) (zbs J J) (qx_s J (qx_s J (zbi J J (zap J J J) (zbn hneg (za0 J J J)) (qx_s J (qx_z J (qx_z J (qx_z J (qx_z J (qx_z J (qx_z J (qx_z J (qx_z J (qx_z J (qx_z J (qx_z J (qx_s J (qx_s J ?_))))))))))))))))))))))
   refine zds ?_
   refine zah (za7 J (zab (zac J (zac J (zae (zcf (zah (zab (zac J (zad J J (zaa J) (za2 J J J (IntWalk.i64_in _ xa)) (zac J (zae (zah ?_)))))))))))))
   exact⟨i+1,by show i+1≤S.st.length;omega,by show S.st.length-(i+1)<S.st.length-i;omega,by rw[hbs];exact zcv _ ⟨rfl,rfl,rfl,rfl,rfl,rfl,rfl,rfl,rfl,rfl,rfl,trivial⟩⟩
  obtain⟨y,rfl,hy⟩: ∃y:Nat,b=y∧y<i:=by
   rcases hbi with ⟨h1,_⟩|⟨h1,h2,_⟩
   ·
    omega
   ·
    exact⟨b.toNat,(Int.toNat_of_nonneg h1).symm,h2⟩
  have hyf:y<S.st.length:=by omega
  have haty:(fnds S)[y]?=some (aFd (gti S.st y) (gti S.co y) (gti S.dn y) (mx0 (gti S.fr y)) (gti S.mv y)):=zgr xa
  by_cases hlt2:gti S.co i<gti S.co y
  ·
   rw[if_pos ⟨hdn, .inr hlt2⟩] at hbs
   refine zb6 hmix ?_
   refine zbj (by kernel_rfl) ?_
   refine qx_s J (qx_s J (zbi J J (zaa J) (zal J ts88 ti92 J J J hlt) (qx_f zlm J (zbi J J (zaa J) (zao J ta4 J J J hat J) (zbi J J (zaa J) (zbs J J) (qx_s J (qx_s J (zbi J J (zap J J J) (zbl hneg (za0 J J J)) (qx_s J (qx_s J (qx_s J (zbi J J (zap J J J) (zal J ts88 ti92 J J J hlt) (qx_f zgt J (zbi J J (zap J J J) (zao J ta3 J J J hat J) (qx_s J (qx_s J (zbi J J (zap J J J) (zal J ts88 ti92 J J J hyf) ?_)))))))))))))))))
   refine qx_f zgt J (zbi J J (zap J J J) (zao J ta3 J J J haty J) (zbi J J (zap J J J) (zbn hlt2 (za0 J J J)) (qx_s J (qx_s J ?_))))
   refine zds ?_
   refine zah (za7 J (zab (zac J (zac J (zae (zcf (zah (zab (zac J (zad J J (zaa J) (za2 J J J (IntWalk.i64_in _ xa)) (zac J (zae (zah ?_)))))))))))))
   exact⟨i+1,by show i+1≤S.st.length;omega,by show S.st.length-(i+1)<S.st.length-i;omega,by rw[hbs];exact zcv _ ⟨rfl,rfl,rfl,rfl,rfl,rfl,rfl,rfl,rfl,rfl,rfl,trivial⟩⟩
  ·
   rw[if_neg (by rintro ⟨_,h|h⟩;exact hneg h;exact hlt2 h)] at hbs
   refine zb6 hmix ?_
   refine zbj (by kernel_rfl) ?_
   refine qx_s J (qx_s J (zbi J J (zaa J) (zal J ts88 ti92 J J J hlt) (qx_f zlm J (zbi J J (zaa J) (zao J ta4 J J J hat J) (zbi J J (zaa J) (zbs J J) (qx_s J (qx_s J (zbi J J (zap J J J) (zbl hneg (za0 J J J)) (qx_s J (qx_s J (qx_s J (zbi J J (zap J J J) (zal J ts88 ti92 J J J hlt) (qx_f zgt J (zbi J J (zap J J J) (zao J ta3 J J J hat J) (qx_s J (qx_s J (zbi J J (zap J J J) (zal J ts88 ti92 J J J hyf) ?_)))))))))))))))))
   refine qx_f zgt J (zbi J J (zap J J J) (zao J ta3 J J J haty J) (zbi J J (zap J J J) (zbl hlt2 (za0 J J J)) (qx_s J (qx_s J ?_))))
   refine zds ?_
   refine zah (zaw J (zav (zcf (zah (zab (zac J (zad J J (zaa J) (za2 J J J (IntWalk.i64_in _ xa)) (zac J (zae (zah ?_))))))))))
   exact⟨i+1,by show i+1≤S.st.length;omega,by show S.st.length-(i+1)<S.st.length-i;omega,by rw[hbs];exact zcv _ ⟨rfl,rfl,rfl,rfl,rfl,rfl,rfl,rfl,rfl,rfl,rfl,trivial⟩⟩
 have hie:i=S.st.length:=by omega
 subst hie
 obtain⟨b,hb⟩: ∃b,bstR S S.st.length=b:=⟨_,rfl⟩
 rw[hb] at hbok hR⊢
 refine zag (zag (zab (zac J (zac J (zad J J (zaa J) (zcy J ts88 J) (zad J J (zaa J) (zbl xa (za0 J J J)) (zae (zah (zaw J ?_)))))))))
 (refine zdz ?_;repeat (first|refine zep ?_|refine zcg ?_|refine zbz J ?_|refine zcf ?_|refine zah ?_|refine zag ?_|refine zav ?_|refine za9 ?_))
 by_cases hst:b<0∨(0≤en∧gti S.co en.toNat<gti S.co b.toNat)
 ·
  rw[if_pos hst] at hR
  by_cases hbn:b<0
  ·
   refine zb6 hmix ?_
   refine zbj (by kernel_rfl) ?_
   refine qx_s J (zbi J J (zaa J) (zbn hbn (za0 J J J)) (qx_s J (qx_z J (qx_z J (qx_z J (zdc J J (zct J J J) (zdc J J (zct J J J) (zdc J J (zct J J J) (zdc J J (zct J J J) (zdc J J (zct J J J) (zdc J J (zct J J J) (zdc J J (zct J J J) (zdc J J (zct J J J) (zdc J J (zct J J J) (zdc J J (zct J J J) (zdc J J (zct J J J) (qx_z J (qx_s J ?_))))))))))))))))))
   refine zds ?_
   refine zah (za7 J ?_)
   (refine zdz ?_;repeat (first|refine zep ?_|refine zcg ?_|refine zbz J ?_|refine zcf ?_|refine zah ?_|refine zag ?_|refine zav ?_|refine za9 ?_))
   by_cases hen:en<0
   ·
    rw[if_pos hen] at hR
    refine zab (zac J (zad J J (zaa J) (zbn hen (za0 J J J)) (zae (zah (za7 J (zag (zab (zac J (zac J (zac J (zae (zah ?_))))))))))))
    (refine za3 ?_;repeat (first|refine zbg ?_|refine zbh ?_))
    exact zj5 (.inr rfl) rfl J J hR
   ·
    rw[if_neg hen] at hR
    refine zab (zac J (zad J J (zaa J) (zbl hen (za0 J J J)) (zae (zah (zaw J (zav (zag (zab (zac J (zac J (zac J (zac J (zac J (zae (zah ?_)))))))))))))))
    (refine za3 ?_;repeat (first|refine zbg ?_|refine zbh ?_))
    exact zrx (.inr rfl) rfl J J hfl.symm hR
  obtain⟨h1,h2⟩:=hst.resolve_left hbn
  obtain⟨x,rfl,hx⟩: ∃x:Nat,b=x∧x<S.st.length:=by
   rcases hbok with ⟨h1,_⟩|⟨h1,h2,_⟩
   ·
    omega
   ·
    exact⟨b.toNat,(Int.toNat_of_nonneg h1).symm,h2⟩
  obtain⟨y,hy0,hy⟩: ∃y:Nat,en=y∧y<S.st.length:=by
   rcases hP.fd with ⟨h3,_⟩|⟨h3,h4,_⟩
   ·
    omega
   ·
    exact⟨en.toNat,(Int.toNat_of_nonneg h3).symm,h4⟩
  have hat:(fnds S)[x]?=some (aFd (gti S.st x) (gti S.co x) (gti S.dn x) (mx0 (gti S.fr x)) (gti S.mv x)):=zgr hx
  have haty:(fnds S)[y]?=some (aFd (gti S.st y) (gti S.co y) (gti S.dn y) (mx0 (gti S.fr y)) (gti S.mv y)):=zgr hy
  rw[hy0] at h2⊢
  replace h2:gti S.co y<gti S.co x:=h2
  refine zb6 hmix ?_
  refine zbj (by kernel_rfl) ?_
  refine qx_s J (zbi J J (zaa J) (zbl hbn (za0 J J J)) (qx_s J (qx_s J (zbi J J (zap J J J) (zbn xa (zc9 J J J)) (qx_s J (qx_s J (qx_s J (zbi J J (zap J J J) (zal J ts88 ti92 J J J hx) (qx_f zgt J (zbi J J (zap J J J) (zao J ta3 J J J hat J) (qx_s J (qx_s J (zbi J J (zap J J J) (zal J ts88 ti92 J J J hy) (qx_f zgt J (zbi J J (zap J J J) (zao J ta3 J J J haty J) (zbi J J (zap J J J) (zbn h2 (zay J J J)) ?_))))))))))))))))
  refine qx_s J (qx_s J ?_)
  refine zds ?_
  refine zah (za7 J ?_)
  (refine zdz ?_;repeat (first|refine zep ?_|refine zcg ?_|refine zbz J ?_|refine zcf ?_|refine zah ?_|refine zag ?_|refine zav ?_|refine za9 ?_))
  rw[←hy0]
  by_cases hen:en<0
  ·
   rw[if_pos hen] at hR
   refine zab (zac J (zad J J (zaa J) (zbn hen (za0 J J J)) (zae (zah (za7 J (zag (zab (zac J (zac J (zac J (zae (zah ?_))))))))))))
   (refine za3 ?_;repeat (first|refine zbg ?_|refine zbh ?_))
   exact zj5 (.inr rfl) rfl J J hR
  ·
   rw[if_neg hen] at hR
   refine zab (zac J (zad J J (zaa J) (zbl hen (za0 J J J)) (zae (zah (zaw J (zav (zag (zab (zac J (zac J (zac J (zac J (zac J (zae (zah ?_)))))))))))))))
   (refine za3 ?_;repeat (first|refine zbg ?_|refine zbh ?_))
   exact zrx (.inr rfl) rfl J J hfl.symm hR
 rw[if_neg hst] at hR
 obtain⟨x,rfl,hx⟩: ∃x:Nat,b=x∧x<S.st.length:=by
  rcases hbok with ⟨h1,_⟩|⟨h1,h2,_⟩
  ·
   omega
  ·
   exact⟨b.toNat,(Int.toNat_of_nonneg h1).symm,h2⟩
 have hbo:gti S.dn x=false∧ ∀i,i<S.st.length→gti S.dn i=false→gti S.co x≤gti S.co i:=by
  rcases hbok with ⟨h1,_⟩|⟨_,_,h3,h4⟩
  ·
   omega
  ·
   exact⟨h3,h4⟩
 dsimp only[Int.toNat_natCast] at hst
 have hat:(fnds S)[x]?=some (aFd (gti S.st x) (gti S.co x) (gti S.dn x) (mx0 (gti S.fr x)) (gti S.mv x)):=zgr hx
 have hcase:(en= -1)∨ ∃y:Nat,en=y∧y<S.st.length:=by
  rcases hP.fd with ⟨h1,_⟩|⟨h1,h2,_⟩
  ·
   exact .inl h1
  ·
   exact .inr ⟨en.toNat,(Int.toNat_of_nonneg h1).symm,h2⟩
 refine zra [(1,eL eS w),(3,eI most),(4, .ref (eN n).cells),(6, .ref (eC c).cells),(14,eL eI goal),(16, .own 0 7 S.st.length),(17, .mp 1),(18,eI en),(19,eI nr),(20,eI x)] (stSe P S) ?_ ?_
 ·
  rcases hcase with rfl|⟨y,rfl,hy⟩
  ·
   refine zb6 hmix ?_
   refine zbj (by kernel_rfl) ?_
   refine qx_s J (zbi J J (zaa J) (zbl xa (za0 J J J)) (qx_s J (qx_s J (zbi J J (zap J J J) (zbl xe (zc9 J J J)) (qx_s J (qx_z J (qx_z J (qx_z J (qx_z J (qx_z J (qx_z J (qx_z J (qx_z J (qx_z J (qx_z J (qx_z J (qx_s J (qx_s J ?_))))))))))))))))))
   refine zds ?_
   refine zah (zaw J (zav (zah ?_)))
   exact zcv _ ⟨rfl,rfl,rfl,rfl,rfl,rfl,rfl,rfl,rfl,rfl,trivial⟩
  ·
   have haty:(fnds S)[y]?=some (aFd (gti S.st y) (gti S.co y) (gti S.dn y) (mx0 (gti S.fr y)) (gti S.mv y)):=zgr hy
   refine zb6 hmix ?_
   refine zbj (by kernel_rfl) ?_
   refine qx_s J (zbi J J (zaa J) (zbl xa (za0 J J J)) (qx_s J (qx_s J (zbi J J (zap J J J) (zbn xa (zc9 J J J)) (qx_s J (qx_s J (qx_s J (zbi J J (zap J J J) (zal J ts88 ti92 J J J hx) (qx_f zgt J (zbi J J (zap J J J) (zao J ta3 J J J hat J) (qx_s J (qx_s J (zbi J J (zap J J J) (zal J ts88 ti92 J J J hy) (qx_f zgt J (zbi J J (zap J J J) (zao J ta3 J J J haty J) ?_)))))))))))))))
   refine zbi J J (zap J J J) (zbl (fun h=>hst (.inr ⟨by omega,h⟩)) (zay J J J)) ?_
   refine qx_s J (qx_s J ?_)
   refine zds ?_
   refine zah (zaw J (zav (zah ?_)))
   exact zcv _ ⟨rfl,rfl,rfl,rfl,rfl,rfl,rfl,rfl,rfl,rfl,trivial⟩
 clear hcase
 refine zag (zab (zac J (zac J (zad J J (zaa J) (zal J ts88 ti92 J J J hx) (zbm zlm J (zcm J (zaa J) (zat J ti4 J J J hat J J xe xe) (zae (zag ?_))))))))
 obtain⟨S1,hS1⟩: ∃S1:Sr,S1={S with dn:=S.dn.set x true}:=⟨_,rfl⟩
 have hst1:(stSe P S).set 0 (.row 7 ((fnds S).set x (putC (eFd S x) 2 [eB true])))=stSe P S1:=by
  rw[z74 hx hdi.l2, ←hS1]
  unfold stSe
  subst hS1
  rfl
 have hl1:S1.st.length=S.st.length:=by rw[hS1]
 refine za4 (zl7 (F':=[(1,eL eS w),(3,eI most),(4, .ref (eN n).cells),(6, .ref (eC c).cells),(14,eL eI goal),(16, .own 0 7 S1.st.length),(17, .mp 1),(18,eI en),(19,eI nr),(20,eI x)]) hst1 (by rw[hl1];exact⟨rfl,rfl,rfl,rfl,rfl,rfl,rfl,rfl,rfl,rfl,trivial⟩)) ?_
 refine zab (zac J (zad J J (zaa J) (za2 J J J (IntWalk.i64_in _ xa)) (zac J (zae (zag (zag ?_))))))
 by_cases hl:most<nr+1
 ·
  rw[if_pos hl] at hR
  refine zab (zac J (zac J (zad J J (zaa J) (zbn xa (zay J J J)) (zae (zah (za7 J (zag (zab (zac J (zac J (zac J (zae (zah ?_)))))))))))))
  (refine za3 ?_;repeat (first|refine zbg ?_|refine zbh ?_))
  exact zj5 (.inr rfl) rfl J J hR
 refine zab (zac J (zac J (zad J J (zaa J) (zbl xa (zay J J J)) (zae (zah (zaw J (zav (zag (zag ?_)))))))))
 obtain⟨hmk,hcx0,hcx1⟩:=hmark hx hbo.1 hbo.2
 have hT:=htake hx hbo.1 hbo.2 xa
 rw[z64 hb hst hl] at hR0
 replace hR:=hR0
 clear hR0
 obtain⟨xs,hxs⟩: ∃xs,gti S.st x=xs:=⟨_,rfl⟩
 obtain⟨cx,hcx⟩: ∃cx,gti S.co x=cx:=⟨_,rfl⟩
 rw[hxs,hcx] at hR hT hmk
 rw[hcx] at hcx0 hcx1
 rw[←hS1] at hR hT hmk
 have hokx:okS n w xs:=by rw[←hxs];exact hdi.ok _ (gti_mem hx)
 have hsm:=zy8 (P:=P) xs goal (by have:=hokx.len;have:=hek.len;omega) (by have:=hokx.len;omega)
 have hx1:x<S1.st.length:=by rw[hl1];exact hx
 have hat1:(fnds S1)[x]?=some (aFd xs (gti S1.co x) (gti S1.dn x) (mx0 (gti S1.fr x)) (gti S1.mv x)):=by rw[←hxs];have:=zgr hx1;rw[this];unfold eFd;rw[show gti S1.st x=gti S.st x by rw[hS1]]
 obtain⟨en',hen'⟩: ∃en',en'=if xs=goal then(x:Int) else en:=⟨_,rfl⟩
 rw[←hen'] at hR hT
 refine zra [(1,eL eS w),(3,eI most),(4, .ref (eN n).cells),(6, .ref (eC c).cells),(14,eL eI goal),(16, .own 0 7 S1.st.length),(17, .mp 1),(18,eI en'),(19,eI (nr+1)),(20,eI x)] (stSe P S1) ?_ ?_
 ·
  by_cases hg:xs=goal
  ·
   rw[if_pos hg] at hen'
   subst hen'
   rw[decide_eq_true hg] at hsm
   refine zab (zac J (zac J (zad J J (zaa J) (zal J ts88 ti92 J J J hx1) (zbm zu2 J (zad J J (zaa J) (zao J ta38 J J J hat1 J) (zac J (zad J J (zaa J) (zai J J (hsm) (zaf J (zaf J zaq))) (zae (zah (za7 J (zab (zac J (zac J (zae (zah ?_)))))))))))))))
   exact zcv _ ⟨rfl,rfl,rfl,rfl,rfl,rfl,rfl,rfl,rfl,rfl,trivial⟩
  ·
   rw[if_neg hg] at hen'
   subst hen'
   rw[decide_eq_false hg] at hsm
   refine zab (zac J (zac J (zad J J (zaa J) (zal J ts88 ti92 J J J hx1) (zbm zu2 J (zad J J (zaa J) (zao J ta38 J J J hat1 J) (zac J (zad J J (zaa J) (zai J J (hsm) (zaf J (zaf J zaq))) (zae (zah (zaw J (zav (zah ?_))))))))))))
   exact zcv _ ⟨rfl,rfl,rfl,rfl,rfl,rfl,rfl,rfl,rfl,rfl,trivial⟩
 clear hsm hen'
 refine zag ?_
 have hMo:=zza (P:=P) n w xs hokx
 have hml:=fun m hm=>zka (m:=m) hokx hm
 have hmlen:=zh3 hokx
 obtain⟨ml,hmleq⟩: ∃ml,zb8 n w xs=ml:=⟨_,rfl⟩
 rw[hmleq] at hMo hml hmlen hR hT
 refine zb6 hmix ?_
 refine zbj (by kernel_rfl) ?_
 refine qx_w ta24 ti24 J (qx_s J (qx_s J (qx_s J (zbi J J (zaa J) (zal J ts88 ti92 J J J hx1) (qx_f zu2 J (zbi J J (zaa J) (zao J ta38 J J J hat1 J) (zbi J J (zaa J) (zai J J (hMo) (zaf J (zaf J (zaf J zaq)))) (qx_s J ?_))))))))
 refine zds ?_
 refine zag (zab (zac J (zae (zah (za9 ?_)))))
 obtain⟨rr,hrr⟩: ∃rr,rlxR n w c x cx ml S1=rr:=⟨_,rfl⟩
 rw[hrr] at hR hT
 clear hst1 hx1 hat1 hat hS1 htake hmark hbok hst hi hlt hMo
 have hkp: ∀ {y:List Int},okS n w y→Pure P 92 [eL eI y] (eS (zxd y))∧(zxd y).size≤maxLen:=fun {y} h=>by
  have:=h.len
  exact⟨zzb (P:=P) y h.small xa,by rw[zpj];unfold maxLen;omega⟩
 refine zdq (S:=Nat × Sr) (fun p=>[(1,eL eS w),(3,eI most),(4, .ref (eN n).cells),(6, .ref (eC c).cells),(14,eL eI goal),(16, .own 0 7 p.2.st.length),(17, .mp 1),(18,eI en'),(19,eI (nr+1)),(20,eI x),(22,eL eSt ml),(23,eI p.1)]) (fun p=>stSe P p.2)
  (fun p=>p.1≤ml.length∧JR n w c s0 x cx xs (1000*(nr+1)) S.st.length p.2 p.1∧rlxR n w c x cx (ml.drop p.1) p.2=rr) (fun p=>ml.length-p.1) (0,S1)
  (zcv _ ⟨rfl,rfl,rfl,rfl,rfl,rfl,rfl,rfl,rfl,rfl,rfl,rfl,trivial⟩) ⟨Nat.zero_le _,hmk,hrr⟩ (fun p hp=>?_)
 clear hrr hmk
 obtain⟨k,S2⟩:=p
 obtain⟨hk,hJ,hrr⟩:=hp
 replace hk:k≤ml.length:=hk
 replace hJ:JR n w c s0 x cx xs (1000*(nr+1)) S.st.length S2 k:=hJ
 replace hrr:rlxR n w c x cx (ml.drop k) S2=rr:=hrr
 have hsl2:=hJ.sl
 by_cases hke:k=ml.length
 ·
  subst hke
  rw[List.drop_length] at hrr
  replace hrr:S2=rr:=hrr
  subst hrr
  refine zag (zag (zab (zac J (zac J (zad J J (zaa J) (zan J ts54 J) (zad J J (zaa J) (zbl xa (za0 J J J)) (zae (zah (zaw J ?_)))))))))
  (refine zdz ?_;repeat (first|refine zep ?_|refine zcg ?_|refine zbz J ?_|refine zcf ?_|refine zah ?_|refine zag ?_|refine zav ?_|refine za9 ?_))
  exact⟨(f,S2,en',nr+1),⟨hT,hR,by show most-(nr+1)<(f:Int);omega⟩,Nat.lt_succ_self f,zcv _ ⟨rfl,rfl,rfl,rfl,rfl,rfl,rfl,rfl,rfl,trivial⟩⟩
 have hkl:k<ml.length:=by omega
 obtain⟨⟨pr,hdr⟩,hcb, -,hxs2, -⟩:=id hJ
 have hx2:x<S2.st.length:=hdr.xl
 have hco2:gti S2.co x=cx:=hdr.xc
 have hat2:(fnds S2)[x]?=some (aFd xs cx (gti S2.dn x) (mx0 (gti S2.fr x)) (gti S2.mv x)):=by rw[←hxs2, ←hco2];exact zgr hx2
 have him:(ml.map eSt)[k]?=some (eSt (gti ml k)):=zdk hkl
 obtain⟨hap,hkd,hoy⟩:=hml _ (gti_mem hkl)
 have hstep:=fun {m y} (hm:gti (zb8 n w xs) k=m) hy=>hJ.step hvc (by rw[hmleq];exact hkl) hcx0 hcx1 (m:=m) hm (y:=y) hy
 rw[hmleq] at hstep
 rw[zc2 hkl] at hrr
 obtain⟨m,hm0⟩: ∃m,gti ml k=m:=⟨_,rfl⟩
 rw[hm0] at him hap hkd hoy hrr
 have hA:=zze (P:=P) n w xs m
 have hof:=z66 (P:=P) c m
 have hpr:=zin hvc m.kind
 obtain⟨y,hy0⟩: ∃y,(zbk n w xs m).1=y:=⟨_,rfl⟩
 have hJ2:=hstep hm0 hy0
 rw[hap,hy0] at hA
 rw[hy0] at hoy
 have hrr2:rlxR n w c x cx (ml.drop (k+1)) (metE S2 y (cx+zbf c m.kind) x m)=rr:=by
  rw[←hrr]
  show _=rlxR n w c x cx (ml.drop (k+1)) (metE S2 (zbk n w (gti S2.st x) m).1 (cx+zbf c m.kind) x m)
  rw[hxs2,hy0]
 clear hstep hrr hJ
 obtain⟨cy,hcy⟩: ∃cy,cx+zbf c m.kind=cy:=⟨_,rfl⟩
 have hadd:IntKind.i64.wrap (cx+zbf c m.kind)=cy:=by rw[hcy];exact IntWalk.i64_in _ xa
 rw[hcy] at hJ2 hrr2
 unfold metE at hJ2 hrr2
 obtain⟨hky,hks⟩:=hkp hoy
 have hsms: ∀z∈S2.st,Small z:=fun z hz=>(hdr.ok z hz).small
 have hfl2:=zv3 S2
 refine zag (zag (zab (zac J (zac J (zad J J (zaa J) (zan J ts54 J) (zad J J (zaa J) (zbn xa (za0 J J J)) (zae (zah (za7 J (zav (zag (za9 (zag ?_)))))))))))))
 refine zb6 hmix ?_
 refine zbj (by kernel_rfl) ?_
 refine qx_w ta24 ti24 J (qx_s J (qx_s J (qx_s J (zbi J J (zaa J) (zal J ts88 ti92 J J J hx2) (qx_f zu2 J (zbi J J (zaa J) (zao J ta38 J J J hat2 J) (qx_s J (qx_s J (zbi J J (zaa J) (za1 J ts54 ti66 J J J him J) (qx_w ta66 ti66 J (zbi J J (zaa J) (zai J J (hA) (zaf J (zaf J (zaf J (zaf J zaq))))) (qx_s J (qx_s J (qx_s J (qx_s J (qx_s J ?_))))))))))))))))
 refine zds ?_
 refine zag (zag (zab (zac J (zad J J (zaa J) (zbv J J J) (zae (zah (zaw J (zav (zag ?_)))))))))
 refine zb6 hmix ?_
 refine zbj (by kernel_rfl) ?_
 refine qx_s J (qx_s J (zbi J J (zaa J) (zal J ts88 ti92 J J J hx2) (qx_f zgt J (zbi J J (zaa J) (zao J ta3 J J J hat2 J) (qx_w ta27 ti27 J (qx_s J (qx_s J (zbi J J (zaa J) (za1 J ts54 ti66 J J J him J) (qx_w ta66 ti66 J (zbi J J (zaa J) (zai J J (hof) (zaf J (zaf J zaq))) (zbi J J (zaa J) (za2 J J J hadd) (qx_s J ?_))))))))))))
 refine zds ?_
 refine zag ?_
 by_cases hf:zek S2.st y<0
 ·
  rw[if_pos hf] at hJ2 hrr2
  have hno:=z6d hoy.small _ S2.st J hsms (zg1.1 hf)
  refine zab (zac J (zac J (zad J J (zaa J) (zai J J (hky) (zaf J zaq)) ?_)))
  refine zad J J (zaa J) (zfd J tm85 tK9 J J ⟨rfl,rfl,rfl⟩ rfl (keyOf_string_mk tn9 hks) ti3 (plainElem_int tn3 J) (by exact atKey_of_not_has hno _)) ?_
  refine zac J (zae (zag (zab (zac J (zad J J (zaa J) (zb2 J J J) (zae (zah (za7 J (zag (zab (zac J (zac J (zac J (zac J (zac J (zac J (zad J J (zaa J) (za1 J ts54 ti66 J J J him J) (zby ta66 ti66 J (zad J J (zaa J) (zcc J ti92 tp92 J J) ?_)))))))))))))))))))
  refine zad J J (zaa J) (zel J ts88 ti92 J J xe xe J J J xh) ?_
  refine zad J J (zaa J) (zca J ts88 ti92 J xe J J xp J xf xg xg) ?_
  refine zac J (zae (zah ?_))
  refine za4 (zcv [(1,eL eS w),(3,eI most),(4, .ref (eN n).cells),(6, .ref (eC c).cells),(14,eL eI goal),(16, .own 2 7 ((fnds S2).length+1)),(17, .mp 1),(18,eI en'),(19,eI (nr+1)),(20,eI x),(22,eL eSt ml),(23,eI k),(24,eL eI y)] ⟨rfl,rfl,rfl,rfl,rfl,rfl,rfl,rfl,rfl,rfl,rfl,rfl,rfl,trivial⟩) ?_
  obtain⟨L,hL⟩: ∃L,(fnds S2).length+1=L:=⟨_,rfl⟩
  rw[hL]
  have hwf:(Lit.int .i64 (L:Nat)).wf=true:=z5d (k:=L) xa
  have hmn:(atY P S2.st).n=S2.st.length:=rfl
  have hrow:fnds ⟨S2.st++[y],S2.co++[cy],S2.dn++[false],S2.fr++[(x:Int)],S2.mv++[m]⟩=fnds S2++[aFd y cy false x m]:=by rw[z35 hdr.l1 hdr.l2 hdr.l3 hdr.l4,zz0]
  refine zab (zac J (zac J (zad J J (zaa J) (zai J J (hky) (zaf J zaq)) (zac J (zad J J (zaa J) (zcy J ts88 J) ?_)))))
  refine zcm J (zaa J) (zhi (.inl rfl) tm85 tK9 J J ⟨rfl,rfl,rfl⟩ (by(try dsimp only);unfold maxLen;omega) rfl J (keyOf_string_mk tn9 (by first|assumption|(unfold maxLen;omega))) (plainElem_int tn3 (by first|rfl|assumption))) ?_
  refine zae (zcf (zah (zab (zac J (zad J J (zaa J) (za2 J J J (IntWalk.i64_in _ xa)) (zac J (zae (zah ?_))))))))
  exact⟨(k+1,_),⟨by show k+1≤ml.length;omega,hJ2,hrr2⟩,by show ml.length-(k+1)<ml.length-k;omega,zdl [2,1] xe ⟨⟨_,rfl, .rowE (ztz _) hrow.symm⟩,⟨_,rfl,zej (by show _=atY P (S2.st++[y]);rw[z42, ←hfl2,hL];rfl)⟩,trivial⟩ ⟨.lo _ (lo_W w), .lo _ (.s _), .lo _ hln, .lo _ hlc, .lo _ lo_I, .own 2 0 7 _ _ J (by show L=(S2.st++[y]).length;rw[←hL,hfl2];simp), .mp 1 1 J, .lo _ (.s _), .lo _ (.s _), .lo _ (.s _), .lo _ (zgx _), .lo _ (.s _),trivial⟩⟩
 rw[if_neg hf] at hJ2 hrr2
 obtain⟨p1,p2,p3⟩:=zh4 hf
 have hyes:=z19 hoy.small _ S2.st J hsms hdr.nd (List.mem_of_getElem? p1)
 rw[←p3] at hyes
 generalize idx S2.st y=i at p1 p2 p3 hyes hJ2 hrr2
 have hlook:=hyes (.lit (.int .i64 0))
 have hsub:IntKind.i64.wrap ((i:Int)+1-1)=(i:Int):=by rw[show(i:Int)+1-1=i by omega];exact IntWalk.i64_in _ xa
 have hati:(fnds S2)[i]?=some (aFd (gti S2.st i) (gti S2.co i) (gti S2.dn i) (mx0 (gti S2.fr i)) (gti S2.mv i)):=zgr p2
 refine zab (zac J (zac J (zad J J (zaa J) (zai J J (hky) (zaf J zaq)) ?_)))
 refine zad J J (zaa J) (zfd J tm85 tK9 J J ⟨rfl,rfl,rfl⟩ rfl (keyOf_string_mk tn9 hks) ti3 (plainElem_int tn3 J) (by exact hyes _)) ?_
 refine zac J (zae (zag (zab (zac J (zad J J (zaa J) (zbl xa (zb2 J J J)) (zae (zah (zaw J (zag ?_)))))))))
 by_cases hlt:gti S2.dn i=false∧cy<gti S2.co i
 rotate_left 1
 ·
  have hn: ¬cy<gti S2.co i:=fun h=>by
   cases hd:gti S2.dn i with
   |false=>exact hlt ⟨hd,h⟩
   |true=>have:=hdr.lo i p2 hd;omega
  rw[if_neg hn] at hJ2 hrr2
  cases hd:gti S2.dn i with
  |true=>
   rw[hd] at hati
   refine zab (zac J (zac J (zad J J (zaa J) (zcb J J J hsub) (zad J J (zaa J) (zal J ts88 ti92 J J J p2) (zbm zlm J (zad J J (zaa J) (zao J ta4 J J J hati J) (zad J J (zaa J) (zbs J J) (zac J (zbb J (zbb J (zbb J (zbb J (zbb J (zbb J (zbb J (zbb J (zac J (zae (zah (zaw J (zav (zcf (zah (zab (zac J (zad J J (zaa J) (za2 J J J (IntWalk.i64_in _ xa)) ?_))))))))))))))))))))))))))
   refine zac J (zae (zah ?_))
   exact⟨(k+1,_),⟨by show k+1≤ml.length;omega,hJ2,hrr2⟩,by show ml.length-(k+1)<ml.length-k;omega,zcv _ ⟨rfl,rfl,rfl,rfl,rfl,rfl,rfl,rfl,rfl,rfl,rfl,rfl,trivial⟩⟩
  |false=>
   rw[hd] at hati
   refine zab (zac J (zac J (zad J J (zaa J) (zcb J J J hsub) (zad J J (zaa J) (zal J ts88 ti92 J J J p2) (zbm zlm J (zad J J (zaa J) (zao J ta4 J J J hati J) (zad J J (zaa J) (zbs J J) (zac J (zac J (zac J (zac J (zad J J (zap J J J) (zcb J J J hsub) (zad J J (zap J J J) (zal J ts88 ti92 J J J p2) (zbm zgt J (zad J J (zap J J J) (zao J ta3 J J J hati J) ?_)))))))))))))))
   refine zad J J (zap J J J) (zbl hn (za0 J J J)) (zac J (zae (zah (zaw J (zav (zcf (zah (zab (zac J (zad J J (zaa J) (za2 J J J (IntWalk.i64_in _ xa)) (zac J (zae (zah ?_)))))))))))))
   exact⟨(k+1,_),⟨by show k+1≤ml.length;omega,hJ2,hrr2⟩,by show ml.length-(k+1)<ml.length-k;omega,zcv _ ⟨rfl,rfl,rfl,rfl,rfl,rfl,rfl,rfl,rfl,rfl,rfl,rfl,trivial⟩⟩
 obtain⟨hd,hlt⟩:=hlt
 rw[if_pos hlt] at hJ2 hrr2
 rw[hd] at hati
 have hch:=z75 p2 hdr.l1 hdr.l3 hdr.l4 cy x m
 rw[zz0,hd] at hch
 obtain⟨yi,hyi⟩: ∃z,gti S2.st i=z:=⟨_,rfl⟩
 rw[hyi] at hati hch
 have hif:i<(fnds S2).length:=by omega
 have hA1:((fnds S2).set i (aFd yi cy false (mx0 (gti S2.fr i)) (gti S2.mv i)))[i]?=some (aFd yi cy false (mx0 (gti S2.fr i)) (gti S2.mv i)):=List.getElem?_set_self hif
 have hA2:(((fnds S2).set i (aFd yi cy false (mx0 (gti S2.fr i)) (gti S2.mv i))).set i (aFd yi cy false x (gti S2.mv i)))[i]?=some (aFd yi cy false x (gti S2.mv i)):=List.getElem?_set_self (by rw[List.length_set];exact hif)
 refine zab (zac J (zac J (zad J J (zaa J) (zcb J J J hsub) (zad J J (zaa J) (zal J ts88 ti92 J J J p2) (zbm zlm J (zad J J (zaa J) (zao J ta4 J J J hati J) (zad J J (zaa J) (zbs J J) (zac J (zac J (zac J (zac J (zad J J (zap J J J) (zcb J J J hsub) (zad J J (zap J J J) (zal J ts88 ti92 J J J p2) (zbm zgt J (zad J J (zap J J J) (zao J ta3 J J J hati J) ?_)))))))))))))))
 refine zad J J (zap J J J) (zbn hlt (za0 J J J)) (zac J (zae (zah (za7 J (zag (zab (zac J (zac J (zad J J (zaa J) (zcb J J J hsub) (zac J (zad J J (zaa J) (zal J ts88 ti92 J J J p2) (zbm zgt J (zcm J (zaa J) (zat J ti3 J J J hati J J xe xe) (zae (zag (zab (zac J (zac J (zad J J (zaa J) (zcb J J J hsub) (zac J (zad J J (zaa J) (zal J ts88 ti92 J J J p2) ?_)))))))))))))))))))))
 refine zbm tf92_3 J (zcm J (zaa J) (zat J ti3 J J J hA1 J J xe xe) (zae (zah (zab (zac J (zac J (zad J J (zaa J) (zcb J J J hsub) (zac J (zac J (zad J J (zaa J) (za1 J ts54 ti66 J J J him J) (zby ta66 ti66 J (zad J J (zaa J) (zal J ts88 ti92 J J J p2) (zbm tf92_4 J (zcm J (zaa J) (zat J ti66 J J J hA2 J J xe xe) (zae (zcf (zah (zab (zac J ?_)))))))))))))))))))
 refine zad J J (zaa J) (za2 J J J (IntWalk.i64_in _ xa)) (zac J (zae (zah ?_)))
 exact⟨(k+1,_),⟨by show k+1≤ml.length;omega,hJ2,hrr2⟩,by show ml.length-(k+1)<ml.length-k;omega,zdl [0,1] xe ⟨⟨_,rfl, .rowE (ztz _) (by rw[←hch,List.set_set,List.set_set];rfl)⟩,⟨_,rfl,zej J⟩,trivial⟩ ⟨.lo _ (lo_W w), .lo _ (.s _), .lo _ hln, .lo _ hlc, .lo _ lo_I, .own 0 0 7 _ _ J J, .mp 1 1 J, .lo _ (.s _), .lo _ (.s _), .lo _ (.s _), .lo _ (zgx _), .lo _ (.s _),trivial⟩⟩
end Aw
namespace Dl
open Go.RowKit
section
variable {n:Net}{w:List ByteArray}{c:Cst}{most:Int}{s0 goal:List Int}
theorem zy4 (hc:vcB c=true): ∀ (f:Nat) (S:Sr) (en nr:Int),RI n w c s0 goal most S en nr→most-nr<f→(refR n w c most goal f S en nr).2.2=0→
  0≤(refR n w c most goal f S en nr).2.1∧(refR n w c most goal f S en nr).2.1.toNat<(refR n w c most goal f S en nr).1.st.length∧(refR n w c most goal f S en nr).1.co.length=(refR n w c most goal f S en nr).1.st.length
 |0,S,en,nr,h,hf,_=>by have:=h.nm;omega
 | f +1,S,en,nr,h,hf,h0=>by
  obtain⟨cx,hdi⟩:=h.di
  have hb:=zof S S.st.length
  unfold refR at h0⊢
  generalize bstR S S.st.length=b at hb h0⊢
  by_cases hq:b<0∨(0≤en∧gti S.co en.toNat<gti S.co b.toNat)
  ·
   rw[if_pos hq] at h0⊢
   by_cases he:en<0
   ·
    rw[if_pos he] at h0;cases h0
   ·
    rw[if_neg he]
    rcases h.fd with ⟨f1,_⟩|⟨f1,f2,_⟩
    ·
     omega
    ·
     exact⟨f1,f2,hdi.l1⟩
  ·
   rw[if_neg hq] at h0⊢
   by_cases hl:most<nr+1
   ·
    rw[if_pos hl] at h0;cases h0
   ·
    rw[if_neg hl] at h0⊢
    rcases hb with ⟨b1,_⟩|⟨b1,b2,b3,b4⟩
    ·
     exact absurd (.inl xa) hq
    ·
     exact zy4 hc f _ _ _ (h.take hc b1 b2 b3 b4 xa) xa h0
end
end Dl
namespace Aw
open Go Go.RowKit Go.Proofs Dl
variable {P:Program}[IsP P]
theorem zey (n:Net)(w:List ByteArray)(c:Cst):((zb0 n w).2≠0∨vcB c=false)↔zc0 n w c=false:=by
 unfold zc0
 by_cases h:(zb0 n w).2=0
 ·
  rw[decide_eq_true h,Bool.true_and]
  exact⟨fun h1=>h1.resolve_left (fun h2=>h2 h), .inr⟩
 ·
  rw[decide_eq_false h,Bool.false_and]
  exact⟨fun _=>rfl,fun _=> .inl h⟩
theorem zfs {n:Net}{w:List ByteArray}{c:Cst}(h: ¬zc0 n w c=false):(zb0 n w).2=0∧vcB c=true:=by
 have h1:=fun h2=>h ((zey n w c).1 h2)
 refine⟨Classical.byContradiction fun h3=>h1 (.inl h3),?_⟩
 cases hv:vcB c with
 |true=>rfl
 |false=>exact absurd (.inr hv) h1
theorem zr8 (n:Net)(w:List ByteArray)(c:Cst)(most:Int):zdp n w c most=(zhj (runO n w c most),(runO n w c most).2.2):=by
 unfold zdp runO
 by_cases h:zc0 n w c=false
 ·
  rw[if_pos ((zey n w c).2 h),if_pos h];rfl
 ·
  rw[if_neg (fun h2=>h ((zey n w c).1 h2)),if_neg h]
  split
  ·
   rfl
  ·
   rfl
theorem z0e (n:Net)(w:List ByteArray)(c:Cst)(most:Int):zdp n w c most=(zhj (runR n w c most),(runR n w c most).2.2):=by
 unfold zdp runR
 by_cases h:zc0 n w c=false
 ·
  rw[if_pos ((zey n w c).2 h),if_pos h];rfl
 ·
  rw[if_neg (fun h2=>h ((zey n w c).1 h2)),if_neg h]
  obtain⟨hs,hc⟩:=zfs h
  by_cases hm:most<1∨2000<most
  ·
   rw[if_pos hm,if_pos hm];rfl
  ·
   rw[if_neg hm,if_neg hm]
   have:=z6v hc hs (most:=most) xa
   rw[this.1,this.2]
theorem zrw {f:FuncId}{a b d r:AV}(h:Pure P f [a, .sl [],b,d] r):Pure P f [a, .s (.slice none 0 0),b,d] r:=
 ⟨h.ent,h.lo,fun G vargs hst hsz hrep=>h.call G vargs hst hsz (fun j v x hv hx=>by
  match j,hx with
  |0,hx=>exact hrep 0 v x hv hx
  |1,hx=>simp at hx;subst hx;exact zyy (hrep 1 v _ hv J)
  |2,hx=>exact hrep 2 v x hv hx
  |3,hx=>exact hrep 3 v x hv hx
  |j+4,hx=>simp at hx)⟩
def eII (r:Int × Int):AV:= .tup [eI r.1,eI r.2]
theorem z3q {k:Nat}(r:Int × Int):Lo k (eII r):= .tup _ (zaj (.s _) (zaj (.s _) zba))
theorem zgn {F:Frm}{σ:List Ob}{R:Int × Int}{e:Exit}{k m:Int}(he:e= .normal∨e= .ret)(h2:F.get 8=eI k)(h3:F.get 9=eI m)(hR:R=(k,m)):zl6 P [.tmp 8, .tmp 9] (eII R) e F σ:=by
 subst hR
 exact⟨he,[eI k,eI m], .cons _ _ _ _ (.tmp _ _ h2) (.cons _ _ _ _ (.tmp _ _ h3) .nil), .refl _⟩
theorem zqk (n:Net)(w:List ByteArray)(c:Cst)(most:Int):Pure P 13 [eN n,eL eS w,eC c,eI most] (eII (zdp n w c most)):=by
 have hrun:=z5l (P:=P) n w c most
 have hL:=zr8 n w c most
 have hok:(runO n w c most).2.2=0→0≤(runO n w c most).2.1∧(runO n w c most).2.1.toNat<(runO n w c most).1.co.length:=by
  intro h
  unfold runO at h⊢
  by_cases hr:zc0 n w c=false
  ·
   rw[if_pos hr] at h;cases h
  ·
   rw[if_neg hr] at h⊢
   by_cases hm:most<1∨2000<most
   ·
    rw[if_pos hm] at h;cases h
   ·
    rw[if_neg hm] at h⊢
    obtain⟨hs,hc⟩:=zfs hr
    have hf:=zp6 hc hs xa h
    exact⟨hf.e0,by rw[hf.l1];exact hf.el⟩
 generalize runO n w c most=r at hrun hL hok
 generalize zdp n w c most=R at hL⊢
 obtain⟨S,k,m⟩:=r
 have hln:Lo 0 (.ref (eN n).cells):= .ref _ (lo_N n).cells
 have hlc:Lo 0 (.ref (eC c).cells):= .ref _ (lo_C c).cells
 refine zd1 (by rw[IsP.eq (P:=P)];exact Tryz.func13) rfl J J J J (zaj (lo_N n) (zaj (lo_W w) (zaj (lo_C c) (zaj (.s _) zba)))) (z3q _) (by simp only[argF];rfl) ?_
 refine zag (zab (zad J J (zaa J) (zbt J J J J) ?_))
 refine zax (zbw (id:=0) rfl) (zax (zci (d:=4) rfl J J) ?_)
 refine zad J J (zaa J) (zbt J J J J) ?_
 refine zax (zbw (id:=1) rfl) (zax (zci (d:=6) rfl J J) ?_)
 refine zac J (zac J (zae (zag ?_)))
 by_cases hm:m=0
 ·
  subst hm
  replace hrun:Pure P 39 [eN n,eL eS w,eC c,eI most] (.tup [seR n w c S,eI k,eI 0]):=hrun
  refine zab (zby ta24 ti24 J (zac J (zby ta27 ti27 J (zac J (zad J J (zaa J) (zai J J (hrun) (zaf J (zaf J (zaf J (zaf J zaq))))) (zac J (zac J (zac J (zac J (zac J (zac J (zac J (zae (zag (zag ?_)))))))))))))))
  obtain⟨h1,h2⟩:=hok rfl
  obtain⟨i,rfl⟩: ∃i:Nat,k=i:=⟨k.toNat,(Int.toNat_of_nonneg h1).symm⟩
  replace h2:i<S.co.length:=h2
  have hix:(S.co.map eI)[i]?=some (eI (gti S.co i)):=zdk h2
  refine zab (zac J ?_)
  refine zad J J (zaa J) (zbl (fun h=>h J) (zbv J J J)) ?_
  refine zae (zah (zaw J (zav (zag ?_))))
  refine za4 (zcv [(10,seR n w c S),(11,eI i)] ⟨rfl,rfl,trivial⟩) ?_
  refine zab (zac J (zac J (zbm zjz J (zbq ta38 J (zac J (zad J J (zaa J) (za1 J ts38 ti3 J J J hix J) (zbq ta3 J (zac J (zac J (zae (zah ?_)))))))))))
  (refine za3 ?_;repeat (first|refine zbg ?_|refine zbh ?_))
  exact zgn (.inr rfl) rfl J hL
 ·
  replace hrun:Pure P 39 [eN n,eL eS w,eC c,eI most] (.tup [.s (.pointer none),eI k,eI m]):=by unfold eRun at hrun;rwa [if_neg hm] at hrun
  refine zab (zby ta24 ti24 J (zac J (zby ta27 ti27 J (zac J (zad J J (zaa J) (zai J J (hrun) (zaf J (zaf J (zaf J (zaf J zaq))))) (zac J (zac J (zac J (zac J (zac J (zac J (zac J (zae (zag (zag (zab (zac J (zad J J (zaa J) (zbn hm (zbv J J J)) (zae (zah (za7 J (zag (zab (zac J (zac J (zac J (zae (zah ?_))))))))))))))))))))))))))))
  (refine za3 ?_;repeat (first|refine zbg ?_|refine zbh ?_))
  refine zgn (.inr rfl) rfl J ?_
  rw[hL]
  unfold zhj
  rw[if_neg hm]
theorem zm1 (n:Net)(w:List ByteArray)(c:Cst)(most:Int):Pure P 14 [eN n,eL eS w,eC c,eI most] (eII (zdp n w c most)):=by
 have hrun:=zwz (P:=P) n w c most
 have hL:=z0e n w c most
 have hok:(runR n w c most).2.2=0→0≤(runR n w c most).2.1∧(runR n w c most).2.1.toNat<(runR n w c most).1.st.length∧(runR n w c most).1.co.length=(runR n w c most).1.st.length:=by
  intro h
  unfold runR at h⊢
  by_cases hr:zc0 n w c=false
  ·
   rw[if_pos hr] at h;cases h
  ·
   rw[if_neg hr] at h⊢
   by_cases hm:most<1∨2000<most
   ·
    rw[if_pos hm] at h;cases h
   ·
    rw[if_neg hm] at h⊢
    obtain⟨hs,hc⟩:=zfs hr
    exact zy4 hc _ _ _ _ (z0o (zhb hs).2.2.2.2.1 xa) xa h
 generalize runR n w c most=r at hrun hL hok
 generalize zdp n w c most=R at hL⊢
 obtain⟨S,k,m⟩:=r
 have hln:Lo 0 (.ref (eN n).cells):= .ref _ (lo_N n).cells
 have hlc:Lo 0 (.ref (eC c).cells):= .ref _ (lo_C c).cells
 refine zd1 (by rw[IsP.eq (P:=P)];exact Tryz.func14) rfl J J J J (zaj (lo_N n) (zaj (lo_W w) (zaj (lo_C c) (zaj (.s _) zba)))) (z3q _) (by simp only[argF];rfl) ?_
 refine zag (zab (zad J J (zaa J) (zbt J J J J) ?_))
 refine zax (zbw (id:=0) rfl) (zax (zci (d:=4) rfl J J) ?_)
 refine zad J J (zaa J) (zbt J J J J) ?_
 refine zax (zbw (id:=1) rfl) (zax (zci (d:=6) rfl J J) ?_)
 refine zac J (zac J (zae (zag (zab (zby ta24 ti24 J (zac J (zby ta27 ti27 J (zac J (zad J J (zaa J) (zai J J (hrun) (zaf J (zaf J (zaf J (zaf J zaq))))) (zac J (zac J (zac J (zac J (zac J (zac J (zac J (zae (zag (zag ?_)))))))))))))))))))
 by_cases hm:m=0
 ·
  subst hm
  obtain⟨h1,h2,h3⟩:=hok rfl
  obtain⟨i,rfl⟩: ∃i:Nat,k=i:=⟨k.toNat,(Int.toNat_of_nonneg h1).symm⟩
  replace h2:i<S.st.length:=h2
  have hix:(fnds S)[i]?=some (aFd (gti S.st i) (gti S.co i) (gti S.dn i) (mx0 (gti S.fr i)) (gti S.mv i)):=zgr h2
  refine zab (zac J ?_)
  refine zad J J (zaa J) (zbl (fun h=>h J) (zbv J J J)) ?_
  refine zae (zah (zaw J (zav (zag (zab (zac J (zac J (zad J J (zaa J) (za1 J ts88 ti92 J J J hix J) (zbm zgt J (zbq ta3 J (zac J (zac J (zae (zah ?_))))))))))))))
  (refine za3 ?_;repeat (first|refine zbg ?_|refine zbh ?_))
  exact zgn (.inr rfl) rfl J hL
 ·
  refine zab (zac J (zad J J (zaa J) (zbn hm (zbv J J J)) (zae (zah (za7 J (zag (zab (zac J (zac J (zac J (zae (zah ?_))))))))))))
  (refine za3 ?_;repeat (first|refine zbg ?_|refine zbh ?_))
  refine zgn (.inr rfl) rfl J ?_
  rw[hL]
  unfold zhj
  rw[if_neg hm]
theorem zuv {n:Net}{w:List ByteArray}{c:Cst}{most:Int}(hr:zc0 n w c=true):IntKind.i64.wrap (c.log*(w.length:Int))=c.log*(w.length:Int)∧IntKind.i64.wrap ((zdp n [] c most).1+c.log*(w.length:Int))=(zdp n [] c most).1+c.log*(w.length:Int):=by
 obtain⟨hs,hc⟩:=zfs (by rw[hr];decide)
 have hw:w.length≤200:=by
  have:=(zhb hs).2.1
  unfold zd0 at this
  simp only[Bool.and_eq_true,decide_eq_true_eq] at this
  exact this.1
 have hb:0≤c.log∧c.log≤1000:=by
  unfold vcB inB at hc
  simp only[Bool.and_eq_true,decide_eq_true_eq] at hc
  exact hc.1
 have hl:=z0f n [] c most
 have h3:0≤c.log*(w.length:Int):=Int.mul_nonneg hb.1 xa
 have h4:c.log*(w.length:Int)≤1000*200:=Int.mul_le_mul hb.2 xa xa xa
 exact⟨IntWalk.i64_in _ xa,IntWalk.i64_in _ xa⟩
theorem zuu (n:Net)(w:List ByteArray)(c:Cst)(most:Int):Pure P 15 [eN n,eL eS w,eC c,eI most] (eII (zi2 n w c most)):=by
 have hrt:=zve (P:=P) n w c
 have hle:=zrw (zqk (P:=P) n [] c most)
 have har:=fun h=>zuv (n:=n) (w:=w) (c:=c) (most:=most) h
 have hW:zi2 n w c most=if zc0 n w c=false then(0,1) else if (zdp n [] c most).2≠0 then(0,(zdp n [] c most).2) else((zdp n [] c most).1+c.log*w.length,0):=by
  unfold zi2
  by_cases h:zc0 n w c=false
  ·
   rw[if_pos ((zey n w c).2 h),if_pos h]
  ·
   rw[if_neg (fun h2=>h ((zey n w c).1 h2)),if_neg h]
 generalize zc0 n w c=rb at hrt har hW
 generalize zdp n [] c most=r at hle har hW
 generalize zi2 n w c most=R at hW⊢
 obtain⟨k,m⟩:=r
 have hln:Lo 0 (.ref (eN n).cells):= .ref _ (lo_N n).cells
 have hlc:Lo 0 (.ref (eC c).cells):= .ref _ (lo_C c).cells
 refine zd1 (by rw[IsP.eq (P:=P)];exact Tryz.func15) rfl J J J J (zaj (lo_N n) (zaj (lo_W w) (zaj (lo_C c) (zaj (.s _) zba)))) (z3q _) (by simp only[argF];rfl) ?_
 refine zag (zab (zad J J (zaa J) (zbt J J J J) ?_))
 refine zax (zbw (id:=0) rfl) (zax (zci (d:=4) rfl J J) ?_)
 refine zad J J (zaa J) (zbt J J J J) ?_
 refine zax (zbw (id:=1) rfl) (zax (zci (d:=6) rfl J J) ?_)
 refine zac J (zac J (zae (zag (zag ?_))))
 cases rb with
 |false=>
  refine zab (zby ta24 ti24 J (zac J (zby ta27 ti27 J (zad J J (zaa J) (zai J J (hrt) (zaf J (zaf J (zaf J zaq)))) (zad J J (zaa J) (zbs J J) (zae (zah (za7 J (zag (zab (zac J (zac J (zae (zah ?_))))))))))))))
  (refine za3 ?_;repeat (first|refine zbg ?_|refine zbh ?_))
  exact zgn (.inr rfl) rfl J (hW.trans (if_pos J))
 |true=>
 rw[if_neg xe] at hW
 obtain⟨ha1,ha2⟩:=har rfl
 refine zab (zby ta24 ti24 J (zac J (zby ta27 ti27 J (zad J J (zaa J) (zai J J (hrt) (zaf J (zaf J (zaf J zaq)))) (zad J J (zaa J) (zbs J J) (zae (zah (zaw J (zav (zag (zab (zby ta24 ti24 J (zby ta27 ti27 J (zac J (zad J J (zaa J) (zai J J (hle) (zaf J (zaf J (zaf J (zaf J zaq))))) (zac J (zac J (zac J (zac J (zac J (zae (zag (zag ?_)))))))))))))))))))))))
 by_cases hm:m=0
 ·
  subst hm
  refine zab (zac J ?_)
  refine zad J J (zaa J) (zbl (fun h=>h J) (zbv J J J)) ?_
  refine zae (zah (zaw J (zav (zag (zab (zac J (zbm zu6 J (zbq ta3 J (zac J (zad J J (zaa J) (zan J ts25 J) (zad J J (zaa J) (ze3 J J J ha1) (zad J J (zaa J) (za2 J J J ha2) (zac J (zac J (zae (zah ?_))))))))))))))))
  (refine za3 ?_;repeat (first|refine zbg ?_|refine zbh ?_))
  exact zgn (.inr rfl) rfl J (hW.trans (if_neg (fun h=>h J)))
 ·
  refine zab (zac J (zad J J (zaa J) (zbn hm (zbv J J J)) (zae (zah (za7 J (zag (zab (zac J (zac J (zac J (zae (zah ?_))))))))))))
  (refine za3 ?_;repeat (first|refine zbg ?_|refine zbh ?_))
  exact zgn (.inr rfl) rfl J (hW.trans (if_pos hm))
theorem zy6 (n:Net)(w:List ByteArray)(c:Cst)(most:Int):Pure P 16 [eN n,eL eS w,eC c,eI most] (eII (zi2 n w c most)):=by
 have hrt:=zrv (P:=P) n w c 1
 have hle:=zrw (zm1 (P:=P) n [] c most)
 have har:=fun h=>zuv (n:=n) (w:=w) (c:=c) (most:=most) h
 have hgv:givR n w c 1=if zc0 n w c=false then 1 else 0:=by
  unfold givR
  by_cases h:zc0 n w c=false
  ·
   rw[if_pos h,if_pos h]
  ·
   rw[if_neg h,if_neg h];rfl
 rw[hgv] at hrt
 have hW:zi2 n w c most=if zc0 n w c=false then(0,1) else if (zdp n [] c most).2≠0 then(0,(zdp n [] c most).2) else((zdp n [] c most).1+c.log*w.length,0):=by
  unfold zi2
  by_cases h:zc0 n w c=false
  ·
   rw[if_pos ((zey n w c).2 h),if_pos h]
  ·
   rw[if_neg (fun h2=>h ((zey n w c).1 h2)),if_neg h]
 clear hgv
 generalize zc0 n w c=rb at hrt har hW
 generalize zdp n [] c most=r at hle har hW
 generalize zi2 n w c most=R at hW⊢
 obtain⟨k,m⟩:=r
 have hln:Lo 0 (.ref (eN n).cells):= .ref _ (lo_N n).cells
 have hlc:Lo 0 (.ref (eC c).cells):= .ref _ (lo_C c).cells
 refine zd1 (by rw[IsP.eq (P:=P)];exact Tryz.func16) rfl J J J J (zaj (lo_N n) (zaj (lo_W w) (zaj (lo_C c) (zaj (.s _) zba)))) (z3q _) (by simp only[argF];rfl) ?_
 refine zag (zab (zad J J (zaa J) (zbt J J J J) ?_))
 refine zax (zbw (id:=0) rfl) (zax (zci (d:=4) rfl J J) ?_)
 refine zad J J (zaa J) (zbt J J J J) ?_
 refine zax (zbw (id:=1) rfl) (zax (zci (d:=6) rfl J J) ?_)
 refine zac J (zac J (zae (zag (zag (zab (zby ta24 ti24 J (zac J (zby ta27 ti27 J (zad J J (zaa J) (zai J J (hrt) (zaf J (zaf J (zaf J (zaf J zaq))))) (zac J (zae (zag ?_))))))))))))
 cases rb with
 |false=>
  refine zab (zac J (zad J J (zaa J) (zbn xe (zbv J J J)) (zae (zah (za7 J (zag (zab (zac J (zac J (zac J (zae (zah ?_))))))))))))
  (refine za3 ?_;repeat (first|refine zbg ?_|refine zbh ?_))
  exact zgn (.inr rfl) rfl J (hW.trans (if_pos J))
 |true=>
 rw[if_neg xe] at hW
 obtain⟨ha1,ha2⟩:=har rfl
 refine zab (zac J (zad J J (zaa J) (zbl xe (zbv J J J)) (zae (zah (zaw J (zav (zag (zab (zby ta24 ti24 J (zby ta27 ti27 J (zac J (zad J J (zaa J) (zai J J (hle) (zaf J (zaf J (zaf J (zaf J zaq))))) (zac J (zac J (zac J (zac J (zac J (zae (zag (zag ?_))))))))))))))))))))
 by_cases hm:m=0
 ·
  subst hm
  refine zab (zac J ?_)
  refine zad J J (zaa J) (zbl (fun h=>h J) (zbv J J J)) ?_
  refine zae (zah (zaw J (zav (zag (zab (zac J (zbm zu6 J (zbq ta3 J (zac J (zad J J (zaa J) (zan J ts25 J) (zad J J (zaa J) (ze3 J J J ha1) (zad J J (zaa J) (za2 J J J ha2) (zac J (zac J (zae (zah ?_))))))))))))))))
  (refine za3 ?_;repeat (first|refine zbg ?_|refine zbh ?_))
  exact zgn (.inr rfl) rfl J (hW.trans (if_neg (fun h=>h J)))
 ·
  refine zab (zac J (zad J J (zaa J) (zbn hm (zbv J J J)) (zae (zah (za7 J (zag (zab (zac J (zac J (zac J (zae (zah ?_))))))))))))
  (refine za3 ?_;repeat (first|refine zbg ?_|refine zbh ?_))
  exact zgn (.inr rfl) rfl J (hW.trans (if_pos hm))
end Aw
namespace Dl
open Go.RowKit
section
variable {n:Net}{w:List ByteArray}{c:Cst}{S:Sr}{O:List Nat}
theorem zuw (hp:PA n w c S O): ∀ {O':List Nat} {k:Nat},k∈O'→(∀x∈O',x∈O)→ChO S.fr O'→ ¬gti S.fr k<0→ ∃O2,(gti S.fr k).toNat∈O2∧(∀x∈O2,x∈O)∧ChO S.fr O2∧O2.length<O'.length
 | j::O',k,hk,hs,hch,h0=>by
  rcases List.mem_cons.1 hk with rfl|hk
  ·
   have hk0:k≠0:=fun e=>by subst e;rw[hp.f0] at h0;exact h0 xe
   exact⟨O',hch.1.resolve_left hk0,fun x hx=>hs x (by simp[hx]),hch.2,by simp⟩
  ·
   obtain⟨O2,h1,h2,h3,h4⟩:=zuw hp hk (fun x hx=>hs x (by simp[hx])) hch.2 h0
   exact⟨O2,h1,h2,h3,by simp only[List.length_cons];omega⟩
end
end Dl
namespace Aw
open Go Go.RowKit Go.Proofs Dl
variable {P:Program}[IsP P]
theorem zp9 (l:List Stp): ∀e∈l.map eSt, ∀c∈e.cells,Lo 0 c:=by
 intro e he c hc
 obtain⟨x,_,rfl⟩:=List.mem_map.1 he
 simp[eSt,AV.cells] at hc
 rcases hc with rfl|rfl|rfl<;>exact .s _
def alnO (n:Net)(w:List ByteArray)(c:Cst)(most:Int):List Stp × Int × Int:=
 if (runO n w c most).2.2=0 then(wayB (runO n w c most).1 (most.toNat+1) (runO n w c most).2.1.toNat,gti (runO n w c most).1.co (runO n w c most).2.1.toNat,0) else([],0,(runO n w c most).2.2)
theorem zvc {n:Net}{w:List ByteArray}{c:Cst}{most:Int}(h:(runO n w c most).2.2=0):Fnd n w c (zb0 n w).1 (endE n w).1 most (runO n w c most).1 (runO n w c most).2.1∧runO n w c most=srP n w c most∧zc0 n w c=true∧1≤most∧most≤2000:=by
 unfold runO at h⊢
 by_cases hr:zc0 n w c=false
 ·
  rw[if_pos hr] at h;cases h
 ·
  rw[if_neg hr] at h⊢
  by_cases hm:most<1∨2000<most
  ·
   rw[if_pos hm] at h;cases h
  ·
   rw[if_neg hm] at h⊢
   obtain⟨hs,hc⟩:=zfs hr
   exact⟨zp6 hc hs xa h,rfl,by simpa using hr,by omega,by omega⟩
def revS (l:List Stp)(k:Nat):List Stp:=(List.range l.length).map fun q=>if q<k∨l.length≤q+k then gti l (l.length-1-q) else gti l q
theorem zig (l:List Stp)(k:Nat):(revS l k).length=l.length:=by simp[revS]
theorem zih {l:List Stp}{k q:Nat}(h:q<l.length):(revS l k)[q]?=some (if q<k∨l.length≤q+k then gti l (l.length-1-q) else gti l q):=by simp[revS,h]
theorem revS_0 (l:List Stp):revS l 0=l:=by
 refine List.ext_getElem? fun q=>?_
 by_cases hq:q<l.length
 ·
  rw[zih hq,if_neg xa,zbr hq]
 ·
  rw[List.getElem?_eq_none (by rw[zig];omega),List.getElem?_eq_none xa]
theorem z27 {l:List Stp}{k:Nat}(h:l.length≤2*k+1):revS l k=l.reverse:=by
 refine List.ext_getElem? fun q=>?_
 by_cases hq:q<l.length
 ·
  rw[zih hq,List.getElem?_reverse hq]
  by_cases h1:q<k∨l.length≤q+k
  ·
   rw[if_pos h1,zbr xa]
  ·
   rw[if_neg h1, ←zbr hq,show l.length-1-q=q by omega]
 ·
  rw[List.getElem?_eq_none (by rw[zig];omega),List.getElem?_eq_none (by simp;omega)]
theorem zyv {l:List Stp}{k:Nat}(h:2*k+1<l.length):((revS l k).set k (gti l (l.length-1-k))).set (l.length-1-k) (gti l k)=revS l (k+1):=by
 refine List.ext_getElem? fun q=>?_
 by_cases hq:q<l.length
 ·
  rw[zih hq,List.getElem?_set,List.getElem?_set,zih hq]
  simp only[List.length_set,zig,hq]
  by_cases h1:l.length-1-k=q
  ·
   subst h1
   rw[if_pos J,if_pos hq,if_pos xa,show l.length-1-(l.length-1-k)=k by omega]
  ·
   rw[if_neg h1]
   by_cases h2:k=q
   ·
    subst h2
    rw[if_pos J,if_pos hq,if_pos xa]
   ·
    rw[if_neg h2]
    by_cases h3:q<k∨l.length≤q+k
    ·
     rw[if_pos h3,if_pos xa]
    ·
     rw[if_neg h3,if_neg xa]
 ·
  rw[List.getElem?_eq_none (by simp[zig];omega),List.getElem?_eq_none (by rw[zig];omega)]
set_option maxHeartbeats 1000000 in
theorem zww {b:Nat}{σ:List Ob}{l:List Stp}(hb:σ[b]?=some (.row 3 (l.map eSt)))(hl:l.length≤1000000):CallE P 67 [.own b 3 l.length] σ (.tup []) (σ.set b (.row 3 (l.reverse.map eSt))):=by
 have hbl:=(List.getElem?_eq_some_iff.1 hb).1
 refine callE_fn (by rw[IsP.eq (P:=P)];exact Tryz.func67) rfl J (Nat.le_of_ble_eq_true J) ?_
 refine za8 (zar (zam J (zau J J (zaa J) (zcy J ts54 J) (zau J J (zaa J) (zcb J J J (IntWalk.i64_in _ xa)) (zam J (zam J (zas (zah (zck ?_)))))))))
 refine zit (S:=Nat × Int) (fun p=>[(0, .own b 3 l.length),(2,eI p.1),(3,eI p.2)]) (fun p=>σ.set b (.row 3 ((revS l p.1).map eSt))) (fun p=>p.1≤l.length∧p.2=(l.length:Int)-1-p.1) (fun p=>l.length-p.1) (0,(l.length:Int)-1) ⟨rfl,rfl,rfl,trivial⟩ (by rw[revS_0];exact(zl9 hb).symm) ⟨Nat.zero_le _,by show(l.length:Int)-1=(l.length:Int)-1-((0:Nat):Int);omega⟩ (fun p hp=>?_)
 obtain⟨k,j⟩:=p
 obtain⟨hk,hj⟩:=hp
 replace hk:k≤l.length:=hk
 replace hj:j=(l.length:Int)-1-k:=hj
 refine za8 (za8 ?_)
 by_cases hlt:2*k+1<l.length
 ·
  obtain⟨q,hq⟩: ∃q:Nat,q=l.length-1-k:=⟨_,rfl⟩
  have hjq:j=(q:Int):=by omega
  subst hjq
  have hrl:(revS l k).length=l.length:=zig l k
  have hb1:(σ.set b (.row 3 ((revS l k).map eSt)))[b]?=some (.row 3 ((revS l k).map eSt)):=List.getElem?_set_self hbl
  have hg1:((revS l k).map eSt)[k]?=some (eSt (gti l k)):=by rw[List.getElem?_map,zih xa,if_neg xa];rfl
  have hg2:((revS l k).map eSt)[q]?=some (eSt (gti l q)):=by rw[List.getElem?_map,zih xa,if_neg xa];rfl
  have hg3:(((revS l k).map eSt).set k (putC (eSt (gti l k)) 0 (eSt (gti l q)).cells))[q]?=some (eSt (gti l q)):=by rw[List.getElem?_set_ne xa];exact hg2
  have hb2:((σ.set b (.row 3 ((revS l k).map eSt))).set b (.row 3 (((revS l k).map eSt).set k (putC (eSt (gti l k)) 0 (eSt (gti l q)).cells))))[b]?=some (.row 3 (((revS l k).map eSt).set k (putC (eSt (gti l k)) 0 (eSt (gti l q)).cells))):=List.getElem?_set_self (by simpa using hbl)
  have hstep:(((revS l k).map eSt).set k (eSt (gti l q))).set q (eSt (gti l k))=(revS l (k+1)).map eSt:=by
   rw[←zyv hlt, ←hq,List.map_set,List.map_set]
  refine zar (zam J (zam J (zau J J (zaa J) (zbn xa (za0 J J J)) (zas (zah (ze2 J (zc7 (za8 (zck ?_)))))))))
  refine zdy hmix ?_
  refine zdu ?_
  refine ex_s J (ex_s J (ex_s J (ex_s J (ex_s J (ex_s J (zaz J J (zaa J) (fun _=>(zal J ts54 ti66 J J J xa)) (zb5 J J (zaa J) (zfu J ta66 ti66 J hb1 J hg2 J) (ex_s J (ex_s J (zaz J J (zaa J) (fun _=>(zal J ts54 ti66 J J J xa)) (zb5 J J (zaa J) (zfu J ta66 ti66 J hb1 J hg1 J) (zaz J J (zaa J) (fun _=>(zal J ts54 ti66 J J J xa)) ?_))))))))))))
  refine zcx J (zaa J) (zat J ti66 J J hb1 hg1 J J xe xe) (fun _ h=>zbo h) ?_
  refine zaz J J (zaa J) (fun _=>(zal J ts54 ti66 J J J xa)) ?_
  refine zcx J (zaa J) (zat J ti66 J J hb2 hg3 J J xe xe) (fun _ h=>zbo h) ?_
  refine zh6 (by kernel_rfl) ?_
  refine zcf (zah (zar (zam J (zau J J (zaa J) (za2 J J J (IntWalk.i64_in _ xa)) (zam J (zau J J (zaa J) (zcb J J J (IntWalk.i64_in _ xa)) (zam J (zam J (zas (zah ?_))))))))))
  refine⟨(k+1,(q:Int)-1),⟨by show k+1≤l.length;omega,by show(q:Int)-1=(l.length:Int)-1-((k+1:Nat):Int);omega⟩,by show l.length-(k+1)<l.length-k;omega,⟨rfl,rfl,rfl,trivial⟩,?_⟩
  show((σ.set b _).set b _).set b _=σ.set b _
  rw[List.set_set,List.set_set, ←hstep]
  rfl
 ·
  refine zar (zam J (zam J (zau J J (zaa J) (zbl xa (za0 J J J)) (zas (zah (zd9 J ?_))))))
  (refine zf5 ?_;repeat (first|refine zep ?_|refine zcg ?_|refine zbz J ?_|refine zcf ?_|refine zah ?_|refine za8 ?_|refine zc7 ?_|refine zck ?_))
  refine⟨.inl rfl,?_,_, .nil,rfl⟩
  show σ.set b _=σ.set b _
  rw[z27 xa]
def eAl (l:List Stp)(k:Int):AV:= .agg [eL eSt l,eI k]
def eAlE (r:List Stp × Int × Int):AV:= .tup [eAl r.1 r.2.1,eI r.2.2]
theorem lo_AlE {k:Nat}(r:List Stp × Int × Int):Lo k (eAlE r):= .tup _ (zaj (.agg _ (zaj (zgx _) (zaj (.s _) zba))) (zaj (.s _) zba))
def zAl:AV:= .agg [.s (.slice none 0 0),eI 0]
theorem zut: ∀e∈[zAl], ∀c∈e.cells,Lo 0 c:=by
 intro e he c hc
 simp at he;subst he
 simp[zAl,AV.cells] at hc
 rcases hc with rfl|rfl<;>exact .s _
theorem zzk {F:Frm}{σ:List Ob}{r:List Stp × Int × Int}{id sz:Nat}{ob:Ob}{cs:List AV}{e1 x y:AV}{e:Exit}(he:e= .normal∨e= .ret)(hp:F.get 8= .ptr id sz 0 0)(hs:σ[id]?=some ob)(ho:ze6 ob=some (sz,cs))(hk:cs[0]?=some e1)(hn:e1.cells=[x,y])(hx:Fini σ x (eL eSt r.1))(hy:y=eI r.2.1)(hu:F.get 9=eI r.2.2):zl6 P [.cell 8 56, .tmp 9] (eAlE r) e F σ:=by
 refine⟨he,[.agg e1.cells,eI r.2.2], .cons _ _ _ _ (.cells 8 56 id sz 0 2 _ _ ob cs e1 ta56 ti56 hp hs ho hk (by rw[hn];rfl)) (.cons _ _ _ _ (.tmp 9 _ hu) .nil),?_⟩
 rw[hn,hy]
 have h1:Fini σ (.agg [x,eI r.2.1]) (eAl r.1 r.2.1):= .agg _ _ J (zeq.cons hx (zeq.cons (.refl _) zeq.nil)).2
 exact .tup _ _ J (zeq.cons h1 (zeq.cons (.refl _) zeq.nil)).2
set_option maxHeartbeats 4000000 in
theorem zwo (n:Net)(w:List ByteArray)(c:Cst)(most:Int):Pure P 25 [eN n,eL eS w,eC c,eI most] (eAlE (alnO n w c most)):=by
 have hrun:=z5l (P:=P) n w c most
 have hfd:= @zvc n w c most
 have hR:alnO n w c most=if (runO n w c most).2.2=0 then(wayB (runO n w c most).1 (most.toNat+1) (runO n w c most).2.1.toNat,gti (runO n w c most).1.co (runO n w c most).2.1.toNat,0) else([],0,(runO n w c most).2.2):=rfl
 generalize alnO n w c most=R at hR⊢
 generalize runO n w c most=r at hrun hfd hR
 obtain⟨S,k,m⟩:=r
 have hln:Lo 0 (.ref (eN n).cells):= .ref _ (lo_N n).cells
 have hlc:Lo 0 (.ref (eC c).cells):= .ref _ (lo_C c).cells
 refine zd1 (by rw[IsP.eq (P:=P)];exact Tryz.func25) rfl J J J J (zaj (lo_N n) (zaj (lo_W w) (zaj (lo_C c) (zaj (.s _) zba)))) (lo_AlE _) (by simp only[argF];rfl) ?_
 refine zag (zab (zad J J (zaa J) (zbt J J J J) ?_))
 refine zax (zbw (id:=0) rfl) (zax (zci (d:=4) rfl J J) ?_)
 refine zad J J (zaa J) (zbt J J J J) ?_
 refine zax (zbw (id:=1) rfl) (zax (zci (d:=6) rfl J J) ?_)
 refine zad J J (zaa J) (zcd J ti56 J J) (zac J (zae (zag ?_)))
 by_cases hm:m=0
 rotate_left 1
 ·
  replace hrun:Pure P 39 [eN n,eL eS w,eC c,eI most] (.tup [.s (.pointer none),eI k,eI m]):=by unfold eRun at hrun;rwa [if_neg hm] at hrun
  rw[if_neg hm] at hR
  subst hR
  refine zab (zby ta24 ti24 J (zac J (zby ta27 ti27 J (zac J (zad J J (zaa J) (zai J J (hrun) (zaf J (zaf J (zaf J (zaf J zaq))))) (zac J (zac J (zac J (zac J (zac J (zac J (zac J (zae (zag (zag (zab (zac J (zad J J (zaa J) (zbn hm (zbv J J J)) (zae (zah (za7 J (zag (zab (zad J J (zaa J) (zcc J ti56 tp56 J J) (zac J (zcm J (zaa J) (zat J ti56 J J J J J J xe xe) ?_))))))))))))))))))))))))))
  refine zac J (zae (zah ?_))
  (refine za3 ?_;repeat (first|refine zbg ?_|refine zbh ?_))
  exact zzk (.inr rfl) rfl J J J J .nil rfl J
 subst hm
 replace hrun:Pure P 39 [eN n,eL eS w,eC c,eI most] (.tup [seR n w c S,eI k,eI 0]):=hrun
 rw[if_pos J] at hR
 obtain⟨hf, -, -,hm1,hm2⟩:=hfd rfl
 replace hf:Fnd n w c (zb0 n w).1 (endE n w).1 most S k:=hf
 obtain⟨i,rfl⟩: ∃i:Nat,k=i:=⟨k.toNat,(Int.toNat_of_nonneg hf.e0).symm⟩
 have hil:i<S.st.length:=by have:=hf.el;omega
 obtain⟨O,hO1,hO2,hO3⟩:=hf.way
 rw[Int.toNat_natCast] at hO3
 replace hR:R=(wayB S (most.toNat+1) i,gti S.co i,0):=hR
 have hsl:=hf.sl
 have hl1:=hf.l1
 have hl3:=hf.l3
 have hl4:=hf.l4
 have hix:(S.co.map eI)[i]?=some (eI (gti S.co i)):=zdk xa
 obtain⟨cst,hcst⟩: ∃cst,gti S.co i=cst:=⟨_,rfl⟩
 rw[hcst] at hix hR
 obtain⟨W0,hW0⟩: ∃W0,wayB S (most.toNat+1) i=W0:=⟨_,rfl⟩
 rw[hW0] at hR
 refine zab (zby ta24 ti24 J (zac J (zby ta27 ti27 J (zac J (zad J J (zaa J) (zai J J (hrun) (zaf J (zaf J (zaf J (zaf J zaq))))) (zac J (zac J (zac J (zac J (zac J (zac J (zac J (zae (zag (zag (zab (zac J ?_)))))))))))))))))
 refine zad J J (zaa J) (zbl (fun h=>h J) (zbv J J J)) ?_
 refine zae (zah (zaw J (zav (zag ?_))))
 refine za4 (zdl (σ':=[.row 2 [zAl]]) [2] xe ⟨⟨_,rfl, .rowE zut J⟩,trivial⟩ (F':=[(8, .ptr 0 2 0 0),(10,seR n w c S),(11,eI i)]) ⟨.ptr 2 0 2 0 0 J, .lo _ (zvq n w c S), .lo _ (.s _),trivial⟩) ?_
 refine zab (zac J (zac J (zbm zjz J (zbq ta38 J (zac J (zad J J (zaa J) (za1 J ts38 ti3 J J J hix J) (zbq ta3 J (zad J J (zaa J) (zcc J ti56 tp56 J J) (zad J J (zaa J) (zcd J ti56 J J) (zcm J (zaa J) (zat J ti56 J J J J J J xe xe) (zae (zag (zag ?_)))))))))))))
 refine za4 (zgl (id:=1) (sz2:=3) (e':= .agg [.own 2 3 0,eI cst]) (pre:=[]) (post:=[eI cst]) J J J) ?_
 refine zab (zac J (zac J (zae (zah (za9 ?_)))))
 have hch0:=hO2.ch
 refine zdq (S:=Nat × List Stp) (fun p=>[(8, .ptr 0 2 0 0),(10,seR n w c S),(13, .ptr 1 2 0 0),(14,eI p.1)]) (fun p=>[.row 2 [zAl], .row 2 [.agg [.own 2 3 p.2.length,eI cst]], .row 3 (p.2.map eSt)]) (fun p=> ∃ (f:Nat) (O':List Nat),p.1∈O'∧(∀x∈O',x∈O)∧ChO S.fr O'∧O'.length≤f∧p.2.length+f=most.toNat+1∧W0=wayB S f p.1++p.2.reverse) (fun p=>most.toNat+1-p.2.length) (i,[])
  (zdl [0,1,2] xe ⟨⟨_,rfl, .rowE zut J⟩,⟨_,rfl,zco (.cons (.own _ _ _ _ _ J J) (.cons (.lo _ (.s _)) .nil))⟩,⟨_,rfl, .rowE (zp9 _) rfl⟩,trivial⟩ ⟨.ptr 0 0 2 0 0 J, .lo _ (zvq n w c S), .ptr 1 1 2 0 0 J, .lo _ (.s _),trivial⟩)
  ⟨most.toNat+1,O,hO3,fun _ h=>h,hch0,by omega,by simp,by simp[hW0]⟩ (fun p hp=>?_)
 obtain⟨k,L⟩:=p
 obtain⟨f,O',hk,hs,hch,hfl,hLf,hW⟩:=hp
 dsimp only at hk hs hch hfl hLf hW
 have hkl:k<S.st.length:=((hO2.od k).1 (hs k hk)).1
 have hfx:(S.fr.map eI)[k]?=some (eI (gti S.fr k)):=zdk xa
 have hmx:(S.mv.map eSt)[k]?=some (eSt (gti S.mv k)):=zdk xa
 have hOl:0<O'.length:=List.length_pos_of_mem hk
 obtain⟨f,rfl⟩: ∃f',f=f'+1:=⟨f-1,by omega⟩
 rw[wayB] at hW
 refine zag (zag ?_)
 by_cases hneg:gti S.fr k<0
 ·
  rw[if_pos hneg,List.nil_append] at hW
  refine zab (zac J (zac J (zbm zo1 J (zbq ta38 J (zac J (zad J J (zaa J) (za1 J ts38 ti3 J J J hfx J) (zbq ta3 J (zad J J (zaa J) (zbl xa (zc9 J J J)) (zae (zah (zaw J ?_)))))))))))
  (refine zdz ?_;repeat (first|refine zep ?_|refine zcg ?_|refine zbz J ?_|refine zcf ?_|refine zah ?_|refine zag ?_|refine zav ?_|refine za9 ?_))
  have hrv:=zww (P:=P) (b:=2) (σ:=[.row 2 [zAl], .row 2 [.agg [.own 2 3 L.length,eI cst]], .row 3 (L.map eSt)]) (l:=L) rfl xa
  refine zab (zbm zlo J (zad J J (zaa J) (zao J ta54 J J J J J) (zad J J (zaa J) (zb4 J J hrv J) (zae (zag ?_)))))
  refine za4 (zdl (σ':=[.row 2 [zAl], .row 2 [.agg [.own 2 3 L.length,eI cst]], .row 3 (L.reverse.map eSt)]) [0,1,2] xe ⟨⟨_,rfl, .rowE zut J⟩,⟨_,rfl,zco (.cons (.own _ _ _ _ _ J J) (.cons (.lo _ (.s _)) .nil))⟩,⟨_,rfl, .rowE (zp9 _) rfl⟩,trivial⟩ (F':=[(8, .ptr 0 2 0 0),(13, .ptr 1 2 0 0)]) ⟨.ptr 0 0 2 0 0 J, .ptr 1 1 2 0 0 J,trivial⟩) ?_
  refine zab (zad J J (zaa J) (zdg J ta56 ti56 J J J J J) (zcm J (zaa J) (zat J ti56 J J J J J J xe xe) (zac J (zae (zah ?_)))))
  (refine za3 ?_;repeat (first|refine zbg ?_|refine zbh ?_))
  subst hR
  rw[hW]
  exact zzk (.inr rfl) rfl J J J J (.own _ _ _ _ _ J J xm) rfl J
 ·
  rw[if_neg hneg] at hW
  obtain⟨O2,g1,g2,g3,g4⟩:=zuw hO2 hk hs hch hneg
  obtain⟨j,hj⟩: ∃j:Nat,gti S.fr k=j:=⟨(gti S.fr k).toNat,by omega⟩
  rw[hj] at hfx hW g1
  rw[Int.toNat_natCast] at hW g1
  generalize gti S.mv k=m at hmx hW
  refine zab (zac J (zac J (zbm zo1 J (zbq ta38 J (zac J (zad J J (zaa J) (za1 J ts38 ti3 J J J hfx J) (zbq ta3 J (zad J J (zaa J) (zbn xa (zc9 J J J)) (zae (zah (za7 J (zav (zag (za9 ?_))))))))))))))
  refine zb6 hmix ?_
  refine zgj ?_
  refine ex_f zlo J (zb5 J J (zaa J) (zb9 J ta54 J J J J J) (ex_s J (ex_s J (ex_f zu4 J (ex_l ta54 J (ex_s J (zaz J J (zaa J) (fun _=>(za1 J ts54 ti66 J J J hmx J)) (ex_w ta66 ti66 J ?_))))))))
  refine ze8 J J (zaa J) (zko J ts54 ti66 J J xe xe J J J) (fun _ h=>zib h) ?_
  refine ze8 J J (zaa J) (zca J ts54 ti66 J xe J J xp J xf xg xg) (fun _ h=>zc4 h) ?_
  refine ex_f zlo J ?_
  refine zcx J (zaa J) (zat J ti54 J J J J J J xe xe) (fun _ h=>zbo h) ?_
  refine ze7 (by kernel_rfl) ?_
  refine zcf (zah (zab (zac J (zac J (zbm zo1 J (zbq ta38 J (zac J (zad J J (zaa J) (za1 J ts38 ti3 J J J hfx J) (zbq ta3 J (zac J (zae (zah ?_))))))))))))
  exact⟨(j,L++[m]),⟨f,O2,g1,g2,g3,by omega,by simp;omega,by rw[hW];simp⟩,by show most.toNat+1-(L++[m]).length<most.toNat+1-L.length;simp;omega,zdl [0,1,4] xe ⟨⟨_,rfl, .rowE zut J⟩,⟨_,rfl,zco (.cons (.own _ _ _ _ _ J xm) (.cons (.lo _ (.s _)) .nil))⟩,⟨_,rfl, .rowE (zp9 _) (by rw[List.map_append];rfl)⟩,trivial⟩ ⟨.ptr 0 0 2 0 0 J, .lo _ (zvq n w c S), .ptr 1 1 2 0 0 J, .lo _ (.s _),trivial⟩⟩
end Aw
namespace Aw
open Go Go.RowKit Go.Proofs Dl
def exA:Net:=⟨4,[⟨⟨#[97]⟩,[0],[1]⟩,⟨⟨#[98]⟩,[1],[2]⟩,⟨⟨#[99]⟩,[2],[3]⟩],0,3⟩
def exAw:List ByteArray:=[⟨#[97]⟩,⟨#[99]⟩]
def exAc:Cst:=⟨1,1,0⟩
theorem z02:zdp exA exAw exAc 100=(1,0):=by kernel_rfl
theorem z00:zi2 exA exAw exAc 100=(5,0):=by kernel_rfl
theorem z8f:(alnO exA exAw exAc 100).1.length=3∧(alnO exA exAw exAc 100).2=(1,0):=⟨by kernel_rfl,by kernel_rfl⟩
theorem z01:prgO exA exAw exAc [0,1,0,0,0]=(exP,0):=by kernel_rfl
theorem z03:bndQ exA exAw exAc [0,1,0,0,0] (exS,0)=(1,true,0):=by
 unfold bndQ
 rw[z01]
 kernel_rfl
end Aw
namespace Aw
open Go Go.RowKit Go.Proofs Dl
variable {P:Program}[IsP P]
def abcT (s:ByteArray)(k:Int):Tr:=⟨s,[k],[k+1]⟩
theorem zup (s:ByteArray)(k:Int)(h0:0≤k)(h1:k≤100):Pure P 84 [eS s,eI k] (eT (abcT s k)):=by
 have hw:IntKind.i64.wrap (k+1)=k+1:=IntWalk.i64_in _ xa
 refine zd1 (by rw[IsP.eq (P:=P)];exact Tryz.func84) rfl J J J J (zaj (.s _) (zaj (.s _) zba)) (lo_T _) (by simp only[argF];rfl) ?_
 refine zag (zab (zad J J (zaa J) (zcd J ti76 J J) (zae (zag (zab (zac J (zac J (zad J J (zaa J) (zjl J ts38 ti3 J J J J) (zac J (zad J J (zaa J) (za2 J J J hw) (zad J J (zaa J) (zjl J ts38 ti3 J J J J) (zad J J (zaa J) (zcc J ti76 tp76 J J) (zcm J (zaa J) (zat J ti76 J J J J J J xe xe) (zae (zah ?_)))))))))))))))
 (refine za3 ?_;repeat (first|refine zbg ?_|refine zbh ?_))
 exact z5s (.inr rfl) ta76 ti76 J J J J J (.refl _)
theorem abc_pf:Pure P 34 [] (eN exA):=by
 have h1:=zup (P:=P) ⟨#[97]⟩ 0 xe xe
 have h2:=zup (P:=P) ⟨#[98]⟩ 1 xe xe
 have h3:=zup (P:=P) ⟨#[99]⟩ 2 xe xe
 refine zd1 (by rw[IsP.eq (P:=P)];exact Tryz.func34) rfl J J J J zba (lo_N _) (by simp only[argF];rfl) ?_
 refine zag (zab (zad J J (zaa J) (zcd J ti24 J J) (zae (zag (zab (zac J (zae (zag (zab (zac J (zad J J (zaa J) (zai J J (h1) (zaf J (zaf J zaq))) (zac J (zad J J (zaa J) (zai J J (h2) (zaf J (zaf J zaq))) (zac J (zad J J (zaa J) (zai J J (h3) (zaf J (zaf J zaq))) (zad J J (zaa J) (zh8 J ts22 ti76 J J xe xe xe J J) (zad J J (zaa J) (zcc J ti24 tp24 J J) ?_)))))))))))))))))
 refine zcm J (zaa J) (zat J ti24 J J J J J J xe xe) (zae (zah ?_))
 (refine za3 ?_;repeat (first|refine zbg ?_|refine zbh ?_))
 exact z5s (.inr rfl) ta24 ti24 J J J J J (.refl _)
set_option maxHeartbeats 4000000 in
theorem z16:Pure P 9 [] (eB true):=by
 have hA:=abc_pf (P:=P)
 have hL:=zqk (P:=P) exA exAw exAc 100
 rw[z02] at hL
 have hG:=zwo (P:=P) exA exAw exAc 100
 have hB:=z41 (P:=P) exA exAw exAc [0,1,0,0,0] (exS,0) (fun _=>by decide) (by rw[z01];exact z23)
 rw[z03] at hB
 have hW:=zuu (P:=P) exA exAw exAc 100
 rw[z00] at hW
 obtain⟨hg1,hg2⟩:=z8f
 generalize alnO exA exAw exAc 100=r at hG hg1 hg2
 obtain⟨l,k,m⟩:=r
 obtain⟨rfl,rfl⟩:=Prod.mk.inj hg2
 replace hg1:l.length=3:=hg1
 have hlA:Lo 0 (.ref [eL eSt l,eI 1]):= .ref _ (zaj (zgx _) (zaj (.s _) zba))
 have hlC:Lo 0 (.ref (eC exAc).cells):= .ref _ (lo_C exAc).cells
 refine zd1 (by rw[IsP.eq (P:=P)];exact Tryz.func9) rfl J J J J (zba) (.s _) (by simp only[argF];rfl) ?_
 refine zag (zab (zac J (zae (zag (zab (zad J J (zaa J) (zh8 J ts25 ti9 J J xe xe xe J J) (zad J J (zaa J) (zcc J ti27 tp27 J J) (zad J J (zaa J) (zcd J ti27 J J) (zac J (zcm J (zaa J) (zat J ti27 J J J J J J xe xe) (zae (zag ?_))))))))))))
 refine za4 (zbw (id:=0) rfl) (za4 (zci (d:=2) rfl J J) ?_)
 refine za4 (F':=[(1,eL eS exAw),(2, .ref (eC exAc).cells)]) (σ':=[]) (zdl [] xe trivial ⟨.lo _ (show Lo 0 (eL eS exAw) from lo_W exAw), .lo _ hlC,trivial⟩) ?_
 refine zb6 hmix ?_
 refine zbj (by kernel_rfl) ?_
 refine zbi J J (zaa J) (zai J J (hA) zaq) (qx_s J (qx_w ta27 ti27 J (zbi J J (zaa J) (zai J J (hL) (zaf J (zaf J (zaf J (zaf J zaq))))) (qx_s J (qx_s J (qx_s J (qx_s J (qx_s J ?_))))))))
 refine zds ?_
 refine zag ?_
 refine za4 (F':=[(1,eL eS exAw),(2, .ref (eC exAc).cells),(3,eI 1),(4,eI 0)]) (σ':=[]) (zdl [] xe trivial ⟨.lo _ (show Lo 0 (eL eS exAw) from lo_W exAw), .lo _ hlC, .lo _ (.s _), .lo _ (.s _),trivial⟩) ?_
 refine zb6 hmix ?_
 refine zgj ?_
 refine zaz J J (zaa J) (fun _=>(zai J J (hA) zaq)) (ex_s J (ex_w ta27 ti27 J (zaz J J (zaa J) (fun _=>(zai J J (hG) (zaf J (zaf J (zaf J (zaf J zaq)))))) (ex_s J (ex_s J (ex_s J ?_))))))
 refine ze8 J J (zaa J) (zcd J ti56 J J) (fun _ h=>zib h) ?_
 refine zcx J (zaa J) (zat J ti56 J J J J J J xe xe) (fun _ h=>zbo h) ?_
 refine ex_s J ?_
 refine ze7 (by kernel_rfl) ?_
 refine zag ?_
 refine za4 (zbw (id:=0) rfl) (za4 (zci (d:=5) rfl J J) ?_)
 refine za4 (F':=[(1,eL eS exAw),(2, .ref (eC exAc).cells),(3,eI 1),(4,eI 0),(5, .ref [eL eSt l,eI 1]),(6,eI 0)]) (σ':=[]) (zdl [] xe trivial ⟨.lo _ (show Lo 0 (eL eS exAw) from lo_W exAw), .lo _ hlC, .lo _ (.s _), .lo _ (.s _), .lo _ hlA, .lo _ (.s _),trivial⟩) ?_
 refine zb6 hmix ?_
 refine zbj (by kernel_rfl) ?_
 refine zbi J J (zaa J) (zai J J (hA) zaq) (qx_s J (qx_w ta27 ti27 J (zbi J J (zaa J) (zh8 J ts38 ti3 J J xe xe xe J J) (zbi J J (zaa J) (zai J J (hB) (zaf J (zaf J (zaf J (zaf J zaq))))) (qx_s J (qx_s J (qx_s J (qx_s J (qx_s J (qx_s J (qx_s J ?_)))))))))))
 refine zds ?_
 refine zag ?_
 refine za4 (F':=[(1,eL eS exAw),(2, .ref (eC exAc).cells),(3,eI 1),(4,eI 0),(5, .ref [eL eSt l,eI 1]),(6,eI 0),(7,eI 1),(8,eB true),(9,eI 0)]) (σ':=[]) (zdl [] xe trivial ⟨.lo _ (show Lo 0 (eL eS exAw) from lo_W exAw), .lo _ hlC, .lo _ (.s _), .lo _ (.s _), .lo _ hlA, .lo _ (.s _), .lo _ (.s _), .lo _ (.s _), .lo _ (.s _),trivial⟩) ?_
 refine zb6 hmix ?_
 refine zbj (by kernel_rfl) ?_
 refine zbi J J (zaa J) (zai J J (hA) zaq) (qx_s J (qx_w ta27 ti27 J (zbi J J (zaa J) (zai J J (hW) (zaf J (zaf J (zaf J (zaf J zaq))))) (qx_s J (qx_s J (qx_s J (qx_s J (qx_s J ?_))))))))
 refine zds ?_
 refine zag ?_
 refine za4 (F':=[(3,eI 1),(4,eI 0),(5, .ref [eL eSt l,eI 1]),(6,eI 0),(7,eI 1),(8,eB true),(9,eI 0),(10,eI 5),(11,eI 0)]) (σ':=[]) (zdl [] xe trivial ⟨.lo _ (.s _), .lo _ (.s _), .lo _ hlA, .lo _ (.s _), .lo _ (.s _), .lo _ (.s _), .lo _ (.s _), .lo _ (.s _), .lo _ (.s _),trivial⟩) ?_
 refine zab (zac J (zad J J (zaa J) (zbn J (zb2 J J J)) (zac J (zac J (zad J J (zap J J J) (zbn J (zb2 J J J)) (zac J (zac J (zac J (zad J J (zap J J J) (zbn J (zb2 J J J)) (zac J (zac J (zbm zlo J (zbq ta54 J (zad J J (zap J J J) (zan J ts54 J) (zad J J (zap J J J) (zbn xa (zb2 J J J)) (zac J (zac J (zbm zu5 J (zbq ta3 J (zad J J (zap J J J) (zbn J (zb2 J J J)) ?_))))))))))))))))))))
 refine zac J (zac J (zac J (zad J J (zap J J J) (zbn J (zb2 J J J)) (zac J (zac J (zac J (zac J (zac J (zac J (zad J J (zap J J J) (zbn J (zb2 J J J)) (zac J (zac J (zac J (zad J J (zap J J J) (zbn J (zb2 J J J)) (zac J (zac J (zac J (zad J J (zap J J J) (zbn J (zb2 J J J)) (zac J (zac J (zae (zah ?_))))))))))))))))))))))
 (refine za3 ?_;repeat (first|refine zbg ?_|refine zbh ?_))
 exact zcl (.inr rfl) rfl J
def bigS (s:ByteArray):Bool:=decide (100<s.size)
theorem z81 (s:ByteArray):Pure P 38 [eS s] (eB (bigS s)):=by
 refine zd1 (by rw[IsP.eq (P:=P)];exact Tryz.func38) rfl J J J J (zaj (.s _) zba) (.s _) (by simp only[argF];rfl) ?_
 refine zag (zab (zac J (zae (zag (zab (zac J (zad J J (zaa J) (zgf J tg9 J) (zad J J (zaa J) (zay J J J) (zac J (zae (zah ?_)))))))))))
 (refine za3 ?_;repeat (first|refine zbg ?_|refine zbh ?_))
 exact zcl (.inr rfl) rfl (congrArg eB (decide_eq_decide.2 xa))
theorem zxi (f:FuncId)(caps:List AV)(p:Tr→Bool)(l:List Tr)(hlo: ∀a:Tr,Lo 0 (eT a))(hlc:Lo 0 (.fn f caps))(hf: ∀a∈l,Pure P f ([eT a]++caps) (eB (p a))):
  Pure P 85 [eL eT l, .fn f caps] (eI (zd8 p l)):=by
 refine zd1 (by rw[IsP.eq (P:=P)];exact Tryz.func85) rfl J J J J (zaj (zdj hlo) (zaj hlc zba)) (.s _) (by simp only[argF];rfl) ?_
 refine z17 (d:=0) rfl (fun hmx=>?_)
 unfold maxLen at hmx
 refine zag (zab (zac J (zae (zag (zag (zab (zac J (zad J J (zaa J) (zan J ts22 J) (zac J (zae (zah (za9 ?_))))))))))))
 refine zdq (S:=Nat) (fun k=>[(0,eL eT l),(1, .fn f caps),(7,eI l.length),(8,eI k)]) (fun _=>[]) (fun k=>k≤l.length∧ ∀j a,j<k→l[j]?=some a→p a=false) (fun k=>l.length-k) 0 (zcv _ ⟨rfl,rfl,rfl,rfl,trivial⟩) ⟨by omega,fun j a hj=>by omega⟩ (fun k hk=>?_)
 refine zag (zab (zad J J (zaa J) (za0 J J J) (zae (zag ?_))))
 refine aw_if J (fun h=>?_) (fun h=>?_)
 ·
  have hlt:k<l.length:=by omega
  refine zav (zag (za9 (zag (zab (zac J (zac J (zae (zag ?_))))))))
  have hp:=hf (gti l k) (gti_mem hlt)
  refine zab (zac J (zac J (zac J (zad J J (zaa J) (za1 J ts22 ti76 J J J (zdk xa) rfl) (zby ta76 ti76 J (zad J J (zaa J) (zai J J (hp) (zaf J zaq)) (zae (zah ?_))))))))
  refine zoh J (fun h=>?_) (fun h=>?_)
  ·
   refine zag (zab (zac J (zac J (zae (zah ?_)))))
   (refine za3 ?_;repeat (first|refine zbg ?_|refine zbh ?_))
   exact zcl (.inr rfl) rfl (congrArg eI (zd3 (zbr hlt) h hk.2).symm)
  ·
   refine zav (zcf (zah (zab (zad J J (zaa J) (za2 J J J (IntWalk.i64_in _ xa)) (zac J (zae (zah ?_)))))))
   refine⟨k+1,⟨by omega,fun j a hj ha=>?_⟩,by omega,zcv _ ⟨rfl,rfl,rfl,rfl,trivial⟩⟩
   by_cases e:j=k
   ·
    subst e
    rw[zbr hlt] at ha
    cases ha
    exact h
   ·
    exact hk.2 j a xa ha
 ·
  (refine zdz ?_;repeat (first|refine zep ?_|refine zcg ?_|refine zbz J ?_|refine zcf ?_|refine zah ?_|refine zag ?_|refine zav ?_|refine za9 ?_))
  refine zab (zac J (zae (zah ?_)))
  (refine za3 ?_;repeat (first|refine zbg ?_|refine zbh ?_))
  exact zcl (.inr rfl) rfl (congrArg eI (zeg (fun j a hj ha=>hk.2 j a xa ha)).symm)
theorem zq4 (f:FuncId)(caps:List AV)(p:Tr→Bool)(l:List Tr)(hlo: ∀a:Tr,Lo 0 (eT a))(hlc:Lo 0 (.fn f caps))(hf: ∀a∈l,Pure P f ([eT a]++caps) (eB (p a))):
  Pure P 35 [eL eT l, .fn f caps] (eB (l.any p)):=by
 refine zd1 (by rw[IsP.eq (P:=P)];exact Tryz.func35) rfl J J J J (zaj (zdj hlo) (zaj hlc zba)) (.s _) (by simp only[argF];rfl) ?_
 have hi:=zxi f caps p l hlo hlc hf
 refine zag (zab (zac J (zae (zag (zab (zac J (zac J (zad J J (zaa J) (zai J J (hi) (zaf J (zaf J zaq))) (zad J J (zaa J) (zc9 J J J) (zac J (zae (zah ?_))))))))))))
 (refine za3 ?_;repeat (first|refine zbg ?_|refine zbh ?_))
 exact zcl (.inr rfl) rfl (congrArg eB (zeh p l))
def bigQ (t:Tr):Bool:=if 60<t.inn.length∨60<t.out.length∨100<t.label.size then true else false
theorem z82 (t:Tr):Pure P 36 [eT t] (eB (bigQ t)):=by
 have hR:bigQ t=if 60<t.inn.length∨60<t.out.length∨100<t.label.size then true else false:=rfl
 generalize bigQ t=R at hR⊢
 refine zd1 (by rw[IsP.eq (P:=P)];exact Tryz.func36) rfl J J J J (zaj (lo_T t) zba) (.s _) (by simp only[argF];rfl) ?_
 refine zag (zab (zad J J (zaa J) (zbt J J J J) ?_))
 refine zax (zbw (id:=0) rfl) (zax (zci (d:=1) rfl J J) ?_)
 refine zac J (zae (zag ?_))
 by_cases h1:(t.inn.length:Int)>60
 ·
  refine zab (zbm zln J (zbq ta38 J (zad J J (zaa J) (zan J ts38 J) (zad J J (zaa J) (zbn h1 (zay J J J)) (zac J (zbb J (zbb J (zbb J (zbb J (zac J (zac J (zbb J (zbb J (zbb J (zbb J (zac J (zac J (zae (zah ?_)))))))))))))))))))
  (refine za3 ?_;repeat (first|refine zbg ?_|refine zbh ?_))
  exact zcl (.inr rfl) rfl (congrArg eB (hR.trans (if_pos xa)).symm)
 by_cases h2:(t.out.length:Int)>60
 ·
  refine zab (zbm zln J (zbq ta38 J (zad J J (zaa J) (zan J ts38 J) (zad J J (zaa J) (zbl h1 (zay J J J)) (zac J (zbm zmp J (zbq ta38 J (zad J J (zap J J J) (zan J ts38 J) (zad J J (zap J J J) (zbn h2 (zay J J J)) (zac J (zac J (zbb J (zbb J (zbb J (zbb J (zac J (zac J (zae (zah ?_)))))))))))))))))))
  (refine za3 ?_;repeat (first|refine zbg ?_|refine zbh ?_))
  exact zcl (.inr rfl) rfl (congrArg eB (hR.trans (if_pos xa)).symm)
 by_cases h3:(t.label.size:Int)>100
 ·
  refine zab (zbm zln J (zbq ta38 J (zad J J (zaa J) (zan J ts38 J) (zad J J (zaa J) (zbl h1 (zay J J J)) (zac J (zbm zmp J (zbq ta38 J (zad J J (zap J J J) (zan J ts38 J) (zad J J (zap J J J) (zbl h2 (zay J J J)) (zac J (zac J (zbm zo2 J (zbq ta9 J (zad J J (zap J J J) (zgf J tg9 J) (zad J J (zap J J J) (zbn h3 (zay J J J)) (zac J (zac J (zae (zah ?_)))))))))))))))))))
  (refine za3 ?_;repeat (first|refine zbg ?_|refine zbh ?_))
  exact zcl (.inr rfl) rfl (congrArg eB (hR.trans (if_pos xa)).symm)
 ·
  refine zab (zbm zln J (zbq ta38 J (zad J J (zaa J) (zan J ts38 J) (zad J J (zaa J) (zbl h1 (zay J J J)) (zac J (zbm zmp J (zbq ta38 J (zad J J (zap J J J) (zan J ts38 J) (zad J J (zap J J J) (zbl h2 (zay J J J)) (zac J (zac J (zbm zo2 J (zbq ta9 J (zad J J (zap J J J) (zgf J tg9 J) (zad J J (zap J J J) (zbl h3 (zay J J J)) (zac J (zac J (zae (zah ?_)))))))))))))))))))
  (refine za3 ?_;repeat (first|refine zbg ?_|refine zbh ?_))
  exact zcl (.inr rfl) rfl (congrArg eB (hR.trans (if_neg xa)).symm)
def zse (n:Net):Bool:=if (14<n.places∧n.places≤40)∨(14<n.trans.length∧n.trans.length≤60)∨80<n.trans.length then true else n.trans.any bigQ
theorem zv1 (n:Net):Pure P 10 [eN n] (eB (zse n)):=by
 have hT:=zq4 (P:=P) 36 [] bigQ n.trans (fun a=>lo_T a) (.fn _ _ zba) (fun a _=>z82 a)
 have hR:zse n=if (14<n.places∧n.places≤40)∨(14<n.trans.length∧n.trans.length≤60)∨80<n.trans.length then true else n.trans.any bigQ:=rfl
 generalize zse n=R at hR⊢
 generalize n.trans.any bigQ=b at hT hR
 have hln:Lo 0 (.ref (eN n).cells):= .ref _ (lo_N n).cells
 refine zd1 (by rw[IsP.eq (P:=P)];exact Tryz.func10) rfl J J J J (zaj (lo_N n) zba) (.s _) (by simp only[argF];rfl) ?_
 refine zag (zab (zad J J (zaa J) (zbt J J J J) ?_))
 refine zax (zbw (id:=0) rfl) (zax (zci (d:=1) rfl J J) ?_)
 refine zac J (zae (zag ?_))
 by_cases h1:14<n.places∧n.places≤40
 ·
  rw[if_pos (.inl h1)] at hR
  refine zab (zbm zfn J (zbq ta3 J (zad J J (zaa J) (zbn xa (zay J J J)) (zac J (zbm zfn J (zbq ta3 J (zad J J (zap J J J) (zbn xa (zc8 J J J)) (zac J (zac J (zbb J (zbb J (zbb J (zbb J (zbb J (zj8 J J (zct J J J) (zj8 J J (zct J J J) (zj8 J J (zct J J J) (zj8 J J (zct J J J) (zbb J (zac J (zac J (zbb J (zbb J (zbb J (zbb J (zac J (zac J ?_)))))))))))))))))))))))))))
  refine zbb J (zbb J (zbb J (zac J (zac J (zae (zah ?_))))))
  (refine za3 ?_;repeat (first|refine zbg ?_|refine zbh ?_))
  exact zcl (.inr rfl) rfl (congrArg eB hR.symm)
 by_cases h2:14<n.trans.length∧n.trans.length≤60
 ·
  rw[if_pos (.inr (.inl h2))] at hR
  by_cases h4:n.places>14
  ·
   refine zab (zbm zfn J (zbq ta3 J (zad J J (zaa J) (zbn h4 (zay J J J)) (zac J (zbm zfn J (zbq ta3 J (zad J J (zap J J J) (zbl xa (zc8 J J J)) (zac J (zac J (zbm zdi J (zbq ta22 J (zad J J (zap J J J) (zan J ts22 J) (zad J J (zap J J J) (zbn xa (zay J J J)) (zac J (zbm zdi J (zbq ta22 J (zad J J (zap J J J) (zan J ts22 J) (zad J J (zap J J J) (zbn xa (zc8 J J J)) ?_))))))))))))))))))
   refine zac J (zac J (zac J (zbb J (zbb J (zbb J (zbb J (zac J (zac J (zbb J (zbb J (zbb J (zac J (zac J (zae (zah ?_)))))))))))))))
   (refine za3 ?_;repeat (first|refine zbg ?_|refine zbh ?_))
   exact zcl (.inr rfl) rfl (congrArg eB hR.symm)
  ·
   refine zab (zbm zfn J (zbq ta3 J (zad J J (zaa J) (zbl h4 (zay J J J)) (zac J (zbb J (zbb J (zbb J (zac J (zac J (zbm zdi J (zbq ta22 J (zad J J (zap J J J) (zan J ts22 J) (zad J J (zap J J J) (zbn xa (zay J J J)) (zac J (zbm zdi J (zbq ta22 J (zad J J (zap J J J) (zan J ts22 J) (zad J J (zap J J J) (zbn xa (zc8 J J J)) (zac J (zac J (zac J (zbb J ?_))))))))))))))))))))))
   refine zbb J (zbb J (zbb J (zac J (zac J (zbb J (zbb J (zbb J (zac J (zac J (zae (zah ?_)))))))))))
   (refine za3 ?_;repeat (first|refine zbg ?_|refine zbh ?_))
   exact zcl (.inr rfl) rfl (congrArg eB hR.symm)
 by_cases h3:80<n.trans.length
 ·
  rw[if_pos (.inr (.inr h3))] at hR
  by_cases h4:n.places>14
  ·
   refine zab (zbm zfn J (zbq ta3 J (zad J J (zaa J) (zbn h4 (zay J J J)) (zac J (zbm zfn J (zbq ta3 J (zad J J (zap J J J) (zbl xa (zc8 J J J)) (zac J (zac J (zbm zdi J (zbq ta22 J (zad J J (zap J J J) (zan J ts22 J) (zad J J (zap J J J) (zbn xa (zay J J J)) (zac J (zbm zdi J (zbq ta22 J (zad J J (zap J J J) (zan J ts22 J) (zad J J (zap J J J) (zbl xa (zc8 J J J)) ?_))))))))))))))))))
   refine zac J (zac J (zac J (zbm zdi J (zbq ta22 J (zad J J (zap J J J) (zan J ts22 J) (zad J J (zap J J J) (zbn xa (zay J J J)) (zac J (zac J (zbb J (zbb J (zbb J (zac J (zac J (zae (zah ?_)))))))))))))))
   (refine za3 ?_;repeat (first|refine zbg ?_|refine zbh ?_))
   exact zcl (.inr rfl) rfl (congrArg eB hR.symm)
  ·
   refine zab (zbm zfn J (zbq ta3 J (zad J J (zaa J) (zbl h4 (zay J J J)) (zac J (zbb J (zbb J (zbb J (zac J (zac J (zbm zdi J (zbq ta22 J (zad J J (zap J J J) (zan J ts22 J) (zad J J (zap J J J) (zbn xa (zay J J J)) (zac J (zbm zdi J (zbq ta22 J (zad J J (zap J J J) (zan J ts22 J) (zad J J (zap J J J) (zbl xa (zc8 J J J)) (zac J (zac J (zac J (zbm zdi J ?_))))))))))))))))))))))
   refine zbq ta22 J (zad J J (zap J J J) (zan J ts22 J) (zad J J (zap J J J) (zbn xa (zay J J J)) (zac J (zac J (zbb J (zbb J (zbb J (zac J (zac J (zae (zah ?_)))))))))))
   (refine za3 ?_;repeat (first|refine zbg ?_|refine zbh ?_))
   exact zcl (.inr rfl) rfl (congrArg eB hR.symm)
 rw[if_neg xa] at hR
 by_cases h5:n.trans.length>14
 ·
  by_cases h4:n.places>14
  ·
   refine zab (zbm zfn J (zbq ta3 J (zad J J (zaa J) (zbn h4 (zay J J J)) (zac J (zbm zfn J (zbq ta3 J (zad J J (zap J J J) (zbl xa (zc8 J J J)) (zac J (zac J (zbm zdi J (zbq ta22 J (zad J J (zap J J J) (zan J ts22 J) (zad J J (zap J J J) (zbn xa (zay J J J)) (zac J (zbm zdi J (zbq ta22 J (zad J J (zap J J J) (zan J ts22 J) (zad J J (zap J J J) (zbl xa (zc8 J J J)) ?_))))))))))))))))))
   refine zac J (zac J (zac J (zbm zdi J (zbq ta22 J (zad J J (zap J J J) (zan J ts22 J) (zad J J (zap J J J) (zbl xa (zay J J J)) (zac J (zac J (zbm zdi J (zbq ta22 J (zad J J (zap J J J) (zai J J (hT) (zaf J (zaf J zaq))) (zac J (zac J (zae (zah ?_)))))))))))))))
   (refine za3 ?_;repeat (first|refine zbg ?_|refine zbh ?_))
   exact zcl (.inr rfl) rfl (congrArg eB hR.symm)
  ·
   refine zab (zbm zfn J (zbq ta3 J (zad J J (zaa J) (zbl h4 (zay J J J)) (zac J (zbb J (zbb J (zbb J (zac J (zac J (zbm zdi J (zbq ta22 J (zad J J (zap J J J) (zan J ts22 J) (zad J J (zap J J J) (zbn xa (zay J J J)) (zac J (zbm zdi J (zbq ta22 J (zad J J (zap J J J) (zan J ts22 J) (zad J J (zap J J J) (zbl xa (zc8 J J J)) (zac J (zac J (zac J (zbm zdi J ?_))))))))))))))))))))))
   refine zbq ta22 J (zad J J (zap J J J) (zan J ts22 J) (zad J J (zap J J J) (zbl xa (zay J J J)) (zac J (zac J (zbm zdi J (zbq ta22 J (zad J J (zap J J J) (zai J J (hT) (zaf J (zaf J zaq))) (zac J (zac J (zae (zah ?_)))))))))))
   (refine za3 ?_;repeat (first|refine zbg ?_|refine zbh ?_))
   exact zcl (.inr rfl) rfl (congrArg eB hR.symm)
 ·
  by_cases h4:n.places>14
  ·
   refine zab (zbm zfn J (zbq ta3 J (zad J J (zaa J) (zbn h4 (zay J J J)) (zac J (zbm zfn J (zbq ta3 J (zad J J (zap J J J) (zbl xa (zc8 J J J)) (zac J (zac J (zbm zdi J (zbq ta22 J (zad J J (zap J J J) (zan J ts22 J) (zad J J (zap J J J) (zbl xa (zay J J J)) (zac J (zbb J (zbb J (zbb J (zbb J (zac J (zac J (zac J (zbm zdi J (zbq ta22 J (zad J J (zap J J J) (zan J ts22 J) ?_))))))))))))))))))))))))
   refine zad J J (zap J J J) (zbl xa (zay J J J)) (zac J (zac J (zbm zdi J (zbq ta22 J (zad J J (zap J J J) (zai J J (hT) (zaf J (zaf J zaq))) (zac J (zac J (zae (zah ?_)))))))))
   (refine za3 ?_;repeat (first|refine zbg ?_|refine zbh ?_))
   exact zcl (.inr rfl) rfl (congrArg eB hR.symm)
  ·
   refine zab (zbm zfn J (zbq ta3 J (zad J J (zaa J) (zbl h4 (zay J J J)) (zac J (zbb J (zbb J (zbb J (zac J (zac J (zbm zdi J (zbq ta22 J (zad J J (zap J J J) (zan J ts22 J) (zad J J (zap J J J) (zbl xa (zay J J J)) (zac J (zbb J (zbb J (zbb J (zbb J (zac J (zac J (zac J (zbm zdi J (zbq ta22 J (zad J J (zap J J J) (zan J ts22 J) (zad J J (zap J J J) (zbl xa (zay J J J)) ?_)))))))))))))))))))))))))
   refine zac J (zac J (zbm zdi J (zbq ta22 J (zad J J (zap J J J) (zai J J (hT) (zaf J (zaf J zaq))) (zac J (zac J (zae (zah ?_))))))))
   (refine za3 ?_;repeat (first|refine zbg ?_|refine zbh ?_))
   exact zcl (.inr rfl) rfl (congrArg eB hR.symm)
def z0c (w:List ByteArray):Bool:=if (12<w.length∧w.length≤200)∨220<w.length then true else w.any bigS
theorem z0b (w:List ByteArray):Pure P 11 [eL eS w] (eB (z0c w)):=by
 have hT:=zq5 (P:=P) 38 [] bigS w (fun a=> .s _) (.fn _ _ zba) (fun a _=>z81 a)
 have hR:z0c w=if (12<w.length∧w.length≤200)∨220<w.length then true else w.any bigS:=rfl
 generalize z0c w=R at hR⊢
 generalize w.any bigS=b at hT hR
 refine zd1 (by rw[IsP.eq (P:=P)];exact Tryz.func11) rfl J J J J (zaj (lo_W w) zba) (.s _) (by simp only[argF];rfl) ?_
 refine zag (zab (zac J (zae (zag ?_))))
 by_cases h1:12<w.length∧w.length≤200
 ·
  rw[if_pos (.inl h1)] at hR
  refine zab (zac J (zad J J (zaa J) (zan J ts25 J) (zad J J (zaa J) (zbn xa (zay J J J)) (zac J (zac J (zad J J (zap J J J) (zan J ts25 J) (zad J J (zap J J J) (zbn xa (zc8 J J J)) (zac J (zac J (zbb J (zbb J (zbb J (zac J (zac J (zbb J (zbb J (zac J (zac J (zae (zah ?_))))))))))))))))))))
  (refine za3 ?_;repeat (first|refine zbg ?_|refine zbh ?_))
  exact zcl (.inr rfl) rfl (congrArg eB hR.symm)
 by_cases h2:220<w.length
 ·
  rw[if_pos (.inr h2)] at hR
  refine zab (zac J (zad J J (zaa J) (zan J ts25 J) (zad J J (zaa J) (zbn xa (zay J J J)) (zac J (zac J (zad J J (zap J J J) (zan J ts25 J) (zad J J (zap J J J) (zbl xa (zc8 J J J)) (zac J (zac J (zac J (zad J J (zap J J J) (zan J ts25 J) (zad J J (zap J J J) (zbn xa (zay J J J)) (zac J (zac J (zbb J (zbb J (zac J (zac J (zae (zah ?_))))))))))))))))))))
  (refine za3 ?_;repeat (first|refine zbg ?_|refine zbh ?_))
  exact zcl (.inr rfl) rfl (congrArg eB hR.symm)
 rw[if_neg xa] at hR
 by_cases h4:w.length>12
 ·
  refine zab (zac J (zad J J (zaa J) (zan J ts25 J) (zad J J (zaa J) (zbn xa (zay J J J)) (zac J (zac J (zad J J (zap J J J) (zan J ts25 J) (zad J J (zap J J J) (zbl xa (zc8 J J J)) (zac J (zac J (zac J (zad J J (zap J J J) (zan J ts25 J) (zad J J (zap J J J) (zbl xa (zay J J J)) (zac J (zac J (zac J (zad J J (zap J J J) (zai J J (hT) (zaf J (zaf J zaq))) ?_))))))))))))))))
  refine zac J (zac J (zae (zah ?_)))
  (refine za3 ?_;repeat (first|refine zbg ?_|refine zbh ?_))
  exact zcl (.inr rfl) rfl (congrArg eB hR.symm)
 ·
  refine zab (zac J (zad J J (zaa J) (zan J ts25 J) (zad J J (zaa J) (zbl xa (zay J J J)) (zac J (zbb J (zbb J (zbb J (zac J (zac J (zac J (zad J J (zap J J J) (zan J ts25 J) (zad J J (zap J J J) (zbl xa (zay J J J)) (zac J (zac J (zac J (zad J J (zap J J J) (zai J J (hT) (zaf J (zaf J zaq))) (zac J (zac J (zae (zah ?_))))))))))))))))))))
  (refine za3 ?_;repeat (first|refine zbg ?_|refine zbh ?_))
  exact zcl (.inr rfl) rfl (congrArg eB hR.symm)
def z7u (k:Int):Bool:=decide (300<k∧k≤2000)
theorem z0a (k:Int):Pure P 12 [eI k] (eB (z7u k)):=by
 refine zd1 (by rw[IsP.eq (P:=P)];exact Tryz.func12) rfl J J J J (zaj (.s _) zba) (.s _) (by simp only[argF];rfl) ?_
 refine zag (zab (zac J (zae (zag ?_))))
 by_cases h1:k>300
 ·
  by_cases h2:k≤2000
  ·
   refine zab (zac J (zad J J (zaa J) (zbn h1 (zay J J J)) (zac J (zac J (zad J J (zap J J J) (zbn h2 (zc8 J J J)) (zac J (zac J (zae (zah ?_)))))))))
   (refine za3 ?_;repeat (first|refine zbg ?_|refine zbh ?_))
   exact zcl (.inr rfl) rfl (congrArg eB (decide_eq_true ⟨h1,h2⟩).symm)
  ·
   refine zab (zac J (zad J J (zaa J) (zbn h1 (zay J J J)) (zac J (zac J (zad J J (zap J J J) (zbl h2 (zc8 J J J)) (zac J (zac J (zae (zah ?_)))))))))
   (refine za3 ?_;repeat (first|refine zbg ?_|refine zbh ?_))
   exact zcl (.inr rfl) rfl (congrArg eB (decide_eq_false (fun h=>h2 h.2)).symm)
 ·
  refine zab (zac J (zad J J (zaa J) (zbl h1 (zay J J J)) (zac J (zbb J (zbb J (zac J (zac J (zae (zah ?_)))))))))
  (refine za3 ?_;repeat (first|refine zbg ?_|refine zbh ?_))
  exact zcl (.inr rfl) rfl (congrArg eB (decide_eq_false (fun h=>h1 h.1)).symm)
def noneB (l:List Stp)(k:Int):Bool:=decide (l.length=0∧k=0)
theorem z7k (l:List Stp)(k:Int):Pure P 26 [eAl l k] (eB (noneB l k)):=by
 refine zd1 (by rw[IsP.eq (P:=P)];exact Tryz.func26) rfl J J J J (zaj (.agg _ (zaj (zgx _) (zaj (.s _) zba))) zba) (.s _) (by simp only[argF];rfl) ?_
 refine zag (zab (zad J J (zaa J) (zbt J J J J) ?_))
 refine zax (zbw (id:=0) rfl) (zax (zci (d:=1) rfl J J) ?_)
 refine zac J (zae (zag ?_))
 by_cases h1:(l.length:Int)=0
 ·
  by_cases h2:k=0
  ·
   refine zab (zbm zlo J (zbq ta54 J (zad J J (zaa J) (zan J ts54 J) (zad J J (zaa J) (zbn h1 (zb2 J J J)) (zac J (zbm zu5 J (zbq ta3 J (zad J J (zap J J J) (zbn h2 (zb2 J J J)) (zac J (zac J (zae (zah ?_))))))))))))
   (refine za3 ?_;repeat (first|refine zbg ?_|refine zbh ?_))
   exact zcl (.inr rfl) rfl (congrArg eB (decide_eq_true ⟨by omega,h2⟩).symm)
  ·
   refine zab (zbm zlo J (zbq ta54 J (zad J J (zaa J) (zan J ts54 J) (zad J J (zaa J) (zbn h1 (zb2 J J J)) (zac J (zbm zu5 J (zbq ta3 J (zad J J (zap J J J) (zbl h2 (zb2 J J J)) (zac J (zac J (zae (zah ?_))))))))))))
   (refine za3 ?_;repeat (first|refine zbg ?_|refine zbh ?_))
   exact zcl (.inr rfl) rfl (congrArg eB (decide_eq_false (fun h=>h2 h.2)).symm)
 ·
  refine zab (zbm zlo J (zbq ta54 J (zad J J (zaa J) (zan J ts54 J) (zad J J (zaa J) (zbl h1 (zb2 J J J)) (zac J (zbb J (zbb J (zbb J (zac J (zac J (zae (zah ?_))))))))))))
  (refine za3 ?_;repeat (first|refine zbg ?_|refine zbh ?_))
  exact zcl (.inr rfl) rfl (congrArg eB (decide_eq_false (fun h=>h1 xa)).symm)
end Aw
end Go.Proofs.YtjdpnadhgjohnaaGreatDoor
