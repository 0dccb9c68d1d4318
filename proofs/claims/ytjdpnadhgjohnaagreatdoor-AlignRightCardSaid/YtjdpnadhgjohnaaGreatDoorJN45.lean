import Derived.Test.YtjdpnadhgjohnaaGreatDoorJN0
import Derived.Test.YtjdpnadhgjohnaaGreatDoorJN43
import Derived.Test.YtjdpnadhgjohnaaGreatDoorJN11
import Derived.Test.YtjdpnadhgjohnaaGreatDoorJN13
set_option linter.unusedSimpArgs false
set_option linter.unusedVariables false
set_option linter.unusedSectionVars false
namespace Go.Proofs.YtjdpnadhgjohnaaGreatDoor
section
def alnB (n:Net)(w:List ByteArray)(c:Cst)(l:List Stp)(k:Int):Bool:=zgi n w c l k
end
namespace Aw
open Go Go.RowKit Go.Proofs Dl
theorem aln_ok (n:Net)(w:List ByteArray)(c:Cst)(most:Int):(alnO n w c most).2.2=(zdp n w c most).2∧((alnO n w c most).2.2≠0→(alnO n w c most).1=[]∧(alnO n w c most).2.1=0)∧
  ((alnO n w c most).2.2=0→(alnO n w c most).1.length≤2000∧(alnO n w c most).2.1=(zdp n w c most).1∧alnB n w c (alnO n w c most).1 (alnO n w c most).2.1=true):=by
 have hL:=zr8 n w c most
 have hf:= @zvc n w c most
 unfold alnO
 by_cases h:(runO n w c most).2.2=0
 ·
  rw[if_pos h]
  obtain⟨_,h2,h3,h4,h5⟩:=hf h
  have hs:=zfs (n:=n) (w:=w) (c:=c) (by rw[h3];decide)
  have hz:(srP n w c most).2.2=0:=by rw[←h2];exact h
  have hk:=z6f hs.2 hs.1 h4 hz
  have hc:=z2d hs.2 hs.1 ⟨h4,h5⟩ hz
  have hp:zhj (srP n w c most)=gti (runO n w c most).1.co (runO n w c most).2.1.toNat:=by unfold zhj;rw[if_pos hz,h2]
  have hp2:zhj (runO n w c most)=gti (runO n w c most).1.co (runO n w c most).2.1.toNat:=by unfold zhj;rw[if_pos h]
  have ha:alnP n w c most=wayB (runO n w c most).1 (most.toNat+1) (runO n w c most).2.1.toNat:=by unfold alnP;rw[h2]
  rw[ha] at hk hc
  rw[hp] at hc
  rw[hL,hp2,h]
  exact⟨rfl,fun x=>absurd J x,fun _=>⟨by have:=hk.2;dsimp only;omega,rfl,hc⟩⟩
 ·
  rw[if_neg h,hL]
  exact⟨rfl,fun _=>⟨rfl,rfl⟩,fun x=>absurd x h⟩
variable {P:Program}[IsP P]
theorem z5n {G:Cx}{v:Value}{l:List Stp}{k:Int}(h:Rep G v (eAl l k)): ∃u,v=algV u k∧Rep G u (eL eSt l):=by
 cases h with
 | agg vs _ hl h1 hr=>
  obtain⟨q⟩:=vs
  match q,hl with
  |[a,b],_=>
   have hb:=zc5 (hr 1 b _ J J)
   subst hb
   exact⟨a,rfl,hr 0 a _ J J⟩
theorem zzl (n:Net)(w:List ByteArray)(c:Cst)(l:List Stp)(k:Int):Pure P 29 [eN n,eL eS w,eC c,eAl l k] (eB (alnB n w c l k)):=
 zf0 (zdf Tryz.func29 J J) fun G vargs hst hsz hrep=>by
  obtain⟨q⟩:=vargs
  match q,hsz,hrep with
  |[a,b,d,e],_,hrep=>
   obtain⟨vt,rfl,h1⟩:=zkz (hrep 0 a _ rfl rfl) hst
   have h3:=rep3 (hrep 2 d _ J J)
   subst h3
   obtain⟨u,rfl,h4⟩:=z5n (hrep 3 e _ rfl rfl)
   exact z2o n w c l k vt b u _ _ _ _ _ _ G.w h1 (zky (hrep 1 b _ J J) hst) (zte h4 hst)
theorem zwv (n:Net)(w:List ByteArray)(c:Cst)(l:List Stp)(k:Int):Pure P 23 [eN n,eL eS w,eC c,eAl l k] (eB (alnB n w c l k)):=
 zf0 (zdf Tryz.func23 J J) fun G vargs hst hsz hrep=>by
  obtain⟨q⟩:=vargs
  match q,hsz,hrep with
  |[a,b,d,e],_,hrep=>
   obtain⟨vt,rfl,h1⟩:=zkz (hrep 0 a _ rfl rfl) hst
   have h3:=rep3 (hrep 2 d _ J J)
   subst h3
   obtain⟨u,rfl,h4⟩:=z5n (hrep 3 e _ rfl rfl)
   exact zw3 n w c l k vt b u _ _ _ _ _ _ G.w h1 (zky (hrep 1 b _ J J) hst) (zte h4 hst)
set_option maxHeartbeats 2000000 in
theorem alignRight_pf (n:Net)(w:List ByteArray)(c:Cst)(most:Int):Pure P 7 [eN n,eL eS w,eC c,eI most] (eB true):=by
 have haw:=z16 (P:=P)
 have hgr:=zv1 (P:=P) n
 have hlg:=z0b (P:=P) w
 have hmy:=z0a (P:=P) most
 have h1:=zwo (P:=P) n w c most
 have h2:=zm1 (P:=P) n w c most
 have hA:=aln_ok n w c most
 generalize zse n=b1 at hgr
 generalize z0c w=b2 at hlg
 generalize z7u most=b3 at hmy
 generalize alnO n w c most=r1 at h1 hA
 generalize zdp n w c most=r2 at h2 hA
 obtain⟨l,k,m⟩:=r1
 obtain⟨x2,y2⟩:=r2
 obtain⟨a1,a2,a3⟩:=hA
 dsimp only at a1 a2 a3
 subst a1
 have h3:=zzl (P:=P) n w c l k
 have h4:=zwv (P:=P) n w c l k
 have h5:=z7k (P:=P) l k
 have hln:Lo 0 (.ref (eN n).cells):= .ref _ (lo_N n).cells
 have hlc:Lo 0 (.ref (eC c).cells):= .ref _ (lo_C c).cells
 have hla:Lo 0 (.ref [eL eSt l,eI k]):= .ref _ (zaj (zgx _) (zaj (.s _) zba))
 refine zd1 (by rw[IsP.eq (P:=P)];exact Tryz.func7) rfl J J J J (zaj (lo_N n) (zaj (lo_W w) (zaj (lo_C c) (zaj (.s _) zba)))) (.s _) (by simp only[argF];rfl) ?_
 refine zag (zab (zad J J (zaa J) (zbt J J J J) ?_))
 refine zax (zbw (id:=0) rfl) (zax (zci (d:=4) rfl J J) ?_)
 refine zad J J (zaa J) (zbt J J J J) ?_
 refine zax (zbw (id:=1) rfl) (zax (zci (d:=6) rfl J J) ?_)
 refine zac J (zae (zag (zag (zab (zad J J (zaa J) (zai J J (haw) zaq) (zad J J (zaa J) (zbs J J) (zae (zah (zaw J (zav (zag (zag ?_))))))))))))
 cases b1 with
 |true=>
  refine zab (zby ta24 ti24 J (zad J J (zaa J) (zai J J (hgr) (zaf J zaq)) (zac J (zbb J (zbb J (zac J (zac J (zbb J (zbb J (zac J (zae (zah (za7 J (zag (zab (zac J (zae (zah ?_))))))))))))))))))
  (refine za3 ?_;repeat (first|refine zbg ?_|refine zbh ?_))
  exact zcl (.inr rfl) rfl J
 |false=>
 cases b2 with
 |true=>
  refine zab (zby ta24 ti24 J (zad J J (zaa J) (zai J J (hgr) (zaf J zaq)) (zac J (zac J (zad J J (zap J J J) (zai J J (hlg) (zaf J zaq)) (zac J (zac J (zbb J (zbb J (zac J (zae (zah (za7 J (zag (zab (zac J (zae (zah ?_))))))))))))))))))
  (refine za3 ?_;repeat (first|refine zbg ?_|refine zbh ?_))
  exact zcl (.inr rfl) rfl J
 |false=>
 cases b3 with
 |true=>
  refine zab (zby ta24 ti24 J (zad J J (zaa J) (zai J J (hgr) (zaf J zaq)) (zac J (zac J (zad J J (zap J J J) (zai J J (hlg) (zaf J zaq)) (zac J (zac J (zac J (zad J J (zap J J J) (zai J J (hmy) (zaf J zaq)) (zac J (zae (zah (za7 J (zag (zab (zac J (zae (zah ?_))))))))))))))))))
  (refine za3 ?_;repeat (first|refine zbg ?_|refine zbh ?_))
  exact zcl (.inr rfl) rfl J
 |false=>
 refine zab (zby ta24 ti24 J (zad J J (zaa J) (zai J J (hgr) (zaf J zaq)) (zac J (zac J (zad J J (zap J J J) (zai J J (hlg) (zaf J zaq)) (zac J (zac J (zac J (zad J J (zap J J J) (zai J J (hmy) (zaf J zaq)) (zac J (zae (zah (zaw J (zav (zag (zab (zby ta24 ti24 J (zac J (zby ta27 ti27 J (zac J (zad J J (zaa J) (zai J J (h1) (zaf J (zaf J (zaf J (zaf J zaq))))) ?_)))))))))))))))))))))
 refine zac J (zac J (zac J (zad J J (zaa J) (zcd J ti56 J J) (zcm J (zaa J) (zat J ti56 J J J J J J xe xe) (zac J (zae (zag ?_)))))))
 refine za4 (zbw (id:=2) rfl) (za4 (zci (d:=9) rfl J J) ?_)
 refine za4 (zdl (σ':=[]) [] xe trivial (F':=[(1,eL eS w),(3,eI most),(4, .ref (eN n).cells),(6, .ref (eC c).cells),(9, .ref [eL eSt l,eI k]),(10,eI m)]) ⟨.lo _ (lo_W w), .lo _ (.s _), .lo _ hln, .lo _ hlc, .lo _ hla, .lo _ (.s _),trivial⟩) ?_
 refine zab (zby ta24 ti24 J (zac J (zby ta27 ti27 J (zac J (zad J J (zaa J) (zai J J (h2) (zaf J (zaf J (zaf J (zaf J zaq))))) (zac J (zac J (zac J (zac J (zac J (zae (zag (zag (zab (zac J (zac J ?_))))))))))))))))
 refine zad J J (zaa J) (zbl (fun h=>h J) (zbv J J J)) ?_
 refine zae (zah (zaw J (zav (zag (zag ?_)))))
 by_cases hm:m≠0
 ·
  obtain⟨rfl,rfl⟩:=a2 hm
  refine zab (zac J (zad J J (zaa J) (zbn hm (zbv J J J)) (zae (zah (za7 J (zag (zab (zby ta56 ti56 J (zad J J (zaa J) (zai J J (h5) (zaf J zaq)) (zac J (zae (zah ?_))))))))))))
  (refine za3 ?_;repeat (first|refine zbg ?_|refine zbh ?_))
  exact zcl (.inr rfl) rfl J
 obtain⟨q1,rfl,q3⟩:=a3 (Decidable.not_not.1 hm)
 rw[q3] at h3 h4
 refine zab (zac J (zad J J (zaa J) (zbl hm (zbv J J J)) (zae (zah (zaw J (zav (zag (zab (zbm zlo J (zbq ta54 J (zad J J (zaa J) (zan J ts54 J) (zad J J (zaa J) (zbn xa (zc8 J J J)) (zac J (zbm zu5 J (zbq ta3 J (zac J (zad J J (zap J J J) (zbn J (zb2 J J J)) (zac J (zac J (zby ta24 ti24 J (zac J (zby ta27 ti27 J (zby ta56 ti56 J (zad J J (zap J J J) (zai J J (h3) (zaf J (zaf J (zaf J (zaf J zaq))))) ?_))))))))))))))))))))))))
 refine zac J (zac J (zby ta24 ti24 J (zac J (zby ta27 ti27 J (zby ta56 ti56 J (zad J J (zap J J J) (zai J J (h4) (zaf J (zaf J (zaf J (zaf J zaq))))) (zac J (zac J (zae (zah ?_))))))))))
 (refine za3 ?_;repeat (first|refine zbg ?_|refine zbh ?_))
 exact zcl (.inr rfl) rfl J
end Aw
end Go.Proofs.YtjdpnadhgjohnaaGreatDoor
