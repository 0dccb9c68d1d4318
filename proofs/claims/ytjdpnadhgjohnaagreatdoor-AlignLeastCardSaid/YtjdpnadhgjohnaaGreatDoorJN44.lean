import Derived.Test.YtjdpnadhgjohnaaGreatDoorJN0
import Derived.Test.YtjdpnadhgjohnaaGreatDoorJN43
set_option linter.unusedSimpArgs false
set_option linter.unusedVariables false
set_option linter.unusedSectionVars false
section
namespace Go.Proofs.YtjdpnadhgjohnaaGreatDoor.Aw
open Go Go.RowKit Go.Proofs Dl
variable {P:Program}[IsP P]
set_option maxHeartbeats 2000000 in
theorem alignLeast_pf (n:Net)(w:List ByteArray)(c:Cst)(most:Int):Pure P 3 [eN n,eL eS w,eC c,eI most] (eB true):=by
 have haw:=z16 (P:=P)
 have hgr:=zv1 (P:=P) n
 have hlg:=z0b (P:=P) w
 have hmy:=z0a (P:=P) most
 have h1:=zqk (P:=P) n w c most
 have h2:=zm1 (P:=P) n w c most
 have h3:=zuu (P:=P) n w c most
 have h4:=zy6 (P:=P) n w c most
 generalize zse n=b1 at hgr
 generalize z0c w=b2 at hlg
 generalize z7u most=b3 at hmy
 generalize zdp n w c most=r1 at h1 h2
 generalize zi2 n w c most=r2 at h3 h4
 obtain⟨x1,y1⟩:=r1
 obtain⟨x2,y2⟩:=r2
 have hln:Lo 0 (.ref (eN n).cells):= .ref _ (lo_N n).cells
 have hlc:Lo 0 (.ref (eC c).cells):= .ref _ (lo_C c).cells
 refine zd1 (by rw[IsP.eq (P:=P)];exact Tryz.func3) rfl J J J J (zaj (lo_N n) (zaj (lo_W w) (zaj (lo_C c) (zaj (.s _) zba)))) (.s _) (by simp only[argF];rfl) ?_
 refine zag (zab (zad J J (zaa J) (zbt J J J J) ?_))
 refine zax (zbw (id:=0) rfl) (zax (zci (d:=4) rfl J J) ?_)
 refine zad J J (zaa J) (zbt J J J J) ?_
 refine zax (zbw (id:=1) rfl) (zax (zci (d:=6) rfl J J) ?_)
 refine zac J (zae (zag (zag (zab (zad J J (zaa J) (zai J J (haw) zaq) (zad J J (zaa J) (zbs J J) (zae (zah (zaw J (zav (zag (zag ?_))))))))))))
 cases b1 with
 |true=>
  refine zab (zby ta24 ti24 J (zad J J (zaa J) (zai J J (hgr) (zaf J zaq)) (zac J (zbb J (zbb J (zac J (zac J (zbb J (zbb J (zac J (zae (zah (za7 J (zag (zab (zac J (zae (zah ?_))))))))))))))))))
  (refine za3 ?_;repeat (first|refine zbg ?_|refine zbh ?_))
  exact zcl (.inr rfl) rfl J
 |false=>
 cases b2 with
 |true=>
  refine zab (zby ta24 ti24 J (zad J J (zaa J) (zai J J (hgr) (zaf J zaq)) (zac J (zac J (zad J J (zap J J J) (zai J J (hlg) (zaf J zaq)) (zac J (zac J (zbb J (zbb J (zac J (zae (zah (za7 J (zag (zab (zac J (zae (zah ?_))))))))))))))))))
  (refine za3 ?_;repeat (first|refine zbg ?_|refine zbh ?_))
  exact zcl (.inr rfl) rfl J
 |false=>
 cases b3 with
 |true=>
  refine zab (zby ta24 ti24 J (zad J J (zaa J) (zai J J (hgr) (zaf J zaq)) (zac J (zac J (zad J J (zap J J J) (zai J J (hlg) (zaf J zaq)) (zac J (zac J (zac J (zad J J (zap J J J) (zai J J (hmy) (zaf J zaq)) (zac J (zae (zah (za7 J (zag (zab (zac J (zae (zah ?_))))))))))))))))))
  (refine za3 ?_;repeat (first|refine zbg ?_|refine zbh ?_))
  exact zcl (.inr rfl) rfl J
 |false=>
 refine zab (zby ta24 ti24 J (zad J J (zaa J) (zai J J (hgr) (zaf J zaq)) (zac J (zac J (zad J J (zap J J J) (zai J J (hlg) (zaf J zaq)) (zac J (zac J (zac J (zad J J (zap J J J) (zai J J (hmy) (zaf J zaq)) (zac J (zae (zah (zaw J (zav (zag (zab (zby ta24 ti24 J (zac J (zby ta27 ti27 J (zac J (zad J J (zaa J) (zai J J (h1) (zaf J (zaf J (zaf J (zaf J zaq))))) ?_)))))))))))))))))))))
 refine zac J (zac J (zac J (zac J (zac J (zae (zag (zab (zby ta24 ti24 J (zac J (zby ta27 ti27 J (zac J (zad J J (zaa J) (zai J J (h2) (zaf J (zaf J (zaf J (zaf J zaq))))) (zac J (zac J (zac J (zac J (zac J (zae (zag (zab (zby ta24 ti24 J (zac J (zby ta27 ti27 J (zac J (zad J J (zaa J) (zai J J (h3) (zaf J (zaf J (zaf J (zaf J zaq))))) (zac J (zac J (zac J ?_))))))))))))))))))))))))))))
 refine zac J (zac J (zae (zag (zab (zby ta24 ti24 J (zac J (zby ta27 ti27 J (zac J (zad J J (zaa J) (zai J J (h4) (zaf J (zaf J (zaf J (zaf J zaq))))) (zac J (zac J (zac J (zac J (zac J (zae (zag (zab (zac J (zac J (zad J J (zaa J) (zbn J (zb2 J J J)) (zac J (zac J (zac J (zad J J (zap J J J) (zbn J (zb2 J J J)) (zac J (zac J (zac J (zac J (zad J J (zap J J J) (zbn J (zb2 J J J)) ?_)))))))))))))))))))))))))))))
 refine zac J (zac J (zac J (zac J (zad J J (zap J J J) (zbn J (zb2 J J J)) (zac J (zac J (zae (zah ?_))))))))
 (refine za3 ?_;repeat (first|refine zbg ?_|refine zbh ?_))
 exact zcl (.inr rfl) rfl J
end Go.Proofs.YtjdpnadhgjohnaaGreatDoor.Aw
end
