import Derived.Test.YtohmldibkojkfaaGreatDoorJA41
set_option linter.unusedSimpArgs false
set_option linter.unusedVariables false
set_option linter.unusedSectionVars false
section
namespace Go.Proofs.YtohmldibkojkfaaGreatDoor.Aw
open Go Go.RowKit Go.Proofs Dl
variable {P : Program} [IsP P]
theorem qualityFitness_pf (n : Net) (vs : List Vr) (c : Cst) (most : Int) : Pure P 3 [eN n, eL eVr vs, eC c, eI most] (eB true) := by
 have haw := zx3 (P := P)
 have hgr := znu (P := P) n
 have hmy := zwr (P := P) vs most
 have hF := zst (P := P) n vs c most
 have hR := zqo (P := P) n vs c most
 generalize zmx n = b1 at hgr
 generalize zws vs most = b2 at hmy
 generalize qFitE n vs c most = r at hF hR
 obtain ⟨rn, rd, re⟩ := r
 have hln : Lo 0 (.ref (eN n).cells) := .ref _ (lo_N n).cells
 have hlc : Lo 0 (.ref (eC c).cells) := .ref _ (lo_C c).cells
 refine zcy (by rw [IsP.eq (P := P)]; exact Tryz.func3) rfl rfl rfl rfl rfl (zaj (lo_N n) (zaj (zfz vs) (zaj (lo_C c) (zaj (.s _) zbb)))) (.s _) (by simp only [argF]; rfl) ?_
 refine zaf (zab (zad rfl rfl (zaa rfl) (zbg rfl rfl rfl rfl) ?_))
 refine zar (zbl (id := 0) rfl) (zar (zb3 (d := 4) rfl rfl rfl) ?_)
 refine zad rfl rfl (zaa rfl) (zbg rfl rfl rfl rfl) ?_
 refine zar (zbl (id := 1) rfl) (zar (zb3 (d := 6) rfl rfl rfl) ?_)
 refine zac rfl (zae (zaf (zaf (zab (zad rfl rfl (zaa rfl) (zai rfl rfl (haw) zam) (zad rfl rfl (zaa rfl) (zay rfl rfl) (zae (zah (zat rfl (zaq (zaf (zaf ?_))))))))))))
 cases b1 with
 | true =>
  refine zab (zbc ta24 ti24 rfl (zad rfl rfl (zaa rfl) (zai rfl rfl (hgr) (zag rfl zam)) (zac rfl (za3 rfl (za3 rfl (za3 rfl (zac rfl (zae (zah (zax rfl (zaf (zab (zac rfl (zae (zah ?_)))))))))))))))
  (refine zav ?_; repeat (first | refine za6 ?_ | refine za7 ?_))
  exact zbq (.inr rfl) rfl rfl
 | false =>
 cases b2 with
 | true =>
  refine zab (zbc ta24 ti24 rfl (zad rfl rfl (zaa rfl) (zai rfl rfl (hgr) (zag rfl zam)) (zac rfl (zac rfl (zac rfl (zad rfl rfl (zan rfl rfl rfl) (zai rfl rfl (hmy) (zag rfl (zag rfl zam))) (zac rfl (zae (zah (zax rfl (zaf (zab (zac rfl (zae (zah ?_)))))))))))))))
  (refine zav ?_; repeat (first | refine za6 ?_ | refine za7 ?_))
  exact zbq (.inr rfl) rfl rfl
 | false =>
 refine zab (zbc ta24 ti24 rfl (zad rfl rfl (zaa rfl) (zai rfl rfl (hgr) (zag rfl zam)) (zac rfl (zac rfl (zac rfl (zad rfl rfl (zan rfl rfl rfl) (zai rfl rfl (hmy) (zag rfl (zag rfl zam))) (zac rfl (zae (zah (zat rfl (zaq (zaf (zab (zbc ta24 ti24 rfl (zac rfl (zbc ta27 ti27 rfl (zac rfl (zad rfl rfl (zaa rfl) (zai rfl rfl (hF) (zag rfl (zag rfl (zag rfl (zag rfl zam))))) (zac rfl (zac rfl (zac rfl (zad rfl rfl (zaa rfl) (zbw rfl ti32 rfl rfl) ?_))))))))))))))))))))))
 refine zbz rfl (zaa rfl) (za0 rfl ti32 rfl rfl rfl rfl rfl rfl (by decide) (by decide)) (zac rfl (zae (zaf (zab (zbc ta24 ti24 rfl (zac rfl (zbc ta27 ti27 rfl (zac rfl (zad rfl rfl (zaa rfl) (zai rfl rfl (hR) (zag rfl (zag rfl (zag rfl (zag rfl zam))))) (zac rfl (zac rfl (zac rfl (zad rfl rfl (zaa rfl) (zbw rfl ti32 rfl rfl) (zbz rfl (zaa rfl) (za0 rfl ti32 rfl rfl rfl rfl rfl rfl (by decide) (by decide)) (zac rfl (zae (zaf (zab (zad rfl rfl (zaa rfl) (zb0 rfl ta32 ti32 rfl rfl rfl rfl rfl) ?_)))))))))))))))))))
 refine zad rfl rfl (zaa rfl) (zb0 rfl ta32 ti32 rfl rfl rfl rfl rfl) ?_
 refine zad rfl rfl (zaa rfl) (zxu (by rfl) (zn3 rfl rfl rfl te32 rfl rfl rfl)) ?_
 refine zac rfl (zac rfl (zac rfl (zad rfl rfl (zan rfl rfl rfl) (zbn rfl (zb5 rfl rfl rfl)) (zac rfl (zac rfl (zae (zah ?_)))))))
 (refine zav ?_; repeat (first | refine za6 ?_ | refine za7 ?_))
 exact zbq (.inr rfl) rfl rfl
end Go.Proofs.YtohmldibkojkfaaGreatDoor.Aw
end
