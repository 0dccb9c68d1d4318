import Derived.Test.YtohmldibkojkfaaGreatDoorJA43
set_option linter.unusedSimpArgs false
set_option linter.unusedVariables false
set_option linter.unusedSectionVars false
section
namespace Go.Proofs.YtohmldibkojkfaaGreatDoor.Aw
open Go Go.RowKit Go.Proofs Dl
variable {P : Program} [IsP P]
theorem qco_eq {a b : Net} {vs : List Vr} {c : Cst} {most : Int} (ha : wfB a = true) (hb : wfB b = true) : qcoE a vs c most = qcoE b vs c most := by
 unfold qcoE qgvE
 rw [ha, hb]
theorem zvx {n : Net} {vs : List Vr} {c : Cst} {most : Int} (h : wfB n = false) : qcoE n vs c most = 1 := by
 unfold qcoE qgvE
 rw [h]
 split
 ·
  rfl
 ·
  exact if_pos rfl
theorem fit_e {n : Net} {vs : List Vr} {c : Cst} {most : Int} (h : qcoE n vs c most = 1) : (qFitE n vs c most).e = 1 := by
 unfold qFitE
 rw [h, if_pos (by decide)]
set_option maxHeartbeats 4000000 in
theorem ztw (a b : Net) (vs : List Vr) (c : Cst) (most : Int) : Pure P 14 [eN a, eN b, eL eVr vs, eC c, eI most] (eII (betE a b vs c most)) := by
 have hR : betE a b vs c most = if qcoE a vs c most = 1 ∨ qcoE b vs c most = 1 then (0, 1) else if (qFitE a vs c most).e ≠ 0 then (0, (qFitE a vs c most).e) else if (qFitE b vs c most).e ≠ 0 then (0, (qFitE b vs c most).e)
  else if cmpN (frE (qFitE a vs c most)) (frE (qFitE b vs c most)) ≠ 0 then (cmpN (frE (qFitE a vs c most)) (frE (qFitE b vs c most)), 0) else (cmpN (frE (simE a)) (frE (simE b)), 0) := rfl
 generalize betE a b vs c most = R at hR ⊢
 have hwa := zfs (P := P) a
 have hwb := zfs (P := P) b
 have hfa := zqo (P := P) a vs c most
 have hfb := zqo (P := P) b vs c most
 have hsa := zvl (P := P) a
 have hsb := zvl (P := P) b
 have oka := @zsu a vs c most
 have okb := @zsu b vs c most
 have wa := @zr1 a
 have wb := @zr1 b
 have na := @zvx a vs c most
 have nb := @zvx b vs c most
 have hab := @qco_eq a b vs c most
 have fe := @fit_e a vs c most
 generalize wfB a = ba at hwa wa na hab
 generalize wfB b = bb at hwb wb nb hab
 generalize qcoE a vs c most = qa at hR na hab fe
 generalize qcoE b vs c most = qb at hR nb hab
 generalize qFitE a vs c most = fa at hfa hR oka fe
 generalize qFitE b vs c most = fb at hfb hR okb
 generalize simE a = sa at hsa hR wa
 generalize simE b = sb at hsb hR wb
 have hla : Lo 0 (.ref (eN a).cells) := .ref _ (lo_N a).cells
 have hlb : Lo 0 (.ref (eN b).cells) := .ref _ (lo_N b).cells
 have hlc : Lo 0 (.ref (eC c).cells) := .ref _ (lo_C c).cells
 refine zcy (by rw [IsP.eq (P := P)]; exact Tryz.func14) rfl rfl rfl rfl rfl (zaj (lo_N a) (zaj (lo_N b) (zaj (zfz vs) (zaj (lo_C c) (zaj (.s _) zbb))))) (zt5 _) (by simp only [argF]; rfl) ?_
 refine zaf (zab (zad rfl rfl (zaa rfl) (zbg rfl rfl rfl rfl) ?_))
 refine zar (zbl (id := 0) rfl) (zar (zb3 (d := 5) rfl rfl rfl) ?_)
 refine zad rfl rfl (zaa rfl) (zbg rfl rfl rfl rfl) ?_
 refine zar (zbl (id := 1) rfl) (zar (zb3 (d := 6) rfl rfl rfl) ?_)
 refine zad rfl rfl (zaa rfl) (zbg rfl rfl rfl rfl) ?_
 refine zar (zbl (id := 2) rfl) (zar (zb3 (d := 8) rfl rfl rfl) ?_)
 refine zac rfl (zac rfl (zae (zaf (zaf ?_))))
 cases ba with
 | false =>
  rw [if_pos (.inl (na rfl))] at hR
  refine zab (zbc ta24 ti24 rfl (zad rfl rfl (zaa rfl) (zai rfl rfl (hwa) (zag rfl zam)) (zad rfl rfl (zaa rfl) (zay rfl rfl) (zac rfl (za3 rfl (za3 rfl (za3 rfl (zac rfl (zae (zah (zax rfl (zaf (zab (zac rfl (zac rfl (zae (zah ?_)))))))))))))))))
  (refine zav ?_; repeat (first | refine za6 ?_ | refine za7 ?_))
  exact zer (.inr rfl) rfl rfl hR
 | true =>
 cases bb with
 | false =>
  rw [if_pos (.inr (nb rfl))] at hR
  refine zab (zbc ta24 ti24 rfl (zad rfl rfl (zaa rfl) (zai rfl rfl (hwa) (zag rfl zam)) (zad rfl rfl (zaa rfl) (zay rfl rfl) (zac rfl (zbc ta24 ti24 rfl (zad rfl rfl (zan rfl rfl rfl) (zai rfl rfl (hwb) (zag rfl zam)) (zad rfl rfl (zan rfl rfl rfl) (zay rfl rfl) (zac rfl (zae (zah (zax rfl (zaf (zab (zac rfl (zac rfl (zae (zah ?_)))))))))))))))))
  (refine zav ?_; repeat (first | refine za6 ?_ | refine za7 ?_))
  exact zer (.inr rfl) rfl rfl hR
 | true =>
 have hqq := hab rfl rfl
 subst hqq
 refine zab (zbc ta24 ti24 rfl (zad rfl rfl (zaa rfl) (zai rfl rfl (hwa) (zag rfl zam)) (zad rfl rfl (zaa rfl) (zay rfl rfl) (zac rfl (zbc ta24 ti24 rfl (zad rfl rfl (zan rfl rfl rfl) (zai rfl rfl (hwb) (zag rfl zam)) (zad rfl rfl (zan rfl rfl rfl) (zay rfl rfl) (zac rfl (zae (zah (zat rfl (zaq (zaf (zab (zbc ta24 ti24 rfl (zac rfl (zbc ta27 ti27 rfl (zac rfl (zad rfl rfl (zaa rfl) (zai rfl rfl (hfa) (zag rfl (zag rfl (zag rfl (zag rfl zam))))) ?_)))))))))))))))))))
 refine zac rfl (zac rfl (zac rfl (zad rfl rfl (zaa rfl) (zbw rfl ti32 rfl rfl) (zbz rfl (zaa rfl) (za0 rfl ti32 rfl rfl rfl rfl rfl rfl (by decide) (by decide)) (zac rfl (zae (zaf (zaf ?_))))))))
 by_cases h1 : qa = 1
 ·
  rw [if_pos (.inl h1)] at hR
  have e1 := fe h1
  refine zab (zac rfl ?_)
  refine zad rfl rfl (zaa rfl) (zbn (by rw [e1]; decide) (zbf rfl rfl rfl)) ?_
  refine zae (zah (zax rfl (zaf (zab (zac rfl (zac rfl (zac rfl (zae (zah ?_)))))))))
  (refine zav ?_; repeat (first | refine za6 ?_ | refine za7 ?_))
  exact zer (.inr rfl) rfl rfl (by rw [hR, e1])
 rw [if_neg (by rintro (h | h); exact h1 h; exact h1 h)] at hR
 by_cases h3 : fa.e ≠ 0
 ·
  rw [if_pos h3] at hR
  refine zab (zac rfl (zad rfl rfl (zaa rfl) (zbn h3 (zbf rfl rfl rfl)) (zae (zah (zax rfl (zaf (zab (zac rfl (zac rfl (zac rfl (zae (zah ?_))))))))))))
  (refine zav ?_; repeat (first | refine za6 ?_ | refine za7 ?_))
  exact zer (.inr rfl) rfl rfl hR
 rw [if_neg h3] at hR
 have e3 : fa.e = 0 := Classical.byContradiction h3
 refine zab (zac rfl (zad rfl rfl (zaa rfl) (zbj h3 (zbf rfl rfl rfl)) (zae (zah (zat rfl (zaq (zaf (zab (zbc ta24 ti24 rfl (zac rfl (zbc ta27 ti27 rfl (zac rfl (zad rfl rfl (zaa rfl) (zai rfl rfl (hfb) (zag rfl (zag rfl (zag rfl (zag rfl zam))))) (zac rfl (zac rfl (zac rfl (zad rfl rfl (zaa rfl) (zbw rfl ti32 rfl rfl) (zbz rfl (zaa rfl) (za0 rfl ti32 rfl rfl rfl rfl rfl rfl (by decide) (by decide)) (zac rfl (zae (zaf (zaf ?_))))))))))))))))))))))
 by_cases h4 : fb.e ≠ 0
 ·
  rw [if_pos h4] at hR
  refine zab (zac rfl (zad rfl rfl (zaa rfl) (zbn h4 (zbf rfl rfl rfl)) (zae (zah (zax rfl (zaf (zab (zac rfl (zac rfl (zac rfl (zae (zah ?_))))))))))))
  (refine zav ?_; repeat (first | refine za6 ?_ | refine za7 ?_))
  exact zer (.inr rfl) rfl rfl hR
 rw [if_neg h4] at hR
 have e4 : fb.e = 0 := Classical.byContradiction h4
 have hc1 := zvt (P := P) (frE fa) (frE fb) (oka e3) (okb e4)
 have hc2 := zvt (P := P) (frE sa) (frE sb) (wa rfl) (wb rfl)
 generalize cmpN (frE fa) (frE fb) = z at hc1 hR
 generalize cmpN (frE sa) (frE sb) = s at hc2 hR
 obtain ⟨fan, fad, fae⟩ := fa
 obtain ⟨fbn, fbd, fbe⟩ := fb
 obtain ⟨san, sad, sae⟩ := sa
 obtain ⟨sbn, sbd, sbe⟩ := sb
 refine zab (zac rfl (zad rfl rfl (zaa rfl) (zbj h4 (zbf rfl rfl rfl)) (zae (zah (zat rfl (zaq (zaf (zab (zad rfl rfl (zaa rfl) (zb0 rfl ta32 ti32 rfl rfl rfl rfl rfl) (zad rfl rfl (zaa rfl) (zb0 rfl ta32 ti32 rfl rfl rfl rfl rfl) (zad rfl rfl (zaa rfl) (zai rfl rfl (hc1) (zag rfl (zag rfl zam))) (zac rfl (zae (zaf (zaf ?_)))))))))))))))
 by_cases h5 : z ≠ 0
 ·
  rw [if_pos h5] at hR
  refine zab (zac rfl (zad rfl rfl (zaa rfl) (zbn h5 (zbf rfl rfl rfl)) (zae (zah (zax rfl (zaf (zab (zac rfl (zac rfl (zac rfl (zae (zah ?_))))))))))))
  (refine zav ?_; repeat (first | refine za6 ?_ | refine za7 ?_))
  exact zer (.inr rfl) rfl rfl hR
 rw [if_neg h5] at hR
 refine zab (zac rfl (zad rfl rfl (zaa rfl) (zbj h5 (zbf rfl rfl rfl)) (zae (zah (zat rfl (zaq (zaf (zab (zbc ta24 ti24 rfl (zad rfl rfl (zaa rfl) (zai rfl rfl (hsa) (zag rfl zam)) (zac rfl (zac rfl (zac rfl (zad rfl rfl (zaa rfl) (zbw rfl ti32 rfl rfl) (zbz rfl (zaa rfl) (za0 rfl ti32 rfl rfl rfl rfl rfl rfl (by decide) (by decide)) (zac rfl (zae (zaf (zab (zbc ta24 ti24 rfl (zad rfl rfl (zaa rfl) (zai rfl rfl (hsb) (zag rfl zam)) ?_)))))))))))))))))))))
 refine zac rfl (zac rfl (zac rfl (zad rfl rfl (zaa rfl) (zbw rfl ti32 rfl rfl) (zbz rfl (zaa rfl) (za0 rfl ti32 rfl rfl rfl rfl rfl rfl (by decide) (by decide)) (zac rfl (zae (zaf (zab (zad rfl rfl (zaa rfl) (zb0 rfl ta32 ti32 rfl rfl rfl rfl rfl) (zad rfl rfl (zaa rfl) (zb0 rfl ta32 ti32 rfl rfl rfl rfl rfl) (zad rfl rfl (zaa rfl) (zai rfl rfl (hc2) (zag rfl (zag rfl zam))) (zac rfl (zac rfl (zae (zah ?_)))))))))))))))
 (refine zav ?_; repeat (first | refine za6 ?_ | refine za7 ?_))
 exact zer (.inr rfl) rfl rfl hR
theorem bet_bd (a b : Net) (vs : List Vr) (c : Cst) (most : Int) : -1 ≤ (betE a b vs c most).1 ∧ (betE a b vs c most).1 ≤ 1 := by
 have hc : ∀ x y : Fr, -1 ≤ cmpN x y ∧ cmpN x y ≤ 1 := fun x y => by
  unfold cmpN
  split
  ·
   decide
  ·
   split <;> decide
 unfold betE
 have h0 : -1 ≤ (0 : Int) ∧ (0 : Int) ≤ 1 := by decide
 split
 ·
  exact h0
 ·
  split
  ·
   exact h0
  ·
   split
   ·
    exact h0
   ·
    split
    ·
     exact hc _ _
    ·
     exact hc _ _
theorem qualityBetter_pf (a b : Net) (vs : List Vr) (c : Cst) (most : Int) : Pure P 4 [eN a, eN b, eL eVr vs, eC c, eI most] (eB true) := by
 have haw := zx3 (P := P)
 have hga := znu (P := P) a
 have hgb := znu (P := P) b
 have hmy := zwr (P := P) vs most
 have hB := zp2 (P := P) a b vs c most
 have hR := ztw (P := P) a b vs c most
 have hS := zp2 (P := P) b a vs c most
 have hsw := bet_sw a b vs c most
 have hbd := bet_bd a b vs c most
 generalize zmx a = b1 at hga
 generalize zmx b = b2 at hgb
 generalize zws vs most = b3 at hmy
 generalize betE a b vs c most = r at hB hR hsw hbd
 generalize betE b a vs c most = q at hS hsw
 obtain ⟨r1, r2⟩ := r
 obtain ⟨q1, q2⟩ := q
 obtain ⟨hs1, hs2⟩ := hsw
 replace hs1 : q1 = -r1 := hs1
 have hs1' : q1 = 0 - r1 := by omega
 replace hs2 : q2 = 0 ↔ r2 = 0 := hs2
 replace hbd : -1 ≤ r1 ∧ r1 ≤ 1 := hbd
 have hla : Lo 0 (.ref (eN a).cells) := .ref _ (lo_N a).cells
 have hlb : Lo 0 (.ref (eN b).cells) := .ref _ (lo_N b).cells
 have hlc : Lo 0 (.ref (eC c).cells) := .ref _ (lo_C c).cells
 refine zcy (by rw [IsP.eq (P := P)]; exact Tryz.func4) rfl rfl rfl rfl rfl (zaj (lo_N a) (zaj (lo_N b) (zaj (zfz vs) (zaj (lo_C c) (zaj (.s _) zbb))))) (.s _) (by simp only [argF]; rfl) ?_
 refine zaf (zab (zad rfl rfl (zaa rfl) (zbg rfl rfl rfl rfl) ?_))
 refine zar (zbl (id := 0) rfl) (zar (zb3 (d := 5) rfl rfl rfl) ?_)
 refine zad rfl rfl (zaa rfl) (zbg rfl rfl rfl rfl) ?_
 refine zar (zbl (id := 1) rfl) (zar (zb3 (d := 6) rfl rfl rfl) ?_)
 refine zad rfl rfl (zaa rfl) (zbg rfl rfl rfl rfl) ?_
 refine zar (zbl (id := 2) rfl) (zar (zb3 (d := 8) rfl rfl rfl) ?_)
 refine zac rfl (zae (zaf (zaf (zab (zad rfl rfl (zaa rfl) (zai rfl rfl (haw) zam) (zad rfl rfl (zaa rfl) (zay rfl rfl) (zae (zah (zat rfl (zaq (zaf (zaf ?_))))))))))))
 cases b1 with
 | true =>
  refine zab (zbc ta24 ti24 rfl (zad rfl rfl (zaa rfl) (zai rfl rfl (hga) (zag rfl zam)) (zac rfl (za3 rfl (za3 rfl (zac rfl (zac rfl (za3 rfl (za3 rfl (za3 rfl (zac rfl (zae (zah (zax rfl (zaf (zab (zac rfl (zae (zah ?_)))))))))))))))))))
  (refine zav ?_; repeat (first | refine za6 ?_ | refine za7 ?_))
  exact zbq (.inr rfl) rfl rfl
 | false =>
 cases b2 with
 | true =>
  refine zab (zbc ta24 ti24 rfl (zad rfl rfl (zaa rfl) (zai rfl rfl (hga) (zag rfl zam)) (zac rfl (zbc ta24 ti24 rfl (zad rfl rfl (zan rfl rfl rfl) (zai rfl rfl (hgb) (zag rfl zam)) (zac rfl (zac rfl (za3 rfl (za3 rfl (za3 rfl (zac rfl (zae (zah (zax rfl (zaf (zab (zac rfl (zae (zah ?_)))))))))))))))))))
  (refine zav ?_; repeat (first | refine za6 ?_ | refine za7 ?_))
  exact zbq (.inr rfl) rfl rfl
 | false =>
 cases b3 with
 | true =>
  refine zab (zbc ta24 ti24 rfl (zad rfl rfl (zaa rfl) (zai rfl rfl (hga) (zag rfl zam)) (zac rfl (zbc ta24 ti24 rfl (zad rfl rfl (zan rfl rfl rfl) (zai rfl rfl (hgb) (zag rfl zam)) (zac rfl (zac rfl (zac rfl (zac rfl (zad rfl rfl (zan rfl rfl rfl) (zai rfl rfl (hmy) (zag rfl (zag rfl zam))) (zac rfl (zae (zah (zax rfl (zaf (zab (zac rfl (zae (zah ?_)))))))))))))))))))
  (refine zav ?_; repeat (first | refine za6 ?_ | refine za7 ?_))
  exact zbq (.inr rfl) rfl rfl
 | false =>
 refine zab (zbc ta24 ti24 rfl (zad rfl rfl (zaa rfl) (zai rfl rfl (hga) (zag rfl zam)) (zac rfl (zbc ta24 ti24 rfl (zad rfl rfl (zan rfl rfl rfl) (zai rfl rfl (hgb) (zag rfl zam)) (zac rfl (zac rfl (zac rfl (zac rfl (zad rfl rfl (zan rfl rfl rfl) (zai rfl rfl (hmy) (zag rfl (zag rfl zam))) (zac rfl (zae (zah (zat rfl (zaq (zaf (zab (zbc ta24 ti24 rfl (zbc ta24 ti24 rfl (zac rfl (zbc ta27 ti27 rfl (zac rfl (zad rfl rfl (zaa rfl) (zai rfl rfl (hB) (zag rfl (zag rfl (zag rfl (zag rfl (zag rfl zam)))))) ?_)))))))))))))))))))))))
 refine zac rfl (zac rfl (zac rfl (zac rfl (zac rfl (zae (zaf (zab (zbc ta24 ti24 rfl (zbc ta24 ti24 rfl (zac rfl (zbc ta27 ti27 rfl (zac rfl (zad rfl rfl (zaa rfl) (zai rfl rfl (hR) (zag rfl (zag rfl (zag rfl (zag rfl (zag rfl zam)))))) (zac rfl (zac rfl (zac rfl (zac rfl (zac rfl (zae (zaf (zab (zbc ta24 ti24 rfl (zbc ta24 ti24 rfl (zac rfl (zbc ta27 ti27 rfl (zac rfl (zad rfl rfl (zaa rfl) (zai rfl rfl (hS) (zag rfl (zag rfl (zag rfl (zag rfl (zag rfl zam)))))) ?_)))))))))))))))))))))))))))
 refine zac rfl (zac rfl (zac rfl (zac rfl (zac rfl (zae (zaf ?_))))))
 by_cases he : r2 = 0
 ·
  have he2 := hs2.2 he
  refine zab (zac rfl (zac rfl (zad rfl rfl (zaa rfl) (zbn rfl (zb5 rfl rfl rfl)) (zac rfl (zac rfl (zac rfl (zad rfl rfl (zan rfl rfl rfl) (zbn rfl (zb5 rfl rfl rfl)) (zac rfl (zac rfl (zac rfl (zad rfl rfl (zan rfl rfl rfl) (zbn he2 (zb5 rfl rfl rfl)) (zac rfl (zad rfl rfl (zan rfl rfl rfl) (zbn he (zb5 rfl rfl rfl)) ?_)))))))))))))
  refine zad rfl rfl (zan rfl rfl rfl) (zpx (by rw [IsP.eq (P := P)]; kernel_rfl) rfl rfl rfl) ?_
  refine zac rfl (zac rfl (zac rfl (zac rfl (zad rfl rfl (zan rfl rfl rfl) (zs2 rfl rfl (IntWalk.i64_in _ (by omega))) (zad rfl rfl (zan rfl rfl rfl) (zbn hs1' (zb5 rfl rfl rfl)) (zac rfl (zac rfl (zae (zah ?_)))))))))
  (refine zav ?_; repeat (first | refine za6 ?_ | refine za7 ?_))
  exact zbq (.inr rfl) rfl rfl
 ·
  have he2 : ¬ q2 = 0 := fun h => he (hs2.1 h)
  refine zab (zac rfl (zac rfl (zad rfl rfl (zaa rfl) (zbn rfl (zb5 rfl rfl rfl)) (zac rfl (zac rfl (zac rfl (zad rfl rfl (zan rfl rfl rfl) (zbn rfl (zb5 rfl rfl rfl)) (zac rfl (zac rfl (zac rfl (zad rfl rfl (zan rfl rfl rfl) (zbj he2 (zb5 rfl rfl rfl)) (zac rfl (zad rfl rfl (zan rfl rfl rfl) (zbj he (zb5 rfl rfl rfl)) ?_)))))))))))))
  refine zad rfl rfl (zan rfl rfl rfl) (zpx (by rw [IsP.eq (P := P)]; kernel_rfl) rfl rfl rfl) ?_
  refine zac rfl (zac rfl (zac rfl (zac rfl (zad rfl rfl (zan rfl rfl rfl) (zs2 rfl rfl (IntWalk.i64_in _ (by omega))) (zad rfl rfl (zan rfl rfl rfl) (zbn hs1' (zb5 rfl rfl rfl)) (zac rfl (zac rfl (zae (zah ?_)))))))))
  (refine zav ?_; repeat (first | refine za6 ?_ | refine za7 ?_))
  exact zbq (.inr rfl) rfl rfl
end Go.Proofs.YtohmldibkojkfaaGreatDoor.Aw
end
