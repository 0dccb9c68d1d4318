import Derived.Test.YtohmldibkojkfaaGreatDoorJA42
import Derived.Test.YtohmldibkojkfaaGreatDoorJA1
set_option linter.unusedSimpArgs false
set_option linter.unusedVariables false
set_option linter.unusedSectionVars false
section
namespace Go.Proofs.YtohmldibkojkfaaGreatDoor.Aw
open Go Go.RowKit Go.Proofs Dl
variable {P : Program} [IsP P]
def frE (r : FE) : Fr := ⟨r.n, r.d⟩
theorem zwt {n d : Int} (h : (zej n d).e = 0) : (frE (zej n d)).ok := by
 unfold zej at h ⊢
 by_cases hd : d = 0
 ·
  rw [if_pos hd] at h; cases h
 ·
  rw [if_neg hd] at h ⊢
  cases hm : mkF n d with
  | none => rw [hm] at h; cases h
  | some a => exact mkF_ok hd hm
theorem zwu {n d : Int} (h1 : 0 ≤ n ∧ n ≤ 1000000) (h2 : 0 < d ∧ d ≤ 1000000) : (zej n d).e = 0 := by
 unfold zej
 rw [if_neg (by omega)]
 have hb := nf_bd (n := n) (d := d) (B := 1000000) h2.1 (by omega) h1.2 h2.2
 unfold mkF
 rw [if_pos (by unfold Fr.fits; exact decide_eq_true ⟨by omega, by omega, by omega⟩)]
 rfl
theorem zsu {n : Net} {vs : List Vr} {c : Cst} {most : Int} (h : (qFitE n vs c most).e = 0) : (frE (qFitE n vs c most)).ok := by
 unfold qFitE at h ⊢
 by_cases h1 : qcoE n vs c most ≠ 0
 ·
  rw [if_pos h1] at h; exact absurd h h1
 ·
  rw [if_neg h1] at h ⊢
  by_cases h2 : (zdk n c most vs 0 0).2.2 ≠ 0
  ·
   rw [if_pos h2] at h; exact absurd h h2
  ·
   rw [if_neg h2] at h ⊢
   by_cases h3 : (zdk n c most vs 0 0).2.1 = 0
   ·
    rw [if_pos h3] at h; cases h
   ·
    rw [if_neg h3] at h ⊢
    exact zwt h
theorem zr1 {n : Net} (h : wfB n = true) : (frE (simE n)).ok := by
 obtain ⟨⟨h1, h2, h3⟩, htr⟩ := zu3 h
 have hbd := zjg n.trans (by simpa using ziw htr 0)
 have hs : simE n = zej (n.places + n.trans.length) (n.places + n.trans.length + zf3 n.trans) := by unfold simE; rw [h, if_neg (by decide)]
 rw [hs]
 exact zwt (zwu (by omega) (by omega))
noncomputable def betE (a b : Net) (vs : List Vr) (c : Cst) (most : Int) : Int × Int :=
 if qcoE a vs c most = 1 ∨ qcoE b vs c most = 1 then (0, 1) else if (qFitE a vs c most).e ≠ 0 then (0, (qFitE a vs c most).e) else if (qFitE b vs c most).e ≠ 0 then (0, (qFitE b vs c most).e)
 else if cmpN (frE (qFitE a vs c most)) (frE (qFitE b vs c most)) ≠ 0 then (cmpN (frE (qFitE a vs c most)) (frE (qFitE b vs c most)), 0) else (cmpN (frE (simE a)) (frE (simE b)), 0)
theorem zxx (a b : Fr) : cmpN b a = -cmpN a b := by
 have h1 : cmpN a b = if a.n * b.d < b.n * a.d then -1 else if b.n * a.d < a.n * b.d then 1 else 0 := rfl
 have h2 : cmpN b a = if b.n * a.d < a.n * b.d then -1 else if a.n * b.d < b.n * a.d then 1 else 0 := rfl
 rw [h1, h2]
 generalize a.n * b.d = x
 generalize b.n * a.d = y
 by_cases k1 : x < y
 ·
  rw [if_pos k1, if_pos k1, if_neg (by omega)]; rfl
 ·
  rw [if_neg k1, if_neg k1]
  by_cases k2 : y < x
  ·
   rw [if_pos k2, if_pos k2]
  ·
   rw [if_neg k2, if_neg k2]; rfl
theorem bet_sw (a b : Net) (vs : List Vr) (c : Cst) (most : Int) : (betE b a vs c most).1 = -(betE a b vs c most).1 ∧ ((betE b a vs c most).2 = 0 ↔ (betE a b vs c most).2 = 0) := by
 unfold betE
 rw [zxx (frE (qFitE a vs c most)), zxx (frE (simE a))]
 generalize qcoE a vs c most = x
 generalize qcoE b vs c most = y
 generalize cmpN (frE (qFitE a vs c most)) (frE (qFitE b vs c most)) = z
 generalize (qFitE a vs c most).e = u
 generalize (qFitE b vs c most).e = v
 generalize cmpN (frE (simE a)) (frE (simE b)) = s
 by_cases h1 : x = 1 ∨ y = 1
 ·
  rw [if_pos h1, if_pos h1.symm]; exact ⟨rfl, Iff.rfl⟩
 rw [if_neg h1, if_neg (fun h => h1 h.symm)]
 by_cases hu : u = 0 <;> by_cases hv : v = 0 <;> by_cases hz : z = 0 <;> simp [hu, hv, hz]
theorem zer {F : Frm} {σ : List Ob} {R : Int × Int} {e : Exit} {k m : Int} (he : e = .normal ∨ e = .ret) (h2 : F.get 10 = eI k) (h3 : F.get 11 = eI m) (hR : R = (k, m)) : zj1 P [.tmp 10, .tmp 11] (eII R) e F σ := by
 subst hR
 exact ⟨he, [eI k, eI m], .cons _ _ _ _ (.tmp _ _ h2) (.cons _ _ _ _ (.tmp _ _ h3) .nil), .refl _⟩
theorem zxg {n : Net} {vs : List Vr} {c : Cst} {most : Int} (h : (qFitE n vs c most).e = 0) : qcoE n vs c most = 0 := by
 unfold qFitE at h
 by_cases h1 : qcoE n vs c most ≠ 0
 ·
  rw [if_pos h1] at h; exact absurd h h1
 ·
  exact Classical.byContradiction h1
set_option maxHeartbeats 4000000 in
theorem zp2 (a b : Net) (vs : List Vr) (c : Cst) (most : Int) : Pure P 13 [eN a, eN b, eL eVr vs, eC c, eI most] (eII (betE a b vs c most)) := by
 have hR : betE a b vs c most = if qcoE a vs c most = 1 ∨ qcoE b vs c most = 1 then (0, 1) else if (qFitE a vs c most).e ≠ 0 then (0, (qFitE a vs c most).e) else if (qFitE b vs c most).e ≠ 0 then (0, (qFitE b vs c most).e)
  else if cmpN (frE (qFitE a vs c most)) (frE (qFitE b vs c most)) ≠ 0 then (cmpN (frE (qFitE a vs c most)) (frE (qFitE b vs c most)), 0) else (cmpN (frE (simE a)) (frE (simE b)), 0) := rfl
 generalize betE a b vs c most = R at hR ⊢
 have hqa := zlq (P := P) a vs c most
 have hqb := zlq (P := P) b vs c most
 have hfa := zst (P := P) a vs c most
 have hfb := zst (P := P) b vs c most
 have hsa := zu4 (P := P) a
 have hsb := zu4 (P := P) b
 have oka := @zsu a vs c most
 have okb := @zsu b vs c most
 have qa0 := @zxg a vs c most
 have qb0 := @zxg b vs c most
 have wa := fun h => zr1 (n := a) (zr8 (n := a) (vs := vs) (c := c) (most := most) h).2.2.1
 have wb := fun h => zr1 (n := b) (zr8 (n := b) (vs := vs) (c := c) (most := most) h).2.2.1
 generalize qcoE a vs c most = qa at hqa hR qa0 wa
 generalize qcoE b vs c most = qb at hqb hR qb0 wb
 generalize qFitE a vs c most = fa at hfa hR oka qa0
 generalize qFitE b vs c most = fb at hfb hR okb qb0
 generalize simE a = sa at hsa hR wa
 generalize simE b = sb at hsb hR wb
 have hla : Lo 0 (.ref (eN a).cells) := .ref _ (lo_N a).cells
 have hlb : Lo 0 (.ref (eN b).cells) := .ref _ (lo_N b).cells
 have hlc : Lo 0 (.ref (eC c).cells) := .ref _ (lo_C c).cells
 refine zcy (by rw [IsP.eq (P := P)]; exact Tryz.func13) rfl rfl rfl rfl rfl (zaj (lo_N a) (zaj (lo_N b) (zaj (zfz vs) (zaj (lo_C c) (zaj (.s _) zbb))))) (zt5 _) (by simp only [argF]; rfl) ?_
 refine zaf (zab (zad rfl rfl (zaa rfl) (zbg rfl rfl rfl rfl) ?_))
 refine zar (zbl (id := 0) rfl) (zar (zb3 (d := 5) rfl rfl rfl) ?_)
 refine zad rfl rfl (zaa rfl) (zbg rfl rfl rfl rfl) ?_
 refine zar (zbl (id := 1) rfl) (zar (zb3 (d := 6) rfl rfl rfl) ?_)
 refine zad rfl rfl (zaa rfl) (zbg rfl rfl rfl rfl) ?_
 refine zar (zbl (id := 2) rfl) (zar (zb3 (d := 8) rfl rfl rfl) ?_)
 refine zac rfl (zac rfl (zae (zaf (zaf ?_))))
 by_cases h1 : qa = 1 ∨ qb = 1
 ·
  rw [if_pos h1] at hR
  by_cases h2 : qa = 1
  ·
   refine zab (zbc ta24 ti24 rfl (zac rfl (zbc ta27 ti27 rfl (zac rfl (zad rfl rfl (zaa rfl) (zai rfl rfl (hqa) (zag rfl (zag rfl (zag rfl (zag rfl zam))))) (zad rfl rfl (zaa rfl) (zbn h2 (zb5 rfl rfl rfl)) (zac rfl (za3 rfl (za3 rfl (za3 rfl (za3 rfl (za3 rfl (za3 rfl (zac rfl (zae (zah (zax rfl (zaf (zab (zac rfl (zac rfl (zae (zah ?_)))))))))))))))))))))))
   (refine zav ?_; repeat (first | refine za6 ?_ | refine za7 ?_))
   exact zer (.inr rfl) rfl rfl hR
  ·
   refine zab (zbc ta24 ti24 rfl (zac rfl (zbc ta27 ti27 rfl (zac rfl (zad rfl rfl (zaa rfl) (zai rfl rfl (hqa) (zag rfl (zag rfl (zag rfl (zag rfl zam))))) (zad rfl rfl (zaa rfl) (zbj h2 (zb5 rfl rfl rfl)) (zac rfl (zbc ta24 ti24 rfl (zac rfl (zbc ta27 ti27 rfl (zac rfl (zad rfl rfl (zan rfl rfl rfl) (zai rfl rfl (hqb) (zag rfl (zag rfl (zag rfl (zag rfl zam))))) (zad rfl rfl (zan rfl rfl rfl) (zbn (h1.resolve_left h2) (zb5 rfl rfl rfl)) (zac rfl (zae (zah ?_))))))))))))))))
   refine zax rfl (zaf (zab (zac rfl (zac rfl (zae (zah ?_))))))
   (refine zav ?_; repeat (first | refine za6 ?_ | refine za7 ?_))
   exact zer (.inr rfl) rfl rfl hR
 rw [if_neg h1] at hR
 refine zab (zbc ta24 ti24 rfl (zac rfl (zbc ta27 ti27 rfl (zac rfl (zad rfl rfl (zaa rfl) (zai rfl rfl (hqa) (zag rfl (zag rfl (zag rfl (zag rfl zam))))) ?_)))))
 refine zad rfl rfl (zaa rfl) (zbj (fun h => h1 (.inl h)) (zb5 rfl rfl rfl)) ?_
 refine zac rfl (zbc ta24 ti24 rfl (zac rfl (zbc ta27 ti27 rfl (zac rfl (zad rfl rfl (zan rfl rfl rfl) (zai rfl rfl (hqb) (zag rfl (zag rfl (zag rfl (zag rfl zam))))) ?_)))))
 refine zad rfl rfl (zan rfl rfl rfl) (zbj (fun h => h1 (.inr h)) (zb5 rfl rfl rfl)) ?_
 refine zac rfl (zae (zah (zat rfl (zaq (zaf (zab (zbc ta24 ti24 rfl (zac rfl (zbc ta27 ti27 rfl (zac rfl (zad rfl rfl (zaa rfl) (zai rfl rfl (hfa) (zag rfl (zag rfl (zag rfl (zag rfl zam))))) (zac rfl (zac rfl (zac rfl (zad rfl rfl (zaa rfl) (zbw rfl ti32 rfl rfl) (zbz rfl (zaa rfl) (za0 rfl ti32 rfl rfl rfl rfl rfl rfl (by decide) (by decide)) (zac rfl (zae (zaf (zaf ?_))))))))))))))))))))
 by_cases h3 : fa.e ≠ 0
 ·
  rw [if_pos h3] at hR
  refine zab (zac rfl (zad rfl rfl (zaa rfl) (zbn h3 (zbf rfl rfl rfl)) (zae (zah (zax rfl (zaf (zab (zac rfl (zac rfl (zac rfl (zae (zah ?_))))))))))))
  (refine zav ?_; repeat (first | refine za6 ?_ | refine za7 ?_))
  exact zer (.inr rfl) rfl rfl hR
 rw [if_neg h3] at hR
 have e3 : fa.e = 0 := Classical.byContradiction h3
 refine zab (zac rfl (zad rfl rfl (zaa rfl) (zbj h3 (zbf rfl rfl rfl)) (zae (zah (zat rfl (zaq (zaf (zab (zbc ta24 ti24 rfl (zac rfl (zbc ta27 ti27 rfl (zac rfl (zad rfl rfl (zaa rfl) (zai rfl rfl (hfb) (zag rfl (zag rfl (zag rfl (zag rfl zam))))) (zac rfl (zac rfl (zac rfl (zad rfl rfl (zaa rfl) (zbw rfl ti32 rfl rfl) (zbz rfl (zaa rfl) (za0 rfl ti32 rfl rfl rfl rfl rfl rfl (by decide) (by decide)) (zac rfl (zae (zaf (zaf ?_))))))))))))))))))))))
 by_cases h4 : fb.e ≠ 0
 ·
  rw [if_pos h4] at hR
  refine zab (zac rfl (zad rfl rfl (zaa rfl) (zbn h4 (zbf rfl rfl rfl)) (zae (zah (zax rfl (zaf (zab (zac rfl (zac rfl (zac rfl (zae (zah ?_))))))))))))
  (refine zav ?_; repeat (first | refine za6 ?_ | refine za7 ?_))
  exact zer (.inr rfl) rfl rfl hR
 rw [if_neg h4] at hR
 have e4 : fb.e = 0 := Classical.byContradiction h4
 have hc1 := zxk (P := P) (frE fa) (frE fb)
 unfold cmpE at hc1
 rw [Fr.okB_of (oka e3), Fr.okB_of (okb e4)] at hc1
 replace hc1 : Pure P 40 [eF (frE fa), eF (frE fb)] (.tup [eI (cmpN (frE fa) (frE fb)), eI 0]) := hc1
 have hc2 := zxk (P := P) (frE sa) (frE sb)
 unfold cmpE at hc2
 rw [Fr.okB_of (wa (qa0 e3)), Fr.okB_of (wb (qb0 e4))] at hc2
 replace hc2 : Pure P 40 [eF (frE sa), eF (frE sb)] (.tup [eI (cmpN (frE sa) (frE sb)), eI 0]) := hc2
 generalize cmpN (frE fa) (frE fb) = z at hc1 hR
 generalize cmpN (frE sa) (frE sb) = s at hc2 hR
 obtain ⟨fan, fad, fae⟩ := fa
 obtain ⟨fbn, fbd, fbe⟩ := fb
 obtain ⟨san, sad, sae⟩ := sa
 obtain ⟨sbn, sbd, sbe⟩ := sb
 refine zab (zac rfl (zad rfl rfl (zaa rfl) (zbj h4 (zbf rfl rfl rfl)) (zae (zah (zat rfl (zaq (zaf (zab (zad rfl rfl (zaa rfl) (zb0 rfl ta32 ti32 rfl rfl rfl rfl rfl) (zad rfl rfl (zaa rfl) (zb0 rfl ta32 ti32 rfl rfl rfl rfl rfl) (zad rfl rfl (zaa rfl) (zai rfl rfl (hc1) (zag rfl (zag rfl zam))) (zac rfl (zac rfl (zac rfl (zac rfl (zac rfl (zae (zaf (zaf ?_)))))))))))))))))))
 by_cases h5 : z ≠ 0
 ·
  rw [if_pos h5] at hR
  refine zab (zac rfl (zad rfl rfl (zaa rfl) (zbn h5 (zbf rfl rfl rfl)) (zae (zah (zax rfl (zaf (zab (zac rfl (zac rfl (zac rfl (zae (zah ?_))))))))))))
  (refine zav ?_; repeat (first | refine za6 ?_ | refine za7 ?_))
  exact zer (.inr rfl) rfl rfl hR
 rw [if_neg h5] at hR
 refine zab (zac rfl (zad rfl rfl (zaa rfl) (zbj h5 (zbf rfl rfl rfl)) (zae (zah (zat rfl (zaq (zaf (zab (zbc ta24 ti24 rfl (zad rfl rfl (zaa rfl) (zai rfl rfl (hsa) (zag rfl zam)) (zac rfl (zac rfl (zac rfl (zbz rfl (zaa rfl) (za0 rfl ti32 rfl rfl rfl rfl rfl rfl (by decide) (by decide)) (zae (zaf (zab (zbc ta24 ti24 rfl (zad rfl rfl (zaa rfl) (zai rfl rfl (hsb) (zag rfl zam)) (zac rfl (zac rfl (zac rfl (zbz rfl (zaa rfl) (za0 rfl ti32 rfl rfl rfl rfl rfl rfl (by decide) (by decide)) ?_)))))))))))))))))))))))
 refine zae (zaf (zab (zad rfl rfl (zaa rfl) (zb0 rfl ta32 ti32 rfl rfl rfl rfl rfl) (zad rfl rfl (zaa rfl) (zb0 rfl ta32 ti32 rfl rfl rfl rfl rfl) (zad rfl rfl (zaa rfl) (zai rfl rfl (hc2) (zag rfl (zag rfl zam))) (zac rfl (zac rfl (zac rfl (zac rfl (zae (zaf (zab (zac rfl (zac rfl (zac rfl (zae (zah ?_)))))))))))))))))
 (refine zav ?_; repeat (first | refine za6 ?_ | refine za7 ?_))
 exact zer (.inr rfl) rfl rfl hR
end Go.Proofs.YtohmldibkojkfaaGreatDoor.Aw
end
