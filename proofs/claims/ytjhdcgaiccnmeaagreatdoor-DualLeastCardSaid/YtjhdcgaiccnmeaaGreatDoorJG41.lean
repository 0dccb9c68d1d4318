import Derived.Test.YtjhdcgaiccnmeaaGreatDoorJG40
set_option linter.unusedSimpArgs false
set_option linter.unusedVariables false
set_option linter.unusedSectionVars false
section
namespace Go.Proofs.YtjhdcgaiccnmeaaGreatDoor.Aw
open Go Go.RowKit Go.Proofs Go.Maps Go.WideMaps Dl
variable {P : Program} [IsP P]
theorem prove_shape {n : Net} {w : List ByteArray} {c : Cst} {most : Int} (h : (proveE n w c most).2.2 ≠ 0) : proveE n w c most = (0, zPf, (proveE n w c most).2.2) := by
 unfold proveE at h ⊢
 split
 ·
  rfl
 ·
  rename_i h1
  rw [if_neg h1] at h
  split
  ·
   rfl
  ·
   rename_i h2
   rw [if_neg h2] at h
   split
   ·
    rfl
   ·
    rename_i g hg
    rw [hg] at h
    replace h : (finD n w g).2.2 ≠ 0 := h
    show finD n w g = (0, zPf, (finD n w g).2.2)
    unfold finD at h ⊢
    split
    ·
     rfl
    ·
     rename_i h3
     rw [if_neg h3] at h
     exact absurd rfl h
theorem prove_ok0 {n : Net} {w : List ByteArray} {c : Cst} {most : Int} (h : (proveE n w c most).2.2 = 0) : (zb7 n w).2 = 0 ∧ vcB c = true := by
 unfold proveE at h
 split at h
 ·
  exact absurd h (by decide)
 ·
  rename_i h1
  refine ⟨Classical.byContradiction fun h => h1 (.inl h), ?_⟩
  cases hc : vcB c with
  | true => rfl
  | false => exact absurd (.inr hc) h1
theorem word_ok0 {n : Net} {l : List Int} (h : (wordF n l).2 = 0) : zbc n = true ∧ (wordF n l).1 = lblD n l := by
 unfold wordF at h ⊢
 cases hv : zbc n with
 | false => rw [hv, if_pos rfl] at h; exact absurd h (by decide)
 | true =>
  rw [hv, if_neg (by decide)] at h
  rw [if_neg (by decide)]
  split at h
  ·
   exact absurd h (by decide)
  ·
   rename_i h1
   rw [if_neg h1]
   split at h
   ·
    rename_i h2; rw [if_pos h2]; exact ⟨rfl, rfl⟩
   ·
    exact absurd h (by decide)
set_option maxHeartbeats 4000000 in
theorem dualLeast_pf (n : Net) (run : List Int) (c : Cst) (q : Prf) : Pure P 8 [eN n, eL eI run, eC c, ePf q] (eB true) := by
 have haw := awake44 (P := P)
 have hsm := small_pf (P := P) n []
 have hfw := few_pf (P := P) q
 have hno := none_pf (P := P)
 have hwd := word44_pf (P := P) n run
 have hw0 := word_ok0 (n := n) (l := run)
 have hsm2 := small_pf (P := P) n (wordF n run).1
 have hpr := prove_pf (P := P) n (wordF n run).1 c 200
 have hsh := prove_shape (n := n) (w := (wordF n run).1) (c := c) (most := 200)
 have hok := prove_ok0 (n := n) (w := (wordF n run).1) (c := c) (most := 200)
 have htop := fun hc hs k p h => least_top (n := n) (w := (wordF n run).1) (c := c) (most := 200) hc hs ⟨by omega, by omega⟩ (k := k) (p := p) (q := q) h
 have hck := fun cost p => dCheck_pf (P := P) n (wordF n run).1 c cost p
 have hini := initial_pf (P := P) n
 have hfin := final_pf (P := P) n
 have hrun := fun hm hl => run44_pf (P := P) n (oneL n.places.toNat n.source) run hm hl
 have hrx := runX_ok (n := n) (l := run) (m := oneL n.places.toNat n.source) (i := 0)
 have hbnd := fun k p h hr => run_bound (n := n) (c := c) (p := p) (k := k) (run := run) h hr
 have hlen := lblD_len n run
 generalize smallB n [] = b1 at hsm
 generalize fewB q = b2 at hfw
 generalize wordF n run = wr at hwd hw0 hsm2 hpr hsh hok htop hck
 obtain ⟨w, we⟩ := wr
 dsimp only at hwd hw0 hsm2 hpr hsh hok htop hck
 generalize smallB n w = b3 at hsm2
 generalize hpe : proveE n w c 200 = r at hpr hsh hok
 have hln : Lo 0 (.ref (eN n).cells) := .ref _ (lo_N n).cells
 have hlq : Lo 0 (.ref (ePf q).cells) := lo_zero q
 have hlc : Lo 0 (.ref (eC c).cells) := .ref _ (lo_C c).cells
 refine zbb (by rw [IsP.eq (P := P)]; exact Tryz.func8) rfl rfl rfl rfl rfl (zah (lo_N n) (zah lo_I (zah (lo_C c) (zah (lo_Pf q) zap)))) (.s _) (by simp only [argF]; rfl) ?_
 refine zaf (zae (zab rfl rfl (zaa rfl) (zb1 rfl rfl rfl rfl) ?_))
 refine za5 (zbv (id := 0) rfl) (za5 (zcf (d := 4) rfl rfl rfl) ?_)
 refine zab rfl rfl (zaa rfl) (zb1 rfl rfl rfl rfl) ?_
 refine za5 (zbv (id := 1) rfl) (za5 (zcf (d := 6) rfl rfl rfl) ?_)
 refine zab rfl rfl (zaa rfl) (zb1 rfl rfl rfl rfl) ?_
 refine za5 (zbv (id := 2) rfl) (za5 (zcf (d := 7) rfl rfl rfl) ?_)
 refine zbe rfl (zaj (zaf (zaf ?_)))
 cases b1 with
 | false =>
  refine zae (zab rfl rfl (zaa rfl) (zav rfl rfl (haw) za0) (zab rfl rfl (zaa rfl) (zbh rfl rfl) (zbe rfl (zb2 ta24 ti24 rfl ?_))))
  refine zab rfl rfl (zau rfl rfl rfl) (does_callb rfl rfl hsm (zb9.cons (.refl _) (zb9.cons .nil zb9.nil)) (by repeat' (first | exact Flat.s _ | exact flat_nil | refine flat_cons ?_ ?_ | refine Flat.agg ?_ | refine Flat.tup ?_))) ?_
  refine zab rfl rfl (zau rfl rfl rfl) (zbh rfl rfl) (zbe rfl (zbe rfl (zbf rfl (zbf rfl (zbf rfl (zbe rfl (zbe rfl (zbf rfl (zbf rfl (zbf rfl (zbe rfl (zaj (zak (zbl rfl (zaf (zae (zab rfl rfl (zaa rfl) (zav rfl rfl (haw) za0) (zbe rfl (zaj (zak ?_))))))))))))))))))))
  (refine zbd ?_; repeat (first | refine zbn ?_ | refine zbo ?_))
  exact zcb (.inr rfl) rfl rfl
 | true =>
 cases b2 with
 | false =>
  refine zae (zab rfl rfl (zaa rfl) (zav rfl rfl (haw) za0) (zab rfl rfl (zaa rfl) (zbh rfl rfl) (zbe rfl (zb2 ta24 ti24 rfl ?_))))
  refine zab rfl rfl (zau rfl rfl rfl) (does_callb rfl rfl hsm (zb9.cons (.refl _) (zb9.cons .nil zb9.nil)) (by repeat' (first | exact Flat.s _ | exact flat_nil | refine flat_cons ?_ ?_ | refine Flat.agg ?_ | refine Flat.tup ?_))) ?_
  refine zab rfl rfl (zau rfl rfl rfl) (zbh rfl rfl) (zbe rfl (zbe rfl (zb2 ta32 ti32 rfl (zab rfl rfl (zau rfl rfl rfl) (zav rfl rfl (hfw) (zar rfl za0)) (zab rfl rfl (zau rfl rfl rfl) (zbh rfl rfl) (zbe rfl (zbe rfl (zbf rfl (zbf rfl (zbf rfl (zbe rfl (zaj (zak (zbl rfl (zaf (zae (zab rfl rfl (zaa rfl) (zav rfl rfl (haw) za0) (zbe rfl (zaj (zak ?_))))))))))))))))))))
  (refine zbd ?_; repeat (first | refine zbn ?_ | refine zbo ?_))
  exact zcb (.inr rfl) rfl rfl
 | true =>
 by_cases hr6 : (run.length : Int) > 6
 ·
  refine zae (zab rfl rfl (zaa rfl) (zav rfl rfl (haw) za0) (zab rfl rfl (zaa rfl) (zbh rfl rfl) (zbe rfl (zb2 ta24 ti24 rfl ?_))))
  refine zab rfl rfl (zau rfl rfl rfl) (does_callb rfl rfl hsm (zb9.cons (.refl _) (zb9.cons .nil zb9.nil)) (by repeat' (first | exact Flat.s _ | exact flat_nil | refine flat_cons ?_ ?_ | refine Flat.agg ?_ | refine Flat.tup ?_))) ?_
  refine zab rfl rfl (zau rfl rfl rfl) (zbh rfl rfl) (zbe rfl (zbe rfl (zb2 ta32 ti32 rfl (zab rfl rfl (zau rfl rfl rfl) (zav rfl rfl (hfw) (zar rfl za0)) (zab rfl rfl (zau rfl rfl rfl) (zbh rfl rfl) (zbe rfl (zbe rfl (zbe rfl (zab rfl rfl (zau rfl rfl rfl) (za2 rfl ts29 rfl) (zab rfl rfl (zau rfl rfl rfl) (zck hr6 (zb6 rfl rfl rfl)) (zbe rfl (zaj (zak (zbl rfl (zaf (zae (zab rfl rfl (zaa rfl) (zav rfl rfl (haw) za0) (zbe rfl (zaj (zak ?_))))))))))))))))))))
  (refine zbd ?_; repeat (first | refine zbn ?_ | refine zbo ?_))
  exact zcb (.inr rfl) rfl rfl
 refine zae (zab rfl rfl (zaa rfl) (zav rfl rfl (haw) za0) (zab rfl rfl (zaa rfl) (zbh rfl rfl) (zbe rfl (zb2 ta24 ti24 rfl ?_))))
 refine zab rfl rfl (zau rfl rfl rfl) (does_callb rfl rfl hsm (zb9.cons (.refl _) (zb9.cons .nil zb9.nil)) (by repeat' (first | exact Flat.s _ | exact flat_nil | refine flat_cons ?_ ?_ | refine Flat.agg ?_ | refine Flat.tup ?_))) ?_
 refine zab rfl rfl (zau rfl rfl rfl) (zbh rfl rfl) (zbe rfl (zbe rfl (zb2 ta32 ti32 rfl (zab rfl rfl (zau rfl rfl rfl) (zav rfl rfl (hfw) (zar rfl za0)) (zab rfl rfl (zau rfl rfl rfl) (zbh rfl rfl) (zbe rfl (zbe rfl (zbe rfl (zab rfl rfl (zau rfl rfl rfl) (za2 rfl ts29 rfl) (zab rfl rfl (zau rfl rfl rfl) (zc7 hr6 (zb6 rfl rfl rfl)) (zbe rfl (zaj (zak (za6 rfl (zad (zaf (zae (zb2 ta24 ti24 rfl (zbe rfl (zab rfl rfl (zaa rfl) (zav rfl rfl (hwd) (zar rfl (zar rfl za0))) ?_))))))))))))))))))))
 refine zbe rfl (zbe rfl (zbe rfl (zbe rfl (zbe rfl (zaj (zaf (zaf ?_)))))))
 by_cases hwe : we = 0
 rotate_left 1
 ·
  refine zae (zbe rfl (zab rfl rfl (zaa rfl) (zck hwe (zb0 rfl rfl rfl)) (zbe rfl (zbf rfl (zbf rfl (zbf rfl (zbf rfl (zbe rfl (zaj (zak (zbl rfl (zaf (zae (zbe rfl (zaj (zak ?_))))))))))))))))
  (refine zbd ?_; repeat (first | refine zbn ?_ | refine zbo ?_))
  exact zcb (.inr rfl) rfl rfl
 obtain ⟨hvn, hwl⟩ := hw0 hwe
 subst hwl
 cases b3 with
 | false =>
  refine zae (zbe rfl ?_)
  refine zab rfl rfl (zaa rfl) (zc7 (fun h => h hwe) (zb0 rfl rfl rfl)) ?_
  refine zbe rfl (zb2 ta24 ti24 rfl (zbe rfl (zab rfl rfl (zau rfl rfl rfl) (zav rfl rfl (hsm2) (zar rfl (zar rfl za0))) (zab rfl rfl (zau rfl rfl rfl) (zbh rfl rfl) (zbe rfl (zaj (zak (zbl rfl (zaf (zae (zbe rfl (zaj (zak ?_)))))))))))))
  (refine zbd ?_; repeat (first | refine zbn ?_ | refine zbo ?_))
  exact zcb (.inr rfl) rfl rfl
 | true =>
 refine zae (zbe rfl ?_)
 refine zab rfl rfl (zaa rfl) (zc7 (fun h => h hwe) (zb0 rfl rfl rfl)) ?_
 refine zbe rfl (zb2 ta24 ti24 rfl (zbe rfl (zab rfl rfl (zau rfl rfl rfl) (zav rfl rfl (hsm2) (zar rfl (zar rfl za0))) (zab rfl rfl (zau rfl rfl rfl) (zbh rfl rfl) (zbe rfl (zaj (zak (za6 rfl (zad (zaf ?_))))))))))
 have lo_W2 : Lo 0 (eL eS (lblD n run)) := lo_W _
 by_cases hf : r.2.2 = 0
 rotate_left 1
 ·
  have hr := hsh hf
  obtain ⟨k, p, f⟩ := r
  injection hr with e1 e2
  injection e2 with e2 _
  subst e1 e2
  replace hf : f ≠ 0 := hf
  refine zae (zb2 ta24 ti24 rfl (zbe rfl (zb2 ta27 ti27 rfl (zab rfl rfl (zaa rfl) (zav rfl rfl (hpr) (zar rfl (zar rfl (zar rfl (zar rfl za0))))) (zbe rfl (zbe rfl (zbe rfl (zbe rfl (zab rfl rfl (zaa rfl) (zbi rfl ti32 rfl rfl) (zbe rfl (zbx rfl (zaa rfl) (za7 rfl ti32 rfl rfl rfl rfl rfl rfl (by decide) (by decide)) (zbe rfl (zaj (zaf (zaf ?_)))))))))))))))
  refine zbz (zbv (id := 3) rfl) ?_
  refine zbz (zcf (d := 12) rfl rfl rfl) ?_
  refine zae (zbe rfl (zab rfl rfl (zaa rfl) (zck hf (zb0 rfl rfl rfl)) (zaj (zak (zbl rfl (zaf (zae (zbe rfl (zab rfl rfl (zaa rfl) (zck rfl (does_eql rfl rfl rfl)) (zbe rfl (zb2 ta32 ti32 rfl (zab rfl rfl (zau rfl rfl rfl) (zav rfl rfl (hno) (zar rfl za0)) (zbe rfl (zbe rfl (zaj (zak ?_))))))))))))))))
  (refine zbd ?_; repeat (first | refine zbn ?_ | refine zbo ?_))
  exact zcb (.inr rfl) rfl rfl
 obtain ⟨hst, hvc⟩ := hok hf
 obtain ⟨k, p, f⟩ := r
 replace hf : f = 0 := hf
 subst hf
 obtain ⟨hpv, hqf⟩ := htop hvc hst k p hpe
 have hkb : -1073741824 ≤ k ∧ k ≤ 1073741824 := by
  have h1 := (hpv.vd.pot hpv.vd.start_ok').2
  rw [hpv.pt] at h1
  exact (okB_d (h1 rfl)).1
 have hc1 := hck k p
 have hchk1 := hpv.check hvc k
 rw [decide_eq_true (Int.le_refl _)] at hchk1
 rw [hchk1] at hc1
 have hc2 := hck (k + 1) p
 rw [hpv.check hvc, decide_eq_false (by omega)] at hc2
 have hc3 := hck (k + 1) q
 rw [hqf] at hc3
 have hmk : zcu n (oneL n.places.toNat n.source) = true := by unfold zcu; rw [hvn, oneL_mark n.source (za8 hvn).1]; rfl
 have hru := hrun hmk (by omega)
 rw [oneE_true hvn] at hini hfin
 have hcb := vcB_bd hvc
 refine zae (zb2 ta24 ti24 rfl (zbe rfl (zb2 ta27 ti27 rfl (zab rfl rfl (zaa rfl) (zav rfl rfl (hpr) (zar rfl (zar rfl (zar rfl (zar rfl za0))))) (zbe rfl (zbe rfl (zbe rfl (zbe rfl (zab rfl rfl (zaa rfl) (zbi rfl ti32 rfl rfl) (zbe rfl (zbx rfl (zaa rfl) (za7 rfl ti32 rfl rfl rfl rfl rfl rfl (by decide) (by decide)) (zbe rfl (zaj (zaf (zaf ?_)))))))))))))))
 refine zbz (zbv (id := 3) rfl) ?_
 refine zbz (zcf (d := 12) rfl rfl rfl) ?_
 refine zae (zbe rfl (zab rfl rfl (zaa rfl) (zb0 rfl rfl rfl) (zaj (zak (za6 rfl (zad (zaf (zaf (zae (zb2 ta24 ti24 rfl (zbe rfl (zb2 ta27 ti27 rfl (zbe rfl (zb2 ta32 ti32 rfl (zab rfl rfl (zaa rfl) (zav rfl rfl (hc1) (zar rfl (zar rfl (zar rfl (zar rfl (zar rfl za0)))))) (zab rfl rfl (zaa rfl) (zbh rfl rfl) (zbe rfl (zb2 ta24 ti24 rfl (zbe rfl (zb2 ta27 ti27 rfl (zbe rfl ?_)))))))))))))))))))))
 refine zab rfl rfl (zau rfl rfl rfl) (zbj rfl rfl rfl (IntWalk.i64_in _ (by dsimp only; omega))) ?_
 refine zb2 ta32 ti32 rfl (zab rfl rfl (zau rfl rfl rfl) (zav rfl rfl (hc2) (zar rfl (zar rfl (zar rfl (zar rfl (zar rfl za0)))))) (zbe rfl (zbe rfl (zb2 ta24 ti24 rfl (zbe rfl (zb2 ta27 ti27 rfl (zbe rfl ?_)))))))
 refine zab rfl rfl (zau rfl rfl rfl) (zbj rfl rfl rfl (IntWalk.i64_in _ (by dsimp only; omega))) ?_
 refine zb2 ta32 ti32 rfl (zab rfl rfl (zau rfl rfl rfl) (zav rfl rfl (hc3) (zar rfl (zar rfl (zar rfl (zar rfl (zar rfl za0)))))) (zbe rfl (zaj (zak (za6 rfl (zad (zaf (zae (zb2 ta24 ti24 rfl (zab rfl rfl (zaa rfl) (zav rfl rfl (hini) (zar rfl za0)) (zbe rfl (zbe rfl (zbe rfl (zbe rfl (zbe rfl (zaj (zaf (zae (zb2 ta24 ti24 rfl (zab rfl rfl (zaa rfl) (zav rfl rfl (hfin) (zar rfl za0)) (zbe rfl (zbe rfl (zbe rfl (zbe rfl (zbe rfl ?_)))))))))))))))))))))))))
 refine zaj (zaf (zaf (zae (zbe rfl (zab rfl rfl (zaa rfl) (zb0 rfl rfl rfl) (zbe rfl (zbe rfl (zab rfl rfl (zau rfl rfl rfl) (zb0 rfl rfl rfl) (zbe rfl (zaj (zak (za6 rfl (zad (zaf ?_))))))))))))))
 generalize runX n (oneL n.places.toNat n.source) run 0 = rx at hru hrx
 obtain ⟨at2, ri, re⟩ := rx
 refine zae (zb2 ta24 ti24 rfl (zbe rfl (zbe rfl (zab rfl rfl (zaa rfl) (zav rfl rfl (hru) (zar rfl (zar rfl (zar rfl za0)))) (zbe rfl (zbe rfl (zbe rfl (zbe rfl (zbe rfl (zbe rfl (zbe rfl (zaj (zaf (zaf ?_))))))))))))))
 by_cases hre : re = 0
 rotate_left 1
 ·
  refine zae (zbe rfl (zab rfl rfl (zaa rfl) (zck hre (zb0 rfl rfl rfl)) (zbe rfl (zbf rfl (zbf rfl (zbf rfl (zbf rfl (zbe rfl (zaj (zak (zbl rfl (zaf (zae (zbe rfl (zaj (zak ?_))))))))))))))))
  (refine zbd ?_; repeat (first | refine zbn ?_ | refine zbo ?_))
  exact zcb (.inr rfl) rfl rfl
 have heq := eqI_pf (P := P) at2 (oneL n.places.toNat n.sink)
 by_cases hat : at2 = oneL n.places.toNat n.sink
 rotate_left 1
 ·
  rw [decide_eq_false hat] at heq
  refine zae (zbe rfl ?_)
  refine zab rfl rfl (zaa rfl) (zc7 (fun h => h hre) (zb0 rfl rfl rfl)) ?_
  refine zbe rfl (zbe rfl (zbe rfl (zab rfl rfl (zau rfl rfl rfl) (zav rfl rfl (heq) (zar rfl (zar rfl za0))) (zab rfl rfl (zau rfl rfl rfl) (zbh rfl rfl) (zbe rfl (zaj (zak (zbl rfl (zaf (zae (zbe rfl (zaj (zak ?_)))))))))))))
  (refine zbd ?_; repeat (first | refine zbn ?_ | refine zbo ?_))
  exact zcb (.inr rfl) rfl rfl
 rw [decide_eq_true hat] at heq
 have hb := hbnd k p hchk1 (by rw [hrx hre, hat])
 have hmul : 0 ≤ ((run.length : Int) - (lblD n run).length) * c.silent ∧ ((run.length : Int) - (lblD n run).length) * c.silent ≤ 6000 := by
  refine ⟨Int.mul_nonneg (by omega) (by omega), ?_⟩
  have h1 : ((run.length : Int) - (lblD n run).length) * c.silent ≤ 6 * c.silent := Int.mul_le_mul_of_nonneg_right (by omega) (by omega)
  omega
 refine zae (zbe rfl ?_)
 refine zab rfl rfl (zaa rfl) (zc7 (fun h => h hre) (zb0 rfl rfl rfl)) ?_
 refine zbe rfl (zbe rfl (zbe rfl (zab rfl rfl (zau rfl rfl rfl) (zav rfl rfl (heq) (zar rfl (zar rfl za0))) (zab rfl rfl (zau rfl rfl rfl) (zbh rfl rfl) (zbe rfl (zaj (zak (za6 rfl (zad (zaf (zae (zbe rfl (zbe rfl (zab rfl rfl (zaa rfl) (za2 rfl ts29 rfl) (zbe rfl (zab rfl rfl (zaa rfl) (za2 rfl ts25 rfl) (zab rfl rfl (zaa rfl) (does_sub rfl rfl rfl (IntWalk.i64_in _ (by omega))) (zbq tf27_2 rfl (zbk ta3 rfl (zab rfl rfl (zaa rfl) (does_mul rfl rfl rfl (IntWalk.i64_in _ (by omega))) ?_))))))))))))))))))))
 refine zab rfl rfl (zaa rfl) (zck hb (zbr rfl rfl rfl)) (zbe rfl (zaj (zak ?_)))
 (refine zbd ?_; repeat (first | refine zbn ?_ | refine zbo ?_))
 exact zcb (.inr rfl) rfl rfl
end Go.Proofs.YtjhdcgaiccnmeaaGreatDoor.Aw
end
