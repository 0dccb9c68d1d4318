import Derived.Test.YtjhdcgaiccnmeaaGreatDoorJB39
import Derived.Test.YtjhdcgaiccnmeaaGreatDoorJB37
set_option linter.unusedSimpArgs false
set_option linter.unusedVariables false
set_option linter.unusedSectionVars false
section
namespace Go.Proofs.YtjhdcgaiccnmeaaGreatDoor.Aw
open Go Go.RowKit Go.Proofs Go.Maps Go.WideMaps Dl
variable {P : Program} [IsP P]
theorem zus {n : Net} {w : List ByteArray} : (zd9 n w).2 = 0 ↔ zd5 n = true ∧ zew w = true := by
 unfold zd9
 cases zd5 n <;> cases zew w <;> simp
set_option maxHeartbeats 2000000 in
theorem dualProves_pf (n : Net) (w : List ByteArray) (c : Cst) (most : Int) : Pure P 4 [eN n, eL eS w, eC c, eI most] (eB true) := by
 have haw := zxi (P := P)
 have hsm := zr2 (P := P) n w
 have hno := z1d (P := P)
 have h21 := zos (P := P) n
 have h42 := zmr (P := P) w
 have hvc := zge (P := P) c
 have hpr := zr8 (P := P) n w c most
 have hle := zvc (P := P) n w c most
 have hck := fun cost p => zo4 (P := P) n w c cost p
 have hsv := zus (n := n) (w := w)
 have hpe : zfs n w c most = if (zd9 n w).2 ≠ 0 ∨ vcB c = false then (0, zPf, 1) else if most < 1 ∨ 2000 < most then (0, zPf, 2) else match bfsD (nxD n w c) most (most.toNat + 1) 0 ⟨[(zd9 n w).1], []⟩ with
  | none => (0, zPf, 13)
  | some g => finD n w g := rfl
 have hpl := fun hc hs hm => zqs (n := n) (w := w) (c := c) (most := most) hc hs hm
 have hchk := fun k p (h : PvOk n w c k p) hc cost => h.check hc cost
 have hkb : ∀ k p, PvOk n w c k p → -1073741824 ≤ k ∧ k ≤ 1073741824 := fun k p h => by
  have h1 := (h.vd.pot h.vd.start_ok').2
  rw [h.pt] at h1
  exact (zym (h1 rfl)).1
 generalize zmn n w = b1 at hsm
 generalize hbn : zd5 n = bn at h21 hle hsv
 generalize hbw : zew w = bw at h42 hle hsv
 generalize hbc : vcB c = bc at hvc hle hpe hpl hchk
 generalize (zd9 n w).2 = se at hsv hpe hpl
 have hln : Lo 0 (.ref (eN n).cells) := .ref _ (lo_N n).cells
 have hlc : Lo 0 (.ref (eC c).cells) := .ref _ (lo_C c).cells
 refine zcl (by rw [IsP.eq (P := P)]; exact Tryz.func4) rfl rfl rfl rfl rfl (zah (lo_N n) (zah (lo_W w) (zah (lo_C c) (zah (.s _) zak)))) (.s _) (by simp only [argF]; rfl) ?_
 refine zag (zab (zaf rfl rfl (zaa rfl) (zb3 rfl rfl rfl rfl) ?_))
 refine za6 (zbm (id := 0) rfl) (za6 (zcb (d := 4) rfl rfl rfl) ?_)
 refine zaf rfl rfl (zaa rfl) (zb3 rfl rfl rfl rfl) ?_
 refine za6 (zbm (id := 1) rfl) (za6 (zcb (d := 6) rfl rfl rfl) ?_)
 refine zac rfl (zad (zag (zag ?_)))
 cases b1 with
 | false =>
  refine zab (zaf rfl rfl (zaa rfl) (zam rfl rfl (haw) zap) (zaf rfl rfl (zaa rfl) (zbj rfl rfl) (zac rfl (zcx ta24 ti24 rfl (zac rfl (zaf rfl rfl (zat rfl rfl rfl) (zam rfl rfl (hsm) (zae rfl (zae rfl zap))) (zaf rfl rfl (zat rfl rfl rfl) (zbj rfl rfl) (zac rfl (zac rfl (za4 rfl (za4 rfl (za4 rfl (zcj rfl rfl (zbi rfl rfl rfl) (zcj rfl rfl (zbi rfl rfl rfl) (za4 rfl (zac rfl (zad (zai (za5 rfl (zag (zab (zaf rfl rfl (zaa rfl) (zam rfl rfl (haw) zap) ?_))))))))))))))))))))))
  refine zac rfl (zad (zai ?_))
  (refine za7 ?_; repeat (first | refine zbc ?_ | refine zbe ?_))
  exact zb6 (.inr rfl) rfl rfl
 | true =>
 by_cases hmm : most > 100 ∧ most ≤ 2000
 ·
  refine zab (zaf rfl rfl (zaa rfl) (zam rfl rfl (haw) zap) (zaf rfl rfl (zaa rfl) (zbj rfl rfl) (zac rfl (zcx ta24 ti24 rfl (zac rfl (zaf rfl rfl (zat rfl rfl rfl) (zam rfl rfl (hsm) (zae rfl (zae rfl zap))) (zaf rfl rfl (zat rfl rfl rfl) (zbj rfl rfl) (zac rfl (zac rfl (zac rfl (zaf rfl rfl (zat rfl rfl rfl) (zdc hmm.1 (zb0 rfl rfl rfl)) (zac rfl (zac rfl (zaf rfl rfl (zat rfl rfl rfl) (zdc hmm.2 (zdz rfl rfl rfl)) (zac rfl (zac rfl (zad (zai (za5 rfl ?_)))))))))))))))))))
  refine zag (zab (zaf rfl rfl (zaa rfl) (zam rfl rfl (haw) zap) (zac rfl (zad (zai ?_)))))
  (refine za7 ?_; repeat (first | refine zbc ?_ | refine zbe ?_))
  exact zb6 (.inr rfl) rfl rfl
 refine zxj [(1, eL eS w), (3, eI most), (4, .ref (eN n).cells), (6, .ref (eC c).cells)] [] ?_ ?_
 ·
  by_cases hm1 : most > 100
  ·
   refine zab (zaf rfl rfl (zaa rfl) (zam rfl rfl (haw) zap) (zaf rfl rfl (zaa rfl) (zbj rfl rfl) (zac rfl (zcx ta24 ti24 rfl (zac rfl (zaf rfl rfl (zat rfl rfl rfl) (zam rfl rfl (hsm) (zae rfl (zae rfl zap))) (zaf rfl rfl (zat rfl rfl rfl) (zbj rfl rfl) (zac rfl (zac rfl (zac rfl (zaf rfl rfl (zat rfl rfl rfl) (zdc hm1 (zb0 rfl rfl rfl)) (zac rfl (zac rfl ?_)))))))))))))
   refine zaf rfl rfl (zat rfl rfl rfl) (zeg (fun h => hmm ⟨hm1, h⟩) (zdz rfl rfl rfl)) ?_
   refine zac rfl (zac rfl (zad (zai (zau rfl (zar (zai ?_))))))
   exact zb8 [] (by decide) trivial ⟨.lo _ (lo_W w), .lo _ (.s _), .lo _ hln, .lo _ hlc, trivial⟩
  ·
   refine zab (zaf rfl rfl (zaa rfl) (zam rfl rfl (haw) zap) (zaf rfl rfl (zaa rfl) (zbj rfl rfl) (zac rfl (zcx ta24 ti24 rfl (zac rfl (zaf rfl rfl (zat rfl rfl rfl) (zam rfl rfl (hsm) (zae rfl (zae rfl zap))) (zaf rfl rfl (zat rfl rfl rfl) (zbj rfl rfl) (zac rfl (zac rfl (zac rfl (zaf rfl rfl (zat rfl rfl rfl) (zeg hm1 (zb0 rfl rfl rfl)) (zac rfl (za4 rfl (za4 rfl (zac rfl (zac rfl (zad (zai (zau rfl (zar (zai ?_)))))))))))))))))))))
   exact zb8 [] (by decide) trivial ⟨.lo _ (lo_W w), .lo _ (.s _), .lo _ hln, .lo _ hlc, trivial⟩
 refine zag ?_
 by_cases hval : (bn = true ∧ bw = true) ∧ bc = true
 rotate_left 1
 ·
  have hr : zfs n w c most = (0, zPf, 1) := by
   rw [hpe]
   refine if_pos ?_
   by_cases h : bn = true ∧ bw = true
   ·
    exact .inr (by cases bc with | false => rfl | true => exact absurd ⟨h, rfl⟩ hval)
   ·
    exact .inl (fun e => h (hsv.1 e))
  rw [hr] at hpr
  refine zab (zcx ta24 ti24 rfl (zac rfl (zcx ta27 ti27 rfl (zac rfl (zaf rfl rfl (zaa rfl) (zam rfl rfl (hpr) (zae rfl (zae rfl (zae rfl (zae rfl zap))))) (zac rfl (zac rfl (zac rfl (zac rfl (zaf rfl rfl (zaa rfl) (za1 rfl ti32 rfl rfl) (zac rfl (zba rfl (zaa rfl) (zaj rfl ti32 rfl rfl rfl rfl rfl rfl (by decide) (by decide)) (zac rfl (zad (zag (zas (zag ?_)))))))))))))))))
  refine zbg (zbm (id := 0) rfl) ?_
  refine zbg (zcb (d := 10) rfl rfl rfl) ?_
  have hcs : bn = false ∨ (bn = true ∧ bw = false) ∨ (bn = true ∧ bw = true ∧ bc = false) := by cases bn <;> cases bw <;> cases bc <;> simp_all
  rcases hcs with rfl | ⟨rfl, rfl⟩ | ⟨rfl, rfl, rfl⟩
  all_goals
   refine zab (zcx ta24 ti24 rfl (zaf rfl rfl (zaa rfl) (zam rfl rfl (h21) (zae rfl zap)) (zaf rfl rfl (zaa rfl) (zbj rfl rfl) (zac rfl ?_))))
   first | refine zac rfl ?_ | refine za4 rfl ?_
   first | refine zaf rfl rfl (zat rfl rfl rfl) (zam rfl rfl (h42) (zae rfl zap)) ?_ | refine za4 rfl ?_
   first | refine zaf rfl rfl (zat rfl rfl rfl) (zbj rfl rfl) ?_ | refine za4 rfl ?_
   refine zac rfl (zac rfl ?_)
   first | refine zcx ta27 ti27 rfl ?_ | refine za4 rfl ?_
   first | refine zaf rfl rfl (zat rfl rfl rfl) (zam rfl rfl (hvc) (zae rfl zap)) ?_ | refine za4 rfl ?_
   first | refine zaf rfl rfl (zat rfl rfl rfl) (zbj rfl rfl) ?_ | refine za4 rfl ?_
   refine zac rfl (zac rfl (zad (zai (za5 rfl (zag (zab (zac rfl (zaf rfl rfl (zaa rfl) (zdc rfl (zbn rfl rfl rfl)) (zac rfl (zcx ta32 ti32 rfl (zaf rfl rfl (zat rfl rfl rfl) (zam rfl rfl (hno) (zae rfl zap)) (zac rfl (zac rfl (zac rfl (zaf rfl rfl (zat rfl rfl rfl) (zdc rfl (zbn rfl rfl rfl)) (zac rfl (zac rfl (zad (zai ?_)))))))))))))))))))
   (refine za7 ?_; repeat (first | refine zbc ?_ | refine zbe ?_))
   exact zb6 (.inr rfl) rfl rfl
 obtain ⟨⟨rfl, rfl⟩, rfl⟩ := hval
 have hse : se = 0 := hsv.2 ⟨rfl, rfl⟩
 by_cases hrg : most < 1 ∨ 2000 < most
 ·
  have hr : zfs n w c most = (0, zPf, 2) := by
   rw [hpe, if_neg (by rintro (h | h); exact h hse; cases h), if_pos hrg]
  rw [hr] at hpr
  refine zab (zcx ta24 ti24 rfl (zac rfl (zcx ta27 ti27 rfl (zac rfl (zaf rfl rfl (zaa rfl) (zam rfl rfl (hpr) (zae rfl (zae rfl (zae rfl (zae rfl zap))))) (zac rfl (zac rfl (zac rfl (zac rfl (zaf rfl rfl (zaa rfl) (za1 rfl ti32 rfl rfl) (zac rfl (zba rfl (zaa rfl) (zaj rfl ti32 rfl rfl rfl rfl rfl rfl (by decide) (by decide)) (zac rfl (zad (zag (zas (zag ?_)))))))))))))))))
  refine zbg (zbm (id := 0) rfl) ?_
  refine zbg (zcb (d := 10) rfl rfl rfl) ?_
  refine zab (zcx ta24 ti24 rfl (zaf rfl rfl (zaa rfl) (zam rfl rfl (h21) (zae rfl zap)) (zaf rfl rfl (zaa rfl) (zbj rfl rfl) (zac rfl (zac rfl (zaf rfl rfl (zat rfl rfl rfl) (zam rfl rfl (h42) (zae rfl zap)) (zaf rfl rfl (zat rfl rfl rfl) (zbj rfl rfl) (zac rfl (zac rfl (zcx ta27 ti27 rfl (zaf rfl rfl (zat rfl rfl rfl) (zam rfl rfl (hvc) (zae rfl zap)) (zaf rfl rfl (zat rfl rfl rfl) (zbj rfl rfl) (zac rfl (zac rfl (zad (zai (zau rfl (zag ?_))))))))))))))))))
  by_cases hm1 : most < 1
  ·
   refine zab (zac rfl (zaf rfl rfl (zaa rfl) (zdc hm1 (za2 rfl rfl rfl)) (zac rfl (za4 rfl (za4 rfl (zac rfl (zac rfl (zad (zai (za5 rfl (zag (zab (zac rfl (zaf rfl rfl (zaa rfl) (zdc rfl (zbn rfl rfl rfl)) (zac rfl (zcx ta32 ti32 rfl (zaf rfl rfl (zat rfl rfl rfl) (zam rfl rfl (hno) (zae rfl zap)) (zac rfl (zac rfl (zac rfl (zaf rfl rfl (zat rfl rfl rfl) (zdc rfl (zbn rfl rfl rfl)) (zac rfl (zac rfl (zad (zai ?_)))))))))))))))))))))))))
   (refine za7 ?_; repeat (first | refine zbc ?_ | refine zbe ?_))
   exact zb6 (.inr rfl) rfl rfl
  ·
   refine zab (zac rfl (zaf rfl rfl (zaa rfl) (zeg hm1 (za2 rfl rfl rfl)) (zac rfl (zac rfl (zaf rfl rfl (zat rfl rfl rfl) (zdc (by omega) (zb0 rfl rfl rfl)) (zac rfl (zac rfl (zad (zai (za5 rfl (zag (zab (zac rfl (zaf rfl rfl (zaa rfl) (zdc rfl (zbn rfl rfl rfl)) (zac rfl (zcx ta32 ti32 rfl (zaf rfl rfl (zat rfl rfl rfl) (zam rfl rfl (hno) (zae rfl zap)) (zac rfl (zac rfl (zac rfl (zaf rfl rfl (zat rfl rfl rfl) (zdc rfl (zbn rfl rfl rfl)) (zac rfl (zac rfl ?_)))))))))))))))))))))))
   refine zad (zai ?_)
   (refine za7 ?_; repeat (first | refine zbc ?_ | refine zbe ?_))
   exact zb6 (.inr rfl) rfl rfl
 have hm1 : ¬ most < 1 := fun h => hrg (.inl h)
 have hm2 : ¬ most > 2000 := fun h => hrg (.inr h)
 have hle2 := hle rfl rfl rfl ⟨by omega, by omega⟩
 have hpl2 := hpl rfl hse ⟨by omega, by omega⟩
 clear hle hpl hpe
 generalize zhp n w c most = le at hle2 hpl2
 obtain ⟨want, f⟩ := le
 rcases hpl2 with ⟨hf, hr⟩ | ⟨hf, p, hr, hpv, hst⟩
 ·
  replace hf : f ≠ 0 := hf
  replace hr : zfs n w c most = (0, zPf, f) := hr
  rw [hr] at hpr
  refine zab (zcx ta24 ti24 rfl (zac rfl (zcx ta27 ti27 rfl (zac rfl (zaf rfl rfl (zaa rfl) (zam rfl rfl (hpr) (zae rfl (zae rfl (zae rfl (zae rfl zap))))) (zac rfl (zac rfl (zac rfl (zac rfl (zaf rfl rfl (zaa rfl) (za1 rfl ti32 rfl rfl) (zac rfl (zba rfl (zaa rfl) (zaj rfl ti32 rfl rfl rfl rfl rfl rfl (by decide) (by decide)) (zac rfl (zad (zag (zas (zag ?_)))))))))))))))))
  refine zbg (zbm (id := 0) rfl) ?_
  refine zbg (zcb (d := 10) rfl rfl rfl) ?_
  refine zab (zcx ta24 ti24 rfl (zaf rfl rfl (zaa rfl) (zam rfl rfl (h21) (zae rfl zap)) (zaf rfl rfl (zaa rfl) (zbj rfl rfl) (zac rfl (zac rfl (zaf rfl rfl (zat rfl rfl rfl) (zam rfl rfl (h42) (zae rfl zap)) (zaf rfl rfl (zat rfl rfl rfl) (zbj rfl rfl) (zac rfl (zac rfl (zcx ta27 ti27 rfl (zaf rfl rfl (zat rfl rfl rfl) (zam rfl rfl (hvc) (zae rfl zap)) (zaf rfl rfl (zat rfl rfl rfl) (zbj rfl rfl) (zac rfl (zac rfl (zad (zai (zau rfl (zag (zab ?_)))))))))))))))))))
  refine zac rfl (zaf rfl rfl (zaa rfl) (zeg hm1 (za2 rfl rfl rfl)) (zac rfl (zac rfl (zaf rfl rfl (zat rfl rfl rfl) (zeg hm2 (zb0 rfl rfl rfl)) (zac rfl (zac rfl (zad (zai (zau rfl (zar (zag (zab (zcx ta24 ti24 rfl (zac rfl (zcx ta27 ti27 rfl (zac rfl (zaf rfl rfl (zaa rfl) (zam rfl rfl (hle2) (zae rfl (zae rfl (zae rfl (zae rfl zap))))) (zac rfl (zac rfl (zac rfl (zac rfl (zac rfl (zad (zag (zag (zab (zac rfl (zaf rfl rfl (zaa rfl) (zdc hf (zbp rfl rfl rfl)) ?_))))))))))))))))))))))))))))
  refine zad (zai (za5 rfl (zag (zab (zac rfl (zaf rfl rfl (zaa rfl) (zdc rfl (zbn rfl rfl rfl)) (zac rfl (zcx ta32 ti32 rfl (zaf rfl rfl (zat rfl rfl rfl) (zam rfl rfl (hno) (zae rfl zap)) (zac rfl (zac rfl (zac rfl (zac rfl (zaf rfl rfl (zat rfl rfl rfl) (zdc rfl (zbn rfl rfl rfl)) (zac rfl (zac rfl (zad (zai ?_))))))))))))))))))
  (refine za7 ?_; repeat (first | refine zbc ?_ | refine zbe ?_))
  exact zb6 (.inr rfl) rfl rfl
 ·
  replace hf : f = 0 := hf
  subst hf
  replace hr : zfs n w c most = (want, p, 0) := hr
  replace hpv : PvOk n w c want p := hpv
  have hw := hkb _ _ hpv
  have hc1 := hck want p
  rw [hchk _ _ hpv rfl, decide_eq_true (Int.le_refl _)] at hc1
  have hc2 := hck (want + 1) p
  rw [hchk _ _ hpv rfl, decide_eq_false (by omega)] at hc2
  rw [hr] at hpr
  refine zab (zcx ta24 ti24 rfl (zac rfl (zcx ta27 ti27 rfl (zac rfl (zaf rfl rfl (zaa rfl) (zam rfl rfl (hpr) (zae rfl (zae rfl (zae rfl (zae rfl zap))))) (zac rfl (zac rfl (zac rfl (zac rfl (zaf rfl rfl (zaa rfl) (za1 rfl ti32 rfl rfl) (zac rfl (zba rfl (zaa rfl) (zaj rfl ti32 rfl rfl rfl rfl rfl rfl (by decide) (by decide)) (zac rfl (zad (zag (zas (zag ?_)))))))))))))))))
  refine zbg (zbm (id := 0) rfl) ?_
  refine zbg (zcb (d := 10) rfl rfl rfl) ?_
  refine zab (zcx ta24 ti24 rfl (zaf rfl rfl (zaa rfl) (zam rfl rfl (h21) (zae rfl zap)) (zaf rfl rfl (zaa rfl) (zbj rfl rfl) (zac rfl (zac rfl (zaf rfl rfl (zat rfl rfl rfl) (zam rfl rfl (h42) (zae rfl zap)) (zaf rfl rfl (zat rfl rfl rfl) (zbj rfl rfl) (zac rfl (zac rfl (zcx ta27 ti27 rfl (zaf rfl rfl (zat rfl rfl rfl) (zam rfl rfl (hvc) (zae rfl zap)) (zaf rfl rfl (zat rfl rfl rfl) (zbj rfl rfl) (zac rfl (zac rfl (zad (zai (zau rfl (zag (zab ?_)))))))))))))))))))
  refine zac rfl (zaf rfl rfl (zaa rfl) (zeg hm1 (za2 rfl rfl rfl)) (zac rfl (zac rfl (zaf rfl rfl (zat rfl rfl rfl) (zeg hm2 (zb0 rfl rfl rfl)) (zac rfl (zac rfl (zad (zai (zau rfl (zar (zag (zab (zcx ta24 ti24 rfl (zac rfl (zcx ta27 ti27 rfl (zac rfl (zaf rfl rfl (zaa rfl) (zam rfl rfl (hle2) (zae rfl (zae rfl (zae rfl (zae rfl zap))))) (zac rfl (zac rfl (zac rfl (zac rfl (zac rfl (zad (zag (zag (zab (zac rfl (zaf rfl rfl (zaa rfl) (zbp rfl rfl rfl) ?_))))))))))))))))))))))))))))
  refine zad (zai (zau rfl (zar (zag (zab (zac rfl (zac rfl (zaf rfl rfl (zaa rfl) (zdc rfl (zbn rfl rfl rfl)) (zac rfl (zac rfl (zaf rfl rfl (zat rfl rfl rfl) (zdc rfl (zbn rfl rfl rfl)) (zac rfl (zac rfl (zbz zd6 rfl (zbu ta28 rfl (zaf rfl rfl (zat rfl rfl rfl) (zao rfl ts28 rfl) ?_))))))))))))))))
  refine zaf rfl rfl (zat rfl rfl rfl) (zdc (show ((p.st.length : Nat) : Int) ≤ 300 by omega) (zdz rfl rfl rfl)) ?_
  refine zac rfl (zac rfl (zcx ta24 ti24 rfl (zac rfl (zcx ta27 ti27 rfl (zac rfl (zcx ta32 ti32 rfl (zaf rfl rfl (zat rfl rfl rfl) (zam rfl rfl (hc1) (zae rfl (zae rfl (zae rfl (zae rfl (zae rfl zap)))))) (zac rfl (zac rfl (zcx ta24 ti24 rfl (zac rfl (zcx ta27 ti27 rfl (zac rfl (zaf rfl rfl (zat rfl rfl rfl) (zax rfl rfl rfl (IntWalk.i64_in _ (by omega))) (zcx ta32 ti32 rfl (zaf rfl rfl (zat rfl rfl rfl) (zam rfl rfl (hc2) (zae rfl (zae rfl (zae rfl (zae rfl (zae rfl zap)))))) ?_))))))))))))))))
  refine zaf rfl rfl (zat rfl rfl rfl) (zbj rfl rfl) (zac rfl (zac rfl (zad (zai ?_))))
  (refine za7 ?_; repeat (first | refine zbc ?_ | refine zbe ?_))
  exact zb6 (.inr rfl) rfl rfl
end Go.Proofs.YtjhdcgaiccnmeaaGreatDoor.Aw
end
