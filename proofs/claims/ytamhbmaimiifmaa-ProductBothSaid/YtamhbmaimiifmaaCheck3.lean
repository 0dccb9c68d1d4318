/-
  Walks of casebookref42's Check. Conditions: none.
-/
import Derived.Test.YtamhbmaimiifmaaCheck2
namespace Go.Proofs.Ytamhbmaimiifmaa
set_option linter.unusedSimpArgs false
set_option linter.unusedVariables false
open Go.RowKit

set_option maxRecDepth 100000 in
set_option maxHeartbeats 4000000 in
theorem rCheck_any (n : Net) (l : List ByteArray) (c : Cst) (sl : List Stp) (k : Int) (vt v vs : Value) (lo hi lo' hi' lo2 hi2 : Nat) (w : World) (hv : RdT w lo hi vt n.trans) (hw : RdS w lo' hi' v l) (hs : RdM w lo2 hi2 vs sl) :
    Calls Try.prog 13 #[netV n vt, v, cstV c, algV vs k] w fun e w' => e = .returned (.bool (checkB n l c sl k)) ∧ Below w.heap.size w w' := by
  obtain ⟨A, ca, rfl, hc, hmm⟩ := hv.form
  obtain ⟨A2, c2, rfl, hc2, hmm2⟩ := hw.form
  obtain ⟨A3, c3, rfl, hc3, hmm3⟩ := hs.form
  have HV := Lib.hid hv
  have HW := Lib.hid hw
  have HS := Lib.hid hs
  clear hv hw hs
  have hM := chkM w n (.slice A n.trans.length ca) c (.slice A3 sl.length c3) k
  obtain ⟨z1, hz1⟩ : ∃ z, validB n = z := ⟨_, rfl⟩
  obtain ⟨z2, hz2⟩ : ∃ z, wordB l = z := ⟨_, rfl⟩
  obtain ⟨y, hy⟩ : ∃ y, (vcB c && fineB sl) = y := ⟨_, rfl⟩
  have HZ1 := Lib.hid hz1
  have HZ2 := Lib.hid hz2
  have HY := Lib.hid hy
  have HCB : Hid (checkB n l c sl k = (z1 && z2 && y && decide (costAt c sl sl.length = k) && endB n l (runA n l (startS n) sl))) := Lib.hid (by rw [checkB, hz1, hz2, hy])
  have HCE : Hid (costE c sl = if y then (costAt c sl sl.length, 0) else (0, 1)) := Lib.hid (by rw [costE, hy])
  have HSE : Hid (startE n l = if z1 && z2 then (startS n, 0) else ([], 1)) := Lib.hid (by rw [startE, hz1, hz2]; rfl)
  have HEE : Hid (endE n l = if z1 && z2 then (endS n l, 0) else ([], 1)) := Lib.hid (by rw [endE, hz1, hz2]; rfl)
  clear hz1 hz2 hy
  have HC := Lib.hid (fun (W : World) (h : Below w.heap.size w W) => rCost_any c sl lo2 hi2 _ W (HS.out.after h))
  have HST := Lib.hid (fun (W : World) (h : Below w.heap.size w W) => rStart_any n l _ _ lo hi lo' hi' W (HV.out.after h) (HW.out.after h))
  have HEN := Lib.hid (fun (W : World) (h : Below w.heap.size w W) => rEnd_any n l _ _ lo hi lo' hi' W (HV.out.after h) (HW.out.after h))
  rw [HCE.out] at HC
  rw [HSE.out] at HST
  rw [HEE.out] at HEN
  clear HCE HSE HEE
  by_cases hbad : z1 = false ∨ z2 = false ∨ y = false ∨ costAt c sl sl.length ≠ k
  · replace HCB : Hid (checkB n l c sl k = false) := Lib.hid (by rw [HCB.out]; rcases hbad with h | h | h | h <;> simp [h])
    have hq : y = true → z1 = true → z2 = true → (costAt c sl sl.length != k) = true := by
      intro h1 h2 h3
      rcases hbad with h | h | h | h
      · rw [h] at h2; cases h2
      · rw [h] at h3; cases h3
      · rw [h] at h1; cases h1
      · simpa using h
    clear hbad
    generalize costAt c sl sl.length = q at *
    cases y <;> cases z1 <;> cases z2
    all_goals
      simp only [Bool.false_eq_true, if_false, if_true] at HC
      try (have hq' := hq rfl rfl rfl)
      clear hq
      clear HST HEN
      refine calls_cps fun R hR => ?_
      have HR := Lib.hid hR
      clear hR
      go_enter Try.func13, Try.ntmps13
      have M := Lib.hid hM
      clear hM
      have hk4 := M.out.1
      have hk3 := M.out.2.1
      have hc0 := M.out.2.2.1
      have hc1 := M.out.2.2.2.1
      go_wp2_with (first
        | (go_at_call 15; refine (HC.out _ M.out.2.2.2.2.1.1).mono ?_; rintro e w1 ⟨rfl, hb1⟩; replace M := Lib.hid (M.out.below hb1); clear hb1; replace hk4 := M.out.1; replace hk3 := M.out.2.1; replace hc0 := M.out.2.2.1; replace hc1 := M.out.2.2.2.1)
        | (go_at_call 50; refine (rvalid_is HZ1.out _ lo hi _ (HV.out.after M.out.2.2.2.2.1.1)).mono ?_; rintro e w1 ⟨rfl, hb1⟩; replace M := Lib.hid (M.out.below hb1); clear hb1; replace hk4 := M.out.1; replace hk3 := M.out.2.1; replace hc0 := M.out.2.2.1; replace hc1 := M.out.2.2.2.1)
        | (go_at_call 51; refine (rIsWord_is HZ2.out lo' hi' _ _ (HW.out.after M.out.2.2.2.2.1.1)).mono ?_; rintro e w1 ⟨rfl, hb1⟩; replace M := Lib.hid (M.out.below hb1); clear hb1; replace hk4 := M.out.1; replace hk3 := M.out.2.1; replace hc0 := M.out.2.2.1; replace hc1 := M.out.2.2.2.1))
      exact HR.out _ _ ⟨ret_bool HCB.out.symm, M.out.2.2.2.2.1.1⟩
  · obtain rfl : z1 = true := by cases z1 <;> simp_all
    obtain rfl : z2 = true := by cases z2 <;> simp_all
    obtain rfl : y = true := by cases y <;> simp_all
    have hcost : costAt c sl sl.length = k := by
      by_cases h : costAt c sl sl.length = k
      · exact h
      · exact absurd (Or.inr (Or.inr (Or.inr h))) hbad
    clear hbad
    have hvf : vcB c = true ∧ fineB sl = true := by have := HY.out; simpa using this
    have HVF := Lib.hid hvf
    clear hvf
    simp only [if_true, Bool.true_and, Bool.and_true] at HC HST HEN HCB
    rw [decide_eq_true hcost, Bool.true_and] at HCB
    have hsl := fineB_len HVF.out.2
    rw [hcost] at HC
    clear hcost
    refine calls_cps fun R hR => ?_
    have HR := Lib.hid hR
    clear hR
    go_enter Try.func13, Try.ntmps13
    have M := Lib.hid hM
    clear hM
    have hk4 := M.out.1
    have hk3 := M.out.2.1
    have hc0 := M.out.2.2.1
    have hc1 := M.out.2.2.2.1
    go_wp2_with (first
      | (go_at_call 15; refine (HC.out _ M.out.2.2.2.2.1.1).mono ?_; rintro e w1 ⟨rfl, hb1⟩; replace M := Lib.hid (M.out.below hb1); clear hb1; replace hk4 := M.out.1; replace hk3 := M.out.2.1; replace hc0 := M.out.2.2.1; replace hc1 := M.out.2.2.2.1)
      | (go_at_call 50; refine (rvalid_is HZ1.out _ lo hi _ (HV.out.after M.out.2.2.2.2.1.1)).mono ?_; rintro e w1 ⟨rfl, hb1⟩; replace M := Lib.hid (M.out.below hb1); clear hb1; replace hk4 := M.out.1; replace hk3 := M.out.2.1; replace hc0 := M.out.2.2.1; replace hc1 := M.out.2.2.2.1)
      | (go_at_call 51; refine (rIsWord_is HZ2.out lo' hi' _ _ (HW.out.after M.out.2.2.2.2.1.1)).mono ?_; rintro e w1 ⟨rfl, hb1⟩; replace M := Lib.hid (M.out.below hb1); clear hb1; replace hk4 := M.out.1; replace hk3 := M.out.2.1; replace hc0 := M.out.2.2.1; replace hc1 := M.out.2.2.2.1)
      | (go_at_call 29; refine (HST.out _ M.out.2.2.2.2.1.1).mono ?_; rintro e w6 ⟨A6, c6, rfl, hr6, hb6⟩; have HR6 := Lib.hid hr6; replace M := Lib.hid (M.out.below hb6); clear hb6 hr6; dsimp only at HR6 ⊢; replace hk4 := M.out.1; replace hk3 := M.out.2.1; replace hc0 := M.out.2.2.1; replace hc1 := M.out.2.2.2.1))
    go_loopw [13, 11, 14, 15] (fun v13 v11 _ _ wr => ∃ (j : Nat) (s : List Int) (B : Option Addr) (d lh hh : Nat), j ≤ sl.length ∧ v13 = .int .i64 j ∧ v11 = .slice B s.length d ∧ Hid (stateB n l s = true) ∧ Hid (runA n l (startS n) sl = runA n l s (sl.drop j)) ∧ Hid (Mem (Loc.rdI lh hh (.slice B s.length d) s :: chkL w n (.slice A n.trans.length ca) c (.slice A3 sl.length c3) k) wr)) (fun v13 _ _ _ _ => sl.length - (intOf v13).toNat)
    case atStart => exact ⟨0, startS n, A6, c6, _, _, by omega, rfl, rfl, Lib.hid (start_state HZ1.out HZ2.out), Lib.hid rfl, Lib.hid ⟨HR6.out, M.out⟩⟩
    case round =>
      clear M hk4 hk3 hc0 hc1 HR6
      obtain ⟨j, s, B, d, lh, hh, hj, rfl, rfl, HSB, HI, M⟩ := hrel
      have hk4 := M.out.2.1
      have hc0 := M.out.2.2.2.1
      by_cases hlt : j < sl.length
      · obtain ⟨b, off, rfl, _, _, hcell⟩ := RdM.at3 (HS.out.after M.out.2.2.2.2.2.1.1) hlt
        have HJ : Hid (runA n l (startS n) sl = if (applyE n l s (gti sl j)).2 = 0 then runA n l (applyE n l s (gti sl j)).1 (sl.drop (j + 1)) else none) := Lib.hid (by rw [HI.out, drop_gti hlt, runA])
        have HAS := Lib.hid (apply_state (m := gti sl j) HSB.out)
        have HAP := Lib.hid (fun (W : World) (h : Below w.heap.size w W) (hr : RdI W lh hh (.slice B s.length d) s) => rApply_any n l s (gti sl j) _ _ _ lo hi lo' hi' lh hh W (HV.out.after h) (HW.out.after h) hr)
        rw [ApplyE_of HSB.out (fineB_kind HVF.out.2 hlt)] at HAP
        obtain ⟨⟨fl, fe⟩, hfe⟩ : ∃ r, applyE n l s (gti sl j) = r := ⟨_, rfl⟩
        rw [hfe] at HJ HAS HAP
        simp only at HJ HAS
        clear hfe
        generalize gti sl j = x at *
        obtain ⟨kd, tr, ac⟩ := x
        simp only at hcell
        replace M : Hid (Mem (Loc.c3 b (off + j * 3) (.int .i64 kd) (.int .i64 tr) (.string ac) :: Loc.rdI lh hh (.slice B s.length d) s :: chkL w n (.slice A n.trans.length ca) c (.slice (some ⟨b, off, none⟩) sl.length c3) k) wr) := Lib.hid ⟨hcell, M.out⟩
        replace hk4 := M.out.2.2.1
        replace hc0 := M.out.2.2.2.2.1
        have hjb : (j : Int) < sl.length := by omega
        have hjd : decide ((j : Int) < (sl.length : Int)) = true := by simp; omega
        have hj0 : (0 : Int) ≤ j := by omega
        by_cases he0 : fe = 0
        · subst he0
          rw [if_pos rfl] at HJ
          go_wp2_with fail
          go_region_held3 (fun W => K4 W w.heap.size (.int .i64 n.places) (.slice A n.trans.length ca) (.int .i64 n.source) (.int .i64 n.sink) ∧ C1 W (w.heap.size + 2) 0 (.slice (some ⟨b, off, none⟩) sl.length c3) ∧ C3 W b (off + j * 3) (.int .i64 kd) (.int .i64 tr) (.string ac)) (exact ⟨hk4, hc0, M.out.1⟩) (first
            | (go_at_call 33; refine (HAP.out _ (by first | exact M.out.2.2.2.2.2.2.1.1 | exact M.out.drew.2.2.2.2.2.2.1.1) (by first | exact M.out.2.1 | exact M.out.drew.2.1)).mono ?_; rintro e w9 ⟨A9, c9, rfl, hr9, hb9⟩; have HR9 := Lib.hid hr9; replace M := Lib.hid (Mem.below (by first | exact M.out | exact M.out.drew) hb9); clear hb9 hr9; dsimp only at HR9 ⊢; replace hk4 := M.out.2.2.1; replace hc0 := M.out.2.2.2.2.1))
          all_goals
            go_wp2_with fail
            have hj1 : j + 1 ≤ sl.length := by omega
            have hsb : Hid (stateB n l fl = true) := Lib.hid (HAS.out (by first | rfl | trivial))
            have hm : Hid (Mem (Loc.rdI _ _ (.slice A9 fl.length c9) fl :: chkL w n (.slice A n.trans.length ca) c (.slice (some ⟨b, off, none⟩) sl.length c3) k) w9) := Lib.hid ⟨HR9.out, M.out.2.2⟩
            first
              | exact ⟨⟨j + 1, fl, A9, c9, _, _, hj1, rfl, rfl, hsb, HJ, hm⟩, by simp [intOf]; omega⟩
              | (go_roundw
                 case rel => (first | exact ⟨j + 1, fl, A9, c9, _, _, hj1, rfl, rfl, hsb, HJ, hm⟩ | ((repeat apply Exists.intro); exact ⟨⟨j + 1, fl, A9, c9, _, _, hj1, rfl, rfl, hsb, HJ, hm⟩, rfl⟩))
                 case measure => simp [intOf]; omega)
        · rw [if_neg he0] at HJ
          have be0 : (fe != 0) = true := by simpa using he0
          go_wp2_with fail
          go_region_held3 (fun W => K4 W w.heap.size (.int .i64 n.places) (.slice A n.trans.length ca) (.int .i64 n.source) (.int .i64 n.sink) ∧ C1 W (w.heap.size + 2) 0 (.slice (some ⟨b, off, none⟩) sl.length c3) ∧ C3 W b (off + j * 3) (.int .i64 kd) (.int .i64 tr) (.string ac)) (exact ⟨hk4, hc0, M.out.1⟩) (first
            | (go_at_call 33; refine (HAP.out _ (by first | exact M.out.2.2.2.2.2.2.1.1 | exact M.out.drew.2.2.2.2.2.2.1.1) (by first | exact M.out.2.1 | exact M.out.drew.2.1)).mono ?_; rintro e w9 ⟨A9, c9, rfl, hr9, hb9⟩; have HR9 := Lib.hid hr9; replace M := Lib.hid (Mem.below (by first | exact M.out | exact M.out.drew) hb9); clear hb9 hr9; dsimp only at HR9 ⊢; replace hk4 := M.out.2.2.1; replace hc0 := M.out.2.2.2.2.1))
          all_goals
            go_wp2_with fail
            exact HR.out _ _ ⟨ret_bool (by rw [HCB.out, HJ.out]; rfl), M.out.2.2.2.2.2.2.1.1⟩
      · obtain rfl : j = sl.length := by omega
        have HE : Hid (checkB n l c sl k = decide (s = endS n l)) := Lib.hid (by rw [HCB.out, HI.out]; simp [runA, endB])
        clear HI
        go_wp2_with (first
          | (go_at_call 31; refine (HEN.out _ M.out.2.2.2.2.2.1.1).mono ?_; rintro e w7 ⟨A7, c7, rfl, hr7, hb7⟩; have HR7 := Lib.hid hr7; replace M := Lib.hid (M.out.below hb7); clear hb7 hr7; dsimp only at HR7 ⊢)
          | (go_at_call 52; refine (sameMarking_any _ _ _ _ _ _ _ _ _ M.out.1 HR7.out).mono ?_; rintro e w1 ⟨rfl, hb1⟩; replace M := Lib.hid (M.out.below hb1); clear hb1; skip))
        exact HR.out _ _ ⟨ret_bool HE.out.symm, M.out.2.2.2.2.2.1.1⟩
end Go.Proofs.Ytamhbmaimiifmaa
