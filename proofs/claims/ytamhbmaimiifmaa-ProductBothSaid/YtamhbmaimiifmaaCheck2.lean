/-
  Walks of product's Check. Conditions: none.
-/
import Derived.Test.YtamhbmaimiifmaaRun
import Derived.Test.YtamhbmaimiifmaaCheck
namespace Go.Proofs.Ytamhbmaimiifmaa
set_option linter.unusedSimpArgs false
set_option linter.unusedVariables false
open Go.RowKit

abbrev algV (vs : Value) (k : Int) : Value := .agg #[vs, .int .i64 k]
abbrev chkL (w0 : World) (n : Net) (vt : Value) (c : Cst) (vs : Value) (k : Int) : List Loc := [Loc.k4 w0.heap.size (.int .i64 n.places) (vt) (.int .i64 n.source) (.int .i64 n.sink), Loc.k3 (w0.heap.size + 1) (.int .i64 c.log) (.int .i64 c.model) (.int .i64 c.silent), Loc.c1 (w0.heap.size + 2) 0 vs, Loc.c1 (w0.heap.size + 2) 1 (.int .i64 k), Loc.bl w0.heap.size w0]
theorem chkM (w0 : World) (n : Net) (vt : Value) (c : Cst) (vs : Value) (k : Int) : Mem (chkL w0 n vt c vs k) (((w0.alloc (.cells #[.int .i64 n.places, vt, .int .i64 n.source, .int .i64 n.sink] 24)).alloc (.cells #[.int .i64 c.log, .int .i64 c.model, .int .i64 c.silent] 27)).alloc (.cells #[vs, .int .i64 k] 30)) := by
  have h1 : Mem [Loc.k4 w0.heap.size (.int .i64 n.places) (vt) (.int .i64 n.source) (.int .i64 n.sink), Loc.bl w0.heap.size w0] (w0.alloc (.cells #[.int .i64 n.places, vt, .int .i64 n.source, .int .i64 n.sink] 24)) := ⟨K4.new w0 _ _ _ _ _, ⟨(Below.refl _ _).alloc (Nat.le_refl _) _, by simp⟩, True.intro⟩
  have h2 : Mem [Loc.k3 (w0.heap.size + 1) (.int .i64 c.log) (.int .i64 c.model) (.int .i64 c.silent), Loc.k4 w0.heap.size (.int .i64 n.places) (vt) (.int .i64 n.source) (.int .i64 n.sink), Loc.bl w0.heap.size w0] ((w0.alloc (.cells #[.int .i64 n.places, vt, .int .i64 n.source, .int .i64 n.sink] 24)).alloc (.cells #[.int .i64 c.log, .int .i64 c.model, .int .i64 c.silent] 27)) := ⟨by have := K3.new (w0.alloc (.cells #[.int .i64 n.places, vt, .int .i64 n.source, .int .i64 n.sink] 24)) (.int .i64 c.log) (.int .i64 c.model) (.int .i64 c.silent) 27; rw [World.size_alloc] at this; exact this, h1.alloc _⟩
  have h3 := h2.alloc (.cells #[vs, .int .i64 k] 30)
  exact ⟨h3.2.1, h3.1, by simp [C1, go_sem], by simp [C1, go_sem], h3.2.2.1, True.intro⟩

set_option maxRecDepth 100000 in
set_option maxHeartbeats 4000000 in
theorem Check_any (n : Net) (l : List ByteArray) (c : Cst) (sl : List Stp) (k : Int) (vt v vs : Value) (lo hi lo' hi' lo2 hi2 : Nat) (w : World) (hv : RdT w lo hi vt n.trans) (hw : RdS w lo' hi' v l) (hs : RdM w lo2 hi2 vs sl) :
    Calls Try.prog 12 #[netV n vt, v, cstV c, algV vs k] w fun e w' => e = .returned (.bool (checkB n l c sl k)) ∧ Below w.heap.size w w' := by
  obtain ⟨A, ca, rfl, hc, hmm⟩ := hv.form
  obtain ⟨A2, c2, rfl, hc2, hmm2⟩ := hw.form
  obtain ⟨A3, c3, rfl, hc3, hmm3⟩ := hs.form
  have HV := Lib.hid hv
  have HW := Lib.hid hw
  have HS := Lib.hid hs
  clear hv hw hs
  have hM := chkM w n (.slice A n.trans.length ca) c (.slice A3 sl.length c3) k
  obtain ⟨z, hz⟩ : ∃ z, (validB n && wordB l) = z := ⟨_, rfl⟩
  obtain ⟨y, hy⟩ : ∃ y, (vcB c && fineB sl) = y := ⟨_, rfl⟩
  have HZ := Lib.hid hz
  have HY := Lib.hid hy
  have HCB : Hid (checkB n l c sl k = (z && y && decide (costAt c sl sl.length = k) && endB n l (runA n l (startS n) sl))) := Lib.hid (by rw [checkB, hz, hy])
  have HCE : Hid (costE c sl = if y then (costAt c sl sl.length, 0) else (0, 1)) := Lib.hid (by rw [costE, hy])
  have HSE : Hid (startE n l = if z then (startS n, 0) else ([], 1)) := Lib.hid (by rw [startE, hz]; rfl)
  have HEE : Hid (endE n l = if z then (endS n l, 0) else ([], 1)) := Lib.hid (by rw [endE, hz]; rfl)
  clear hz hy
  have HC := Lib.hid (fun (W : World) (h : Below w.heap.size w W) => Cost_any c sl lo2 hi2 _ W (HS.out.after h))
  have HST := Lib.hid (fun (W : World) (h : Below w.heap.size w W) => Start_any n l _ _ lo hi lo' hi' W (HV.out.after h) (HW.out.after h))
  have HEN := Lib.hid (fun (W : World) (h : Below w.heap.size w W) => End_any n l _ _ lo hi lo' hi' W (HV.out.after h) (HW.out.after h))
  rw [HCE.out] at HC
  rw [HSE.out] at HST
  rw [HEE.out] at HEN
  clear HCE HSE HEE
  by_cases hzy : z = false ∨ y = false
  · cases z <;> cases y
    case true.true => simp at hzy
    all_goals
      simp only [Bool.false_eq_true, if_false, if_true] at HC HST HEN
      replace HCB : Hid (checkB n l c sl k = false) := Lib.hid (by rw [HCB.out]; rfl)
      clear hzy
      refine calls_cps fun R hR => ?_
      have HR := Lib.hid hR
      clear hR
      go_enter Try.func12, Try.ntmps12
      have M := Lib.hid hM
      clear hM
      have hk4 := M.out.1
      have hk3 := M.out.2.1
      have hc0 := M.out.2.2.1
      have hc1 := M.out.2.2.2.1
      go_wp2_with (first
        | (go_at_call 28; refine (HST.out _ M.out.2.2.2.2.1.1).mono ?_; rintro e w6 ⟨A6, c6, rfl, hr6, hb6⟩; replace M := Lib.hid (M.out.below hb6); clear hb6 hr6; dsimp only; replace hk4 := M.out.1; replace hk3 := M.out.2.1; replace hc0 := M.out.2.2.1; replace hc1 := M.out.2.2.2.1)
        | (go_at_call 30; refine (HEN.out _ M.out.2.2.2.2.1.1).mono ?_; rintro e w7 ⟨A7, c7, rfl, hr7, hb7⟩; replace M := Lib.hid (M.out.below hb7); clear hb7 hr7; dsimp only; replace hk4 := M.out.1; replace hk3 := M.out.2.1; replace hc0 := M.out.2.2.1; replace hc1 := M.out.2.2.2.1)
        | (go_at_call 14; refine (HC.out _ M.out.2.2.2.2.1.1).mono ?_; rintro e w1 ⟨rfl, hb1⟩; replace M := Lib.hid (M.out.below hb1); clear hb1; replace hk4 := M.out.1; replace hk3 := M.out.2.1; replace hc0 := M.out.2.2.1; replace hc1 := M.out.2.2.2.1))
      exact HR.out _ _ ⟨ret_bool HCB.out.symm, M.out.2.2.2.2.1.1⟩
  · obtain rfl : z = true := by cases z <;> simp_all
    obtain rfl : y = true := by cases y <;> simp_all
    clear hzy
    have hvw : validB n = true ∧ wordB l = true := by have := HZ.out; simpa using this
    have hvf : vcB c = true ∧ fineB sl = true := by have := HY.out; simpa using this
    have HVW := Lib.hid hvw
    have HVF := Lib.hid hvf
    clear hvw hvf
    simp only [if_true, Bool.true_and] at HC HST HEN HCB
    by_cases hcost : costAt c sl sl.length = k
    · rw [decide_eq_true hcost, Bool.true_and] at HCB
      have hsl := fineB_len HVF.out.2
      have HCO := Lib.hid hcost
      rw [hcost] at HC
      clear hcost
      refine calls_cps fun R hR => ?_
      have HR := Lib.hid hR
      clear hR
      go_enter Try.func12, Try.ntmps12
      have M := Lib.hid hM
      clear hM
      have hk4 := M.out.1
      have hk3 := M.out.2.1
      have hc0 := M.out.2.2.1
      have hc1 := M.out.2.2.2.1
      go_wp2_with (first
        | (go_at_call 28; refine (HST.out _ M.out.2.2.2.2.1.1).mono ?_; rintro e w6 ⟨A6, c6, rfl, hr6, hb6⟩; have HR6 := Lib.hid hr6; replace M := Lib.hid (M.out.below hb6); clear hb6 hr6; dsimp only at HR6 ⊢; replace hk4 := M.out.1; replace hk3 := M.out.2.1; replace hc0 := M.out.2.2.1; replace hc1 := M.out.2.2.2.1)
        | (go_at_call 30; refine (HEN.out _ M.out.2.2.2.2.1.1).mono ?_; rintro e w7 ⟨A7, c7, rfl, hr7, hb7⟩; have HR7 := Lib.hid hr7; replace HR6 := Lib.hid (HR6.out.after hb7); replace M := Lib.hid (M.out.below hb7); clear hb7 hr7; dsimp only at HR7 ⊢; replace hk4 := M.out.1; replace hk3 := M.out.2.1; replace hc0 := M.out.2.2.1; replace hc1 := M.out.2.2.2.1)
        | (go_at_call 14; refine (HC.out _ M.out.2.2.2.2.1.1).mono ?_; rintro e w8 ⟨rfl, hb8⟩; replace HR6 := Lib.hid (HR6.out.after hb8); replace HR7 := Lib.hid (HR7.out.after hb8); replace M := Lib.hid (M.out.below hb8); clear hb8; dsimp only; replace hk4 := M.out.1; replace hk3 := M.out.2.1; replace hc0 := M.out.2.2.1; replace hc1 := M.out.2.2.2.1))
      go_loopw [57, 9, 16, 17, 18] (fun v57 v9 _ _ _ wr => ∃ (j : Nat) (s : List Int) (B : Option Addr) (d lh hh : Nat), j ≤ sl.length ∧ v57 = .int .i64 j ∧ v9 = .slice B s.length d ∧ Hid (stateB n l s = true) ∧ Hid (runA n l (startS n) sl = runA n l s (sl.drop j)) ∧ Hid (Mem (Loc.rdI lh hh (.slice B s.length d) s :: Loc.rdI w6.heap.size w7.heap.size (.slice A7 (endS n l).length c7) (endS n l) :: chkL w n (.slice A n.trans.length ca) c (.slice A3 sl.length c3) k) wr)) (fun v57 _ _ _ _ _ => sl.length - (intOf v57).toNat)
      case atStart => exact ⟨0, startS n, A6, c6, _, _, by omega, rfl, rfl, Lib.hid (start_state HVW.out.1 HVW.out.2), Lib.hid rfl, Lib.hid ⟨HR6.out, HR7.out, M.out⟩⟩
      case round =>
        clear M hk4 hk3 hc0 hc1 HR6 HR7
        obtain ⟨j, s, B, d, lh, hh, hj, rfl, rfl, HSB, HI, M⟩ := hrel
        have hk4 := M.out.2.2.1
        by_cases hlt : j < sl.length
        · obtain ⟨b, off, rfl, _, _, hcell⟩ := RdM.at3 (HS.out.after M.out.2.2.2.2.2.2.1.1) hlt
          have hf := stateB_facts HSB.out
          have HJ : Hid (runA n l (startS n) sl = if (applyE n l s (gti sl j)).2 = 0 then runA n l (applyE n l s (gti sl j)).1 (sl.drop (j + 1)) else none) := Lib.hid (by rw [HI.out, drop_gti hlt, runA])
          have HAS := Lib.hid (apply_state (m := gti sl j) HSB.out)
          have HAP := Lib.hid (fun (W : World) (h : Below w.heap.size w W) (hr : RdI W lh hh (.slice B s.length d) s) => apply_any n l s (gti sl j) _ _ _ lo hi lo' hi' lh hh W (HV.out.after h) (HW.out.after h) hr hf.1 hf.2.1 hf.2.2.1 hf.2.2.2.1 (by omega))
          obtain ⟨⟨fl, fe⟩, hfe⟩ : ∃ r, applyE n l s (gti sl j) = r := ⟨_, rfl⟩
          rw [hfe] at HJ HAS HAP
          simp only at HJ HAS
          clear hfe hf
          generalize gti sl j = x at *
          obtain ⟨kd, tr, ac⟩ := x
          simp only at hcell
          replace M : Hid (Mem (Loc.k3 wr.heap.size (.int .i64 kd) (.int .i64 tr) (.string ac) :: Loc.rdI lh hh (.slice B s.length d) s :: Loc.rdI w6.heap.size w7.heap.size (.slice A7 (endS n l).length c7) (endS n l) :: chkL w n (.slice A n.trans.length ca) c (.slice (some ⟨b, off, none⟩) sl.length c3) k) (wr.alloc (.cells #[.int .i64 kd, .int .i64 tr, .string ac] 57))) := Lib.hid ⟨K3.new wr _ _ _ _, M.out.alloc _⟩
          have hk3 := M.out.1
          replace hk4 := M.out.2.2.2.1
          by_cases he0 : fe = 0
          · subst he0
            rw [if_pos rfl] at HJ
            go_wp2_with (go_at_call 49; refine (HAP.out _ M.out.2.2.2.2.2.2.2.1.1 M.out.2.1).mono ?_; rintro e w9 ⟨A9, c9, rfl, hr9, hb9⟩; have HR9 := Lib.hid hr9; replace M := Lib.hid (M.out.below hb9); clear hb9 hr9; dsimp only at HR9 ⊢; replace hk4 := M.out.2.2.2.1)
            exact ⟨⟨j + 1, fl, A9, c9, _, _, by omega, by go_num, rfl, Lib.hid (HAS.out (by first | rfl | trivial)), HJ, Lib.hid ⟨HR9.out, M.out.2.2⟩⟩, by simp [intOf]; omega⟩
          · rw [if_neg he0] at HJ
            have be0 : (fe != 0) = true := by simpa using he0
            go_wp2_with (go_at_call 49; refine (HAP.out _ M.out.2.2.2.2.2.2.2.1.1 M.out.2.1).mono ?_; rintro e w9 ⟨A9, c9, rfl, hr9, hb9⟩; have HR9 := Lib.hid hr9; replace M := Lib.hid (M.out.below hb9); clear hb9 hr9; dsimp only at HR9 ⊢; replace hk4 := M.out.2.2.2.1)
            exact HR.out _ _ ⟨ret_bool (by rw [HCB.out, HJ.out]; rfl), M.out.2.2.2.2.2.2.2.1.1⟩
        · obtain rfl : j = sl.length := by omega
          have HE : Hid (checkB n l c sl k = decide (s = endS n l)) := Lib.hid (by rw [HCB.out, HI.out]; simp [runA, endB])
          clear HI
          go_wp2_with (go_at_call 23; refine (equalI_any _ _ _ _ _ _ _ _ _ M.out.1 M.out.2.1).mono ?_; rintro e w1 ⟨rfl, hb1⟩; replace M := Lib.hid (M.out.below hb1); clear hb1; skip)
          exact HR.out _ _ ⟨ret_bool HE.out.symm, M.out.2.2.2.2.2.2.1.1⟩
    · rw [decide_eq_false hcost, Bool.false_and] at HCB
      have HCO := Lib.hid hcost
      generalize costAt c sl sl.length = q at *
      have bq : (q != k) = true := by simpa using hcost
      clear hcost
      refine calls_cps fun R hR => ?_
      have HR := Lib.hid hR
      clear hR
      go_enter Try.func12, Try.ntmps12
      have M := Lib.hid hM
      clear hM
      have hk4 := M.out.1
      have hk3 := M.out.2.1
      have hc0 := M.out.2.2.1
      have hc1 := M.out.2.2.2.1
      go_wp2_with (first
        | (go_at_call 28; refine (HST.out _ M.out.2.2.2.2.1.1).mono ?_; rintro e w6 ⟨A6, c6, rfl, hr6, hb6⟩; replace M := Lib.hid (M.out.below hb6); clear hb6 hr6; dsimp only; replace hk4 := M.out.1; replace hk3 := M.out.2.1; replace hc0 := M.out.2.2.1; replace hc1 := M.out.2.2.2.1)
        | (go_at_call 30; refine (HEN.out _ M.out.2.2.2.2.1.1).mono ?_; rintro e w7 ⟨A7, c7, rfl, hr7, hb7⟩; replace M := Lib.hid (M.out.below hb7); clear hb7 hr7; dsimp only; replace hk4 := M.out.1; replace hk3 := M.out.2.1; replace hc0 := M.out.2.2.1; replace hc1 := M.out.2.2.2.1)
        | (go_at_call 14; refine (HC.out _ M.out.2.2.2.2.1.1).mono ?_; rintro e w1 ⟨rfl, hb1⟩; replace M := Lib.hid (M.out.below hb1); clear hb1; replace hk4 := M.out.1; replace hk3 := M.out.2.1; replace hc0 := M.out.2.2.1; replace hc1 := M.out.2.2.2.1))
      exact HR.out _ _ ⟨ret_bool HCB.out.symm, M.out.2.2.2.2.1.1⟩
end Go.Proofs.Ytamhbmaimiifmaa
