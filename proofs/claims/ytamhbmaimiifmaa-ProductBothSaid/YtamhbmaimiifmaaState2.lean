/-
  Walks of product's isState, of casebookref42's IsState. Conditions: none.
-/
import Derived.Test.YtamhbmaimiifmaaState
import Derived.Test.YtamhbmaimiifmaaCls
namespace Go.Proofs.Ytamhbmaimiifmaa
set_option linter.unusedSimpArgs false
set_option linter.unusedVariables false
open Go.RowKit

theorem C1.aft {w W : World} {b o : Nat} {x : Value} (hb : Below w.heap.size w W) (h : C1 w b o x) : C1 W b o x := (hb.cell (p := ⟨b, o, none⟩) (World.block_lt_of_cell? _ _ h)).trans h
def stateB (n : Net) (w : List ByteArray) (s : List Int) : Bool := wordB w && decide (1 ≤ s.length) && decide (0 ≤ gti s 0) && decide (gti s 0 ≤ w.length) && markB n (s.drop 1)
theorem stateB_iff {n : Net} {w : List ByteArray} {s : List Int} : stateB n w s = true ↔ wordB w = true ∧ 1 ≤ s.length ∧ 0 ≤ gti s 0 ∧ gti s 0 ≤ w.length ∧ markB n (s.drop 1) = true := by
  simp [stateB, and_assoc]
theorem enabledE_code (n : Net) (m : List Int) : (enabledE n m).2 = if markB n m then 0 else 1 := by
  unfold enabledE; split <;> rfl

set_option maxRecDepth 100000 in
set_option maxHeartbeats 2000000 in
theorem isState_any (n : Net) (l : List ByteArray) (s : List Int) (vt v vs : Value) (lo hi lo' hi' lo2 hi2 : Nat) (w : World) (hv : RdT w lo hi vt n.trans) (hw : RdS w lo' hi' v l) (hs : RdI w lo2 hi2 vs s) :
    Calls Try.prog 73 #[netV n vt, v, vs] w fun e w' => e = .returned (.bool (stateB n l s)) ∧ Below w.heap.size w w' := by
  obtain ⟨A, c, rfl, hc, hmm⟩ := hv.form
  obtain ⟨A2, c2, rfl, hc2, hmm2⟩ := hw.form
  obtain ⟨A3, c3, rfl, hc3, hmm3⟩ := hs.form
  have HV := Lib.hid hv
  have HW := Lib.hid hw
  have HS := Lib.hid hs
  clear hv hw
  by_cases h1 : 1 ≤ s.length
  · obtain ⟨b, off, rfl, _, _, hcell⟩ := RdI.at1 hs (k := 0) (by omega)
    obtain ⟨At, ct, hsl, ht⟩ := RdI.tail1 hs h1 hc3
    obtain ⟨tl, htl⟩ : ∃ tl, s.drop 1 = tl := ⟨_, rfl⟩
    rw [htl] at hsl ht
    have HTL := Lib.hid htl
    clear htl
    have HT := Lib.hid ht
    have hne : ((s.length : Int) == 0) = false := by rw [beq_eq_false_iff_ne]; omega
    clear hs ht
    simp only [Nat.add_zero] at hcell
    have HC := Lib.hid hcell
    clear hcell
    cases hwb : wordB l
    · have HE : Hid (stateB n l s = false) := Lib.hid (by simp [stateB, hwb])
      have HWB := Lib.hid hwb
      clear hwb
      refine calls_cps fun R hR => ?_
      have HR := Lib.hid hR
      clear hR
      go_enter Try.func73, Try.ntmps73
      have M : Hid (Mem [Loc.k4 w.heap.size (.int .i64 n.places) (.slice A n.trans.length c) (.int .i64 n.source) (.int .i64 n.sink), Loc.bl w.heap.size w] (w.alloc (.cells #[.int .i64 n.places, .slice A n.trans.length c, .int .i64 n.source, .int .i64 n.sink] 24))) := Lib.hid ⟨K4.new w _ _ _ _ _, ⟨(Below.refl _ _).alloc (Nat.le_refl _) _, by simp⟩, True.intro⟩
      have hk4 := M.out.1
      go_wp2_with (go_at_call 69; refine (isWord_is HWB.out lo' hi' _ _ (HW.out.after M.out.2.1.1)).mono ?_; rintro e w1 ⟨rfl, hb1⟩; replace M := Lib.hid (M.out.below hb1); clear hb1; skip)
      exact HR.out _ _ ⟨ret_bool HE.out.symm, M.out.2.1.1⟩
    · have HWB := Lib.hid hwb
      have HE : Hid (stateB n l s = (decide (0 ≤ gti s 0) && decide (gti s 0 ≤ l.length) && markB n tl)) := Lib.hid (by rw [← HTL.out]; simp [stateB, hwb, h1])
      clear hwb
      generalize gti s 0 = p at *
      refine calls_cps fun R hR => ?_
      have HR := Lib.hid hR
      clear hR
      go_enter Try.func73, Try.ntmps73
      have M : Hid (Mem [Loc.k4 w.heap.size (.int .i64 n.places) (.slice A n.trans.length c) (.int .i64 n.source) (.int .i64 n.sink), Loc.bl w.heap.size w] (w.alloc (.cells #[.int .i64 n.places, .slice A n.trans.length c, .int .i64 n.source, .int .i64 n.sink] 24))) := Lib.hid ⟨K4.new w _ _ _ _ _, ⟨(Below.refl _ _).alloc (Nat.le_refl _) _, by simp⟩, True.intro⟩
      have hk4 := M.out.1
      have hcell := C1.aft M.out.2.1.1 HC.out
      go_wp2_with (go_at_call 69; refine (isWord_is HWB.out lo' hi' _ _ (HW.out.after M.out.2.1.1)).mono ?_; rintro e w1 ⟨rfl, hb1⟩; replace M := Lib.hid (M.out.below hb1); clear hb1; replace hk4 := M.out.1; replace hcell := C1.aft M.out.2.1.1 HC.out)
      all_goals try (first | (refine HR.out _ _ ⟨ret_bool ?_, M.out.2.1.1⟩; rw [HE.out]; clear HE; go_light; grind))
      cases hmb : markB n tl
      all_goals
        have HMB := Lib.hid hmb
        have HCD := Lib.hid (enabledE_code n tl)
        rw [hmb] at HCD
        simp only [if_true, Bool.false_eq_true, if_false] at HCD
        clear hmb
        go_region_held3 (fun W => K4 W w.heap.size (.int .i64 n.places) (.slice A n.trans.length c) (.int .i64 n.source) (.int .i64 n.sink)) (exact hk4) (first | (go_at_call 38; refine (Enabled_any n tl _ _ lo hi lo2 hi2 _ (HV.out.after (by first | exact M.out.2.1.1 | exact M.out.drew.2.1.1)) (HT.out.after (by first | exact M.out.2.1.1 | exact M.out.drew.2.1.1))).mono ?_; rintro e w6 ⟨A6, c6, rfl, hr6, hb6⟩; rw [HCD.out]; replace M := Lib.hid (Mem.below (by first | exact M.out | exact M.out.drew) hb6); replace hk4 := M.out.1; clear hb6 hr6))
        all_goals
          go_wp2_with fail
          refine HR.out _ _ ⟨ret_bool ?_, M.out.2.1.1⟩
          rw [HE.out, HMB.out]
          clear HE
          go_light
          grind
  · have h0 : s = [] := List.eq_nil_of_length_eq_zero (by omega)
    subst h0
    have HE : Hid (stateB n l [] = false) := Lib.hid (by simp [stateB])
    clear hs
    refine calls_cps fun R hR => ?_
    have HR := Lib.hid hR
    clear hR
    go_enter Try.func73, Try.ntmps73
    have M : Hid (Mem [Loc.k4 w.heap.size (.int .i64 n.places) (.slice A n.trans.length c) (.int .i64 n.source) (.int .i64 n.sink), Loc.bl w.heap.size w] (w.alloc (.cells #[.int .i64 n.places, .slice A n.trans.length c, .int .i64 n.source, .int .i64 n.sink] 24))) := Lib.hid ⟨K4.new w _ _ _ _ _, ⟨(Below.refl _ _).alloc (Nat.le_refl _) _, by simp⟩, True.intro⟩
    have hk4 := M.out.1
    go_wp2_with (go_at_call 69; refine (isWord_any l lo' hi' _ _ (HW.out.after M.out.2.1.1)).mono ?_; rintro e w1 ⟨rfl, hb1⟩; replace M := Lib.hid (M.out.below hb1); clear hb1; skip)
    all_goals exact HR.out _ _ ⟨ret_bool HE.out.symm, M.out.2.1.1⟩

theorem mark2B_drop {n : Net} {s : List Int} (hp : 1 ≤ n.places) (h : ¬ (s.length : Int) = n.places + 1) : (decide (1 ≤ s.length) && mark2B n (s.drop 1)) = false := by
  by_cases h1 : 1 ≤ s.length
  · rw [mark2B, if_pos (by simp; omega)]
    simp
  · simp [h1]
theorem stateB_len {n : Net} {w : List ByteArray} {s : List Int} (hp : 1 ≤ n.places) (h : ¬ (s.length : Int) = n.places + 1) : stateB n w s = false := by
  have := mark2B_drop hp h
  unfold stateB markB
  grind
set_option maxRecDepth 100000 in
set_option maxHeartbeats 4000000 in
theorem rIsState_any (n : Net) (l : List ByteArray) (s : List Int) (vt v vs : Value) (lo hi lo' hi' lo2 hi2 : Nat) (w : World) (hv : RdT w lo hi vt n.trans) (hw : RdS w lo' hi' v l) (hs : RdI w lo2 hi2 vs s) :
    Calls Try.prog 35 #[netV n vt, v, vs] w fun e w' => e = .returned (.bool (stateB n l s)) ∧ Below w.heap.size w w' := by
  obtain ⟨A, c, rfl, hc, hmm⟩ := hv.form
  obtain ⟨A2, c2, rfl, hc2, hmm2⟩ := hw.form
  obtain ⟨A3, c3, rfl, hc3, hmm3⟩ := hs.form
  have HV := Lib.hid hv
  have HW := Lib.hid hw
  clear hv hw
  have tl : List Int := []
  have HT : Hid (RdI w lo2 hi2 (.slice none 0 0) ([] : List Int)) := Lib.hid (Rd.nil _ _ _)
  cases hvb : validB n with
  | false =>
    have HVB := Lib.hid hvb
    have HE : Hid (stateB n l s = false) := Lib.hid (by simp [stateB, markB, hvb])
    have HWB : Hid (wordB l = wordB l) := Lib.hid rfl
    clear hvb hs
    refine calls_cps fun R hR => ?_
    have HR := Lib.hid hR
    clear hR
    go_enter Try.func35, Try.ntmps35
    have M : Hid (Mem [Loc.k4 w.heap.size (.int .i64 n.places) (.slice A n.trans.length c) (.int .i64 n.source) (.int .i64 n.sink), Loc.bl w.heap.size w] (w.alloc (.cells #[.int .i64 n.places, .slice A n.trans.length c, .int .i64 n.source, .int .i64 n.sink] 24))) := Lib.hid ⟨K4.new w _ _ _ _ _, ⟨(Below.refl _ _).alloc (Nat.le_refl _) _, by simp⟩, True.intro⟩
    have hk4 := M.out.1
    go_wp2_with fail
    refine wp_region_cls (C := (Mem [Loc.k4 w.heap.size (.int .i64 n.places) (.slice A n.trans.length c) (.int .i64 n.source) (.int .i64 n.sink), Loc.bl w.heap.size w])) (by kernel_rfl) (by kernel_rfl) (by exact M.out.drew) ?_
    repeat (first
      | (refine BigFrame.wpQuiet_skip (by rfl) ?_; simp only [Act.put, List.setIfInBounds_toArray, List.set_cons_zero, List.set_cons_succ])
      | (refine BigFrame.wpQuiet_want (by rfl) (fun K hK => ?_); refine BigFrame.quiet_move _ rfl (hK _ ?_); clear hK K; simp only [Act.put, Act.eval, List.setIfInBounds_toArray, List.set_cons_zero, List.set_cons_succ, List.getD_toArray, List.getD_cons_zero, List.getD_cons_succ])
      | (refine BigFrame.wpQuiet_want (by rfl) (fun K hK => ?_); refine BigFrame.quiet_assign _ rfl (hK _ ?_); clear hK K; simp only [Act.put, Act.eval, List.setIfInBounds_toArray, List.set_cons_zero, List.set_cons_succ, List.getD_toArray, List.getD_cons_zero, List.getD_cons_succ])
      | (refine BigFrame.wpQuiet_want (by rfl) (fun K hK => ?_); refine quiet_of (v := ?_) (fun W hW => ?_) (hK _ ?_); rotate_left; ((have hq1 := hW.1; dsimp only [Loc.k4] at hq1); go_simp; try (with_reducible rfl)); clear hK K; simp only [Act.put, List.setIfInBounds_toArray, List.set_cons_zero, List.set_cons_succ])
      | (refine BigFrame.wpQuiet_want (by rfl) (fun K hK => ?_); go_simp; apply Exists.intro; refine ⟨fun W hW => ?_, hK _ ?_⟩; (first
        | exact (rvalid_is HVB.out _ lo hi _ (HV.out.after hW.2.1.1)).mono (fun e w' h => ⟨h.1, hW.below h.2⟩)
        | exact (rIsWord_is HWB.out lo' hi' _ _ (HW.out.after hW.2.1.1)).mono (fun e w' h => ⟨h.1, hW.below h.2⟩)
        | exact (rmarking_any n _ tl _ lo2 hi2 _ (HT.out.after hW.2.1.1)).mono (fun e w' h => ⟨h.1, hW.below h.2⟩)); clear hK K; try simp only [Act.put, List.setIfInBounds_toArray, List.set_cons_zero, List.set_cons_succ])
      | fail)
    refine wpQuiet_nil ?_
    intro W hW
    go_wp2_with fail
    refine HR.out _ _ ⟨ret_bool ?_, hW.2.1.1⟩
    first | exact HE.out.symm | (rw [HE.out]; rfl)
  | true =>
  have hpl := validB_places hvb
  have hwr : IntKind.i64.wrap (n.places + 1) = n.places + 1 := IntWalk.i64_in _ (by omega)
  have HVB := Lib.hid hvb
  clear hvb
  cases hwb : wordB l with
  | false =>
    have HE : Hid (stateB n l s = false) := Lib.hid (by simp [stateB, hwb])
    have HWB := Lib.hid hwb
    clear hwb hs
    refine calls_cps fun R hR => ?_
    have HR := Lib.hid hR
    clear hR
    go_enter Try.func35, Try.ntmps35
    have M : Hid (Mem [Loc.k4 w.heap.size (.int .i64 n.places) (.slice A n.trans.length c) (.int .i64 n.source) (.int .i64 n.sink), Loc.bl w.heap.size w] (w.alloc (.cells #[.int .i64 n.places, .slice A n.trans.length c, .int .i64 n.source, .int .i64 n.sink] 24))) := Lib.hid ⟨K4.new w _ _ _ _ _, ⟨(Below.refl _ _).alloc (Nat.le_refl _) _, by simp⟩, True.intro⟩
    have hk4 := M.out.1
    go_wp2_with fail
    refine wp_region_cls (C := (Mem [Loc.k4 w.heap.size (.int .i64 n.places) (.slice A n.trans.length c) (.int .i64 n.source) (.int .i64 n.sink), Loc.bl w.heap.size w])) (by kernel_rfl) (by kernel_rfl) (by exact M.out.drew) ?_
    repeat (first
      | (refine BigFrame.wpQuiet_skip (by rfl) ?_; simp only [Act.put, List.setIfInBounds_toArray, List.set_cons_zero, List.set_cons_succ])
      | (refine BigFrame.wpQuiet_want (by rfl) (fun K hK => ?_); refine BigFrame.quiet_move _ rfl (hK _ ?_); clear hK K; simp only [Act.put, Act.eval, List.setIfInBounds_toArray, List.set_cons_zero, List.set_cons_succ, List.getD_toArray, List.getD_cons_zero, List.getD_cons_succ])
      | (refine BigFrame.wpQuiet_want (by rfl) (fun K hK => ?_); refine BigFrame.quiet_assign _ rfl (hK _ ?_); clear hK K; simp only [Act.put, Act.eval, List.setIfInBounds_toArray, List.set_cons_zero, List.set_cons_succ, List.getD_toArray, List.getD_cons_zero, List.getD_cons_succ])
      | (refine BigFrame.wpQuiet_want (by rfl) (fun K hK => ?_); refine quiet_of (v := ?_) (fun W hW => ?_) (hK _ ?_); rotate_left; ((have hq1 := hW.1; dsimp only [Loc.k4] at hq1); go_simp; try (with_reducible rfl)); clear hK K; simp only [Act.put, List.setIfInBounds_toArray, List.set_cons_zero, List.set_cons_succ])
      | (refine BigFrame.wpQuiet_want (by rfl) (fun K hK => ?_); go_simp; apply Exists.intro; refine ⟨fun W hW => ?_, hK _ ?_⟩; (first
        | exact (rvalid_is HVB.out _ lo hi _ (HV.out.after hW.2.1.1)).mono (fun e w' h => ⟨h.1, hW.below h.2⟩)
        | exact (rIsWord_is HWB.out lo' hi' _ _ (HW.out.after hW.2.1.1)).mono (fun e w' h => ⟨h.1, hW.below h.2⟩)
        | exact (rmarking_any n _ tl _ lo2 hi2 _ (HT.out.after hW.2.1.1)).mono (fun e w' h => ⟨h.1, hW.below h.2⟩)); clear hK K; try simp only [Act.put, List.setIfInBounds_toArray, List.set_cons_zero, List.set_cons_succ])
      | fail)
    refine wpQuiet_nil ?_
    intro W hW
    go_wp2_with fail
    refine HR.out _ _ ⟨ret_bool ?_, hW.2.1.1⟩
    first | exact HE.out.symm | (rw [HE.out]; rfl)
  | true =>
  have HWB := Lib.hid hwb
  by_cases h1 : (s.length : Int) = n.places + 1
  · have h1' : 1 ≤ s.length := by omega
    have hs0 : (0 : Int) < (s.length : Int) := by omega
    have hs2 : ¬ s = [] := by intro e; rw [e] at h1'; simp at h1'
    have hs3 : 0 < s.length := h1'
    have b1 : ((s.length : Int) == n.places + 1) = true := by rw [beq_iff_eq]; exact h1
    obtain ⟨b, off, rfl, _, _, hcell⟩ := RdI.at1 hs (k := 0) (by omega)
    obtain ⟨At, ct, hsl, ht⟩ := RdI.tail1 hs h1' hc3
    clear tl HT
    obtain ⟨tl, htl⟩ : ∃ tl, s.drop 1 = tl := ⟨_, rfl⟩
    rw [htl] at hsl ht
    have HE : Hid (stateB n l s = (decide (0 ≤ gti s 0) && decide (gti s 0 ≤ l.length) && mark2B n tl)) := Lib.hid (by rw [← htl]; simp [stateB, hwb, h1', markB, HVB.out])
    have HTL := Lib.hid htl
    clear htl
    have HT := Lib.hid ht
    clear hs ht hwb
    simp only [Nat.add_zero] at hcell
    have HC := Lib.hid hcell
    clear hcell
    generalize gti s 0 = p at *
    have H1 := Lib.hid h1
    clear h1
    by_cases g1 : 0 ≤ p
    · have b2 := decide_eq_true g1
      by_cases g2 : p ≤ l.length
      · have b3 := decide_eq_true g2
        replace HE : Hid (stateB n l s = mark2B n tl) := Lib.hid (by rw [HE.out, b2, b3]; rfl)
        refine calls_cps fun R hR => ?_
        have HR := Lib.hid hR
        clear hR
        go_enter Try.func35, Try.ntmps35
        have M : Hid (Mem [Loc.k4 w.heap.size (.int .i64 n.places) (.slice (A) n.trans.length c) (.int .i64 n.source) (.int .i64 n.sink), Loc.bl w.heap.size w] (w.alloc (.cells #[.int .i64 n.places, .slice (A) n.trans.length c, .int .i64 n.source, .int .i64 n.sink] 24))) := Lib.hid ⟨K4.new w _ _ _ _ _, ⟨(Below.refl _ _).alloc (Nat.le_refl _) _, by simp⟩, True.intro⟩
        have hk4 := M.out.1
        have hcell := C1.aft M.out.2.1.1 HC.out
        go_wp2_with fail
        refine wp_region_cls (C := (Mem [Loc.k4 w.heap.size (.int .i64 n.places) (.slice A n.trans.length c) (.int .i64 n.source) (.int .i64 n.sink), Loc.bl w.heap.size w, Loc.c1 b off (.int .i64 p)])) (by kernel_rfl) (by kernel_rfl) (by exact Mem.drew (l := [_, _, Loc.c1 _ _ _]) ⟨M.out.1, M.out.2.1, hcell, True.intro⟩) ?_
        repeat (first
          | (refine BigFrame.wpQuiet_skip (by rfl) ?_; simp only [Act.put, List.setIfInBounds_toArray, List.set_cons_zero, List.set_cons_succ])
          | (refine BigFrame.wpQuiet_want (by rfl) (fun K hK => ?_); refine BigFrame.quiet_move _ rfl (hK _ ?_); clear hK K; simp only [Act.put, Act.eval, List.setIfInBounds_toArray, List.set_cons_zero, List.set_cons_succ, List.getD_toArray, List.getD_cons_zero, List.getD_cons_succ])
          | (refine BigFrame.wpQuiet_want (by rfl) (fun K hK => ?_); refine BigFrame.quiet_assign _ rfl (hK _ ?_); clear hK K; simp only [Act.put, Act.eval, List.setIfInBounds_toArray, List.set_cons_zero, List.set_cons_succ, List.getD_toArray, List.getD_cons_zero, List.getD_cons_succ])
          | (refine BigFrame.wpQuiet_want (by rfl) (fun K hK => ?_); refine quiet_of (v := ?_) (fun W hW => ?_) (hK _ ?_); rotate_left; ((have hq1 := hW.1; have hq2 := hW.2.2.1; dsimp only [Loc.k4, Loc.c1] at hq1 hq2); go_simp; try (with_reducible rfl)); clear hK K; simp only [Act.put, List.setIfInBounds_toArray, List.set_cons_zero, List.set_cons_succ])
          | (refine BigFrame.wpQuiet_want (by rfl) (fun K hK => ?_); go_simp; apply Exists.intro; refine ⟨fun W hW => ?_, hK _ ?_⟩; (first
            | exact (rvalid_is HVB.out _ lo hi _ (HV.out.after hW.2.1.1)).mono (fun e w' h => ⟨h.1, hW.below h.2⟩)
            | exact (rIsWord_is HWB.out lo' hi' _ _ (HW.out.after hW.2.1.1)).mono (fun e w' h => ⟨h.1, hW.below h.2⟩)
            | exact (rmarking_any n _ tl _ lo2 hi2 _ (HT.out.after hW.2.1.1)).mono (fun e w' h => ⟨h.1, hW.below h.2⟩)); clear hK K; try simp only [Act.put, List.setIfInBounds_toArray, List.set_cons_zero, List.set_cons_succ])
          | fail)
        refine wpQuiet_nil ?_
        intro W hW
        go_wp2_with fail
        refine HR.out _ _ ⟨ret_bool ?_, hW.2.1.1⟩
        first | exact HE.out.symm | (rw [HE.out]; rfl)
      · have b3 := decide_eq_false g2
        replace HE : Hid (stateB n l s = false) := Lib.hid (by rw [HE.out, b2, b3]; rfl)
        refine calls_cps fun R hR => ?_
        have HR := Lib.hid hR
        clear hR
        go_enter Try.func35, Try.ntmps35
        have M : Hid (Mem [Loc.k4 w.heap.size (.int .i64 n.places) (.slice (A) n.trans.length c) (.int .i64 n.source) (.int .i64 n.sink), Loc.bl w.heap.size w] (w.alloc (.cells #[.int .i64 n.places, .slice (A) n.trans.length c, .int .i64 n.source, .int .i64 n.sink] 24))) := Lib.hid ⟨K4.new w _ _ _ _ _, ⟨(Below.refl _ _).alloc (Nat.le_refl _) _, by simp⟩, True.intro⟩
        have hk4 := M.out.1
        have hcell := C1.aft M.out.2.1.1 HC.out
        go_wp2_with fail
        refine wp_region_cls (C := (Mem [Loc.k4 w.heap.size (.int .i64 n.places) (.slice A n.trans.length c) (.int .i64 n.source) (.int .i64 n.sink), Loc.bl w.heap.size w, Loc.c1 b off (.int .i64 p)])) (by kernel_rfl) (by kernel_rfl) (by exact Mem.drew (l := [_, _, Loc.c1 _ _ _]) ⟨M.out.1, M.out.2.1, hcell, True.intro⟩) ?_
        repeat (first
          | (refine BigFrame.wpQuiet_skip (by rfl) ?_; simp only [Act.put, List.setIfInBounds_toArray, List.set_cons_zero, List.set_cons_succ])
          | (refine BigFrame.wpQuiet_want (by rfl) (fun K hK => ?_); refine BigFrame.quiet_move _ rfl (hK _ ?_); clear hK K; simp only [Act.put, Act.eval, List.setIfInBounds_toArray, List.set_cons_zero, List.set_cons_succ, List.getD_toArray, List.getD_cons_zero, List.getD_cons_succ])
          | (refine BigFrame.wpQuiet_want (by rfl) (fun K hK => ?_); refine BigFrame.quiet_assign _ rfl (hK _ ?_); clear hK K; simp only [Act.put, Act.eval, List.setIfInBounds_toArray, List.set_cons_zero, List.set_cons_succ, List.getD_toArray, List.getD_cons_zero, List.getD_cons_succ])
          | (refine BigFrame.wpQuiet_want (by rfl) (fun K hK => ?_); refine quiet_of (v := ?_) (fun W hW => ?_) (hK _ ?_); rotate_left; ((have hq1 := hW.1; have hq2 := hW.2.2.1; dsimp only [Loc.k4, Loc.c1] at hq1 hq2); go_simp; try (with_reducible rfl)); clear hK K; simp only [Act.put, List.setIfInBounds_toArray, List.set_cons_zero, List.set_cons_succ])
          | (refine BigFrame.wpQuiet_want (by rfl) (fun K hK => ?_); go_simp; apply Exists.intro; refine ⟨fun W hW => ?_, hK _ ?_⟩; (first
            | exact (rvalid_is HVB.out _ lo hi _ (HV.out.after hW.2.1.1)).mono (fun e w' h => ⟨h.1, hW.below h.2⟩)
            | exact (rIsWord_is HWB.out lo' hi' _ _ (HW.out.after hW.2.1.1)).mono (fun e w' h => ⟨h.1, hW.below h.2⟩)
            | exact (rmarking_any n _ tl _ lo2 hi2 _ (HT.out.after hW.2.1.1)).mono (fun e w' h => ⟨h.1, hW.below h.2⟩)); clear hK K; try simp only [Act.put, List.setIfInBounds_toArray, List.set_cons_zero, List.set_cons_succ])
          | fail)
        refine wpQuiet_nil ?_
        intro W hW
        go_wp2_with fail
        refine HR.out _ _ ⟨ret_bool ?_, hW.2.1.1⟩
        first | exact HE.out.symm | (rw [HE.out]; rfl)
    · have b2 := decide_eq_false g1
      replace HE : Hid (stateB n l s = false) := Lib.hid (by rw [HE.out, b2]; rfl)
      refine calls_cps fun R hR => ?_
      have HR := Lib.hid hR
      clear hR
      go_enter Try.func35, Try.ntmps35
      have M : Hid (Mem [Loc.k4 w.heap.size (.int .i64 n.places) (.slice (A) n.trans.length c) (.int .i64 n.source) (.int .i64 n.sink), Loc.bl w.heap.size w] (w.alloc (.cells #[.int .i64 n.places, .slice (A) n.trans.length c, .int .i64 n.source, .int .i64 n.sink] 24))) := Lib.hid ⟨K4.new w _ _ _ _ _, ⟨(Below.refl _ _).alloc (Nat.le_refl _) _, by simp⟩, True.intro⟩
      have hk4 := M.out.1
      have hcell := C1.aft M.out.2.1.1 HC.out
      go_wp2_with fail
      refine wp_region_cls (C := (Mem [Loc.k4 w.heap.size (.int .i64 n.places) (.slice A n.trans.length c) (.int .i64 n.source) (.int .i64 n.sink), Loc.bl w.heap.size w, Loc.c1 b off (.int .i64 p)])) (by kernel_rfl) (by kernel_rfl) (by exact Mem.drew (l := [_, _, Loc.c1 _ _ _]) ⟨M.out.1, M.out.2.1, hcell, True.intro⟩) ?_
      repeat (first
        | (refine BigFrame.wpQuiet_skip (by rfl) ?_; simp only [Act.put, List.setIfInBounds_toArray, List.set_cons_zero, List.set_cons_succ])
        | (refine BigFrame.wpQuiet_want (by rfl) (fun K hK => ?_); refine BigFrame.quiet_move _ rfl (hK _ ?_); clear hK K; simp only [Act.put, Act.eval, List.setIfInBounds_toArray, List.set_cons_zero, List.set_cons_succ, List.getD_toArray, List.getD_cons_zero, List.getD_cons_succ])
        | (refine BigFrame.wpQuiet_want (by rfl) (fun K hK => ?_); refine BigFrame.quiet_assign _ rfl (hK _ ?_); clear hK K; simp only [Act.put, Act.eval, List.setIfInBounds_toArray, List.set_cons_zero, List.set_cons_succ, List.getD_toArray, List.getD_cons_zero, List.getD_cons_succ])
        | (refine BigFrame.wpQuiet_want (by rfl) (fun K hK => ?_); refine quiet_of (v := ?_) (fun W hW => ?_) (hK _ ?_); rotate_left; ((have hq1 := hW.1; have hq2 := hW.2.2.1; dsimp only [Loc.k4, Loc.c1] at hq1 hq2); go_simp; try (with_reducible rfl)); clear hK K; simp only [Act.put, List.setIfInBounds_toArray, List.set_cons_zero, List.set_cons_succ])
        | (refine BigFrame.wpQuiet_want (by rfl) (fun K hK => ?_); go_simp; apply Exists.intro; refine ⟨fun W hW => ?_, hK _ ?_⟩; (first
          | exact (rvalid_is HVB.out _ lo hi _ (HV.out.after hW.2.1.1)).mono (fun e w' h => ⟨h.1, hW.below h.2⟩)
          | exact (rIsWord_is HWB.out lo' hi' _ _ (HW.out.after hW.2.1.1)).mono (fun e w' h => ⟨h.1, hW.below h.2⟩)
          | exact (rmarking_any n _ tl _ lo2 hi2 _ (HT.out.after hW.2.1.1)).mono (fun e w' h => ⟨h.1, hW.below h.2⟩)); clear hK K; try simp only [Act.put, List.setIfInBounds_toArray, List.set_cons_zero, List.set_cons_succ])
        | fail)
      refine wpQuiet_nil ?_
      intro W hW
      go_wp2_with fail
      refine HR.out _ _ ⟨ret_bool ?_, hW.2.1.1⟩
      first | exact HE.out.symm | (rw [HE.out]; rfl)
  · have b1 : ((s.length : Int) == n.places + 1) = false := by rw [beq_eq_false_iff_ne]; exact h1
    have HE : Hid (stateB n l s = false) := Lib.hid (stateB_len hpl.1 h1)
    clear hwb hs h1
    refine calls_cps fun R hR => ?_
    have HR := Lib.hid hR
    clear hR
    go_enter Try.func35, Try.ntmps35
    have M : Hid (Mem [Loc.k4 w.heap.size (.int .i64 n.places) (.slice A n.trans.length c) (.int .i64 n.source) (.int .i64 n.sink), Loc.bl w.heap.size w] (w.alloc (.cells #[.int .i64 n.places, .slice A n.trans.length c, .int .i64 n.source, .int .i64 n.sink] 24))) := Lib.hid ⟨K4.new w _ _ _ _ _, ⟨(Below.refl _ _).alloc (Nat.le_refl _) _, by simp⟩, True.intro⟩
    have hk4 := M.out.1
    go_wp2_with fail
    refine wp_region_cls (C := (Mem [Loc.k4 w.heap.size (.int .i64 n.places) (.slice A n.trans.length c) (.int .i64 n.source) (.int .i64 n.sink), Loc.bl w.heap.size w])) (by kernel_rfl) (by kernel_rfl) (by exact M.out.drew) ?_
    repeat (first
      | (refine BigFrame.wpQuiet_skip (by rfl) ?_; simp only [Act.put, List.setIfInBounds_toArray, List.set_cons_zero, List.set_cons_succ])
      | (refine BigFrame.wpQuiet_want (by rfl) (fun K hK => ?_); refine BigFrame.quiet_move _ rfl (hK _ ?_); clear hK K; simp only [Act.put, Act.eval, List.setIfInBounds_toArray, List.set_cons_zero, List.set_cons_succ, List.getD_toArray, List.getD_cons_zero, List.getD_cons_succ])
      | (refine BigFrame.wpQuiet_want (by rfl) (fun K hK => ?_); refine BigFrame.quiet_assign _ rfl (hK _ ?_); clear hK K; simp only [Act.put, Act.eval, List.setIfInBounds_toArray, List.set_cons_zero, List.set_cons_succ, List.getD_toArray, List.getD_cons_zero, List.getD_cons_succ])
      | (refine BigFrame.wpQuiet_want (by rfl) (fun K hK => ?_); refine quiet_of (v := ?_) (fun W hW => ?_) (hK _ ?_); rotate_left; ((have hq1 := hW.1; dsimp only [Loc.k4] at hq1); go_simp; try (with_reducible rfl)); clear hK K; simp only [Act.put, List.setIfInBounds_toArray, List.set_cons_zero, List.set_cons_succ])
      | (refine BigFrame.wpQuiet_want (by rfl) (fun K hK => ?_); go_simp; apply Exists.intro; refine ⟨fun W hW => ?_, hK _ ?_⟩; (first
        | exact (rvalid_is HVB.out _ lo hi _ (HV.out.after hW.2.1.1)).mono (fun e w' h => ⟨h.1, hW.below h.2⟩)
        | exact (rIsWord_is HWB.out lo' hi' _ _ (HW.out.after hW.2.1.1)).mono (fun e w' h => ⟨h.1, hW.below h.2⟩)
        | exact (rmarking_any n _ tl _ lo2 hi2 _ (HT.out.after hW.2.1.1)).mono (fun e w' h => ⟨h.1, hW.below h.2⟩)); clear hK K; try simp only [Act.put, List.setIfInBounds_toArray, List.set_cons_zero, List.set_cons_succ])
      | fail)
    refine wpQuiet_nil ?_
    intro W hW
    go_wp2_with fail
    refine HR.out _ _ ⟨ret_bool ?_, hW.2.1.1⟩
    first | exact HE.out.symm | (rw [HE.out]; rfl)
end Go.Proofs.Ytamhbmaimiifmaa
