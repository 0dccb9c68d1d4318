import Derived.Test.YtohmldibkojkfaaGreatDoorJA10
import Derived.Test.YtohmldibkojkfaaGreatDoorJA5
import Derived.Test.YtohmldibkojkfaaGreatDoorJA6
set_option linter.unusedSimpArgs false
set_option linter.unusedVariables false
set_option linter.unusedSectionVars false
section
namespace Go.Proofs.YtohmldibkojkfaaGreatDoor
open Go.RowKit
theorem C1.aft {w W : World} {b o : Nat} {x : Value} (hb : Below w.heap.size w W) (h : C1 w b o x) : C1 W b o x := (hb.cell (p := ⟨b, o, none⟩) (World.block_lt_of_cell? _ _ h)).trans h
def zcm (n : Net) (w : List ByteArray) (s : List Int) : Bool := zd4 w && decide (1 ≤ s.length) && decide (0 ≤ gti s 0) && decide (gti s 0 ≤ w.length) && zc5 n (s.drop 1)
theorem zdo {n : Net} {w : List ByteArray} {s : List Int} : zcm n w s = true ↔ zd4 w = true ∧ 1 ≤ s.length ∧ 0 ≤ gti s 0 ∧ gti s 0 ≤ w.length ∧ zc5 n (s.drop 1) = true := by
 simp [zcm, and_assoc]
theorem znz (n : Net) (m : List Int) : (ziv n m).2 = if zc5 n m then 0 else 1 := by
 unfold ziv; split <;> rfl
set_option maxRecDepth 100000 in
set_option maxHeartbeats 2000000 in
theorem zq1 (n : Net) (l : List ByteArray) (s : List Int) (vt v vs : Value) (lo hi lo' hi' lo2 hi2 : Nat) (w : World) (hv : RdT w lo hi vt n.trans) (hw : RdS w lo' hi' v l) (hs : RdI w lo2 hi2 vs s) :
  Calls Tryz.prog 123 #[netV n vt, v, vs] w fun e w' => e = .returned (.bool (zcm n l s)) ∧ Below w.heap.size w w' := by
 obtain ⟨A, c, rfl, hc, hmm⟩ := hv.form
 obtain ⟨A2, c2, rfl, hc2, hmm2⟩ := hw.form
 obtain ⟨A3, c3, rfl, hc3, hmm3⟩ := hs.form
 have HV := Lib.hid hv
 have HW := Lib.hid hw
 have HS := Lib.hid hs
 clear hv hw
 by_cases h1 : 1 ≤ s.length
 ·
  obtain ⟨b, off, rfl, _, _, hcell⟩ := RdI.at1 hs (k := 0) (by omega)
  obtain ⟨At, ct, hsl, ht⟩ := RdI.tail1 hs h1 hc3
  obtain ⟨tl, htl⟩ : ∃ tl, s.drop 1 = tl := ⟨_, rfl⟩
  rw [htl] at hsl ht
  have HTL := Lib.hid htl
  clear htl
  have HT := Lib.hid ht
  have hne : ((s.length : Int) == 0) = false := by rw [beq_eq_false_iff_ne]; omega
  clear hs ht
  simp only [Nat.add_zero] at hcell
  have HC := Lib.hid hcell
  clear hcell
  cases hwb : zd4 l
  ·
   have HE : Hid (zcm n l s = false) := Lib.hid (by simp [zcm, hwb])
   have HWB := Lib.hid hwb
   clear hwb
   refine zal fun R hR => ?_
   have HR := Lib.hid hR
   clear hR
   go_enter Tryz.func123, Tryz.ntmps123
   have M : Hid (Mem [Loc.k4 w.heap.size (.int .i64 n.places) (.slice A n.trans.length c) (.int .i64 n.source) (.int .i64 n.sink), Loc.bl w.heap.size w] (w.alloc (.cells #[.int .i64 n.places, .slice A n.trans.length c, .int .i64 n.source, .int .i64 n.sink] 24))) := Lib.hid ⟨K4.new w _ _ _ _ _, ⟨(Below.refl _ _).alloc (Nat.le_refl _) _, by simp⟩, True.intro⟩
   have hk4 := M.out.1
   go_wp2_with (go_at_call 120; refine (zf9 HWB.out lo' hi' _ _ (HW.out.after M.out.2.1.1)).mono ?_; rintro e w1 ⟨rfl, hb1⟩; replace M := Lib.hid (M.out.below hb1); clear hb1; skip)
   exact HR.out _ _ ⟨zbt HE.out.symm, M.out.2.1.1⟩
  ·
   have HWB := Lib.hid hwb
   have HE : Hid (zcm n l s = (decide (0 ≤ gti s 0) && decide (gti s 0 ≤ l.length) && zc5 n tl)) := Lib.hid (by rw [← HTL.out]; simp [zcm, hwb, h1])
   clear hwb
   generalize gti s 0 = p at *
   refine zal fun R hR => ?_
   have HR := Lib.hid hR
   clear hR
   go_enter Tryz.func123, Tryz.ntmps123
   have M : Hid (Mem [Loc.k4 w.heap.size (.int .i64 n.places) (.slice A n.trans.length c) (.int .i64 n.source) (.int .i64 n.sink), Loc.bl w.heap.size w] (w.alloc (.cells #[.int .i64 n.places, .slice A n.trans.length c, .int .i64 n.source, .int .i64 n.sink] 24))) := Lib.hid ⟨K4.new w _ _ _ _ _, ⟨(Below.refl _ _).alloc (Nat.le_refl _) _, by simp⟩, True.intro⟩
   have hk4 := M.out.1
   have hcell := C1.aft M.out.2.1.1 HC.out
   go_wp2_with (go_at_call 120; refine (zf9 HWB.out lo' hi' _ _ (HW.out.after M.out.2.1.1)).mono ?_; rintro e w1 ⟨rfl, hb1⟩; replace M := Lib.hid (M.out.below hb1); clear hb1; replace hk4 := M.out.1; replace hcell := C1.aft M.out.2.1.1 HC.out)
   all_goals (try (first | (refine HR.out _ _ ⟨zbt ?_, M.out.2.1.1⟩; rw [HE.out]; clear HE; go_light; grind)))
   cases hmb : zc5 n tl
   all_goals
    have HMB := Lib.hid hmb
    have HCD := Lib.hid (znz n tl)
    rw [hmb] at HCD
    simp only [if_true, Bool.false_eq_true, if_false] at HCD
    clear hmb
    go_region_held3 (fun W => K4 W w.heap.size (.int .i64 n.places) (.slice A n.trans.length c) (.int .i64 n.source) (.int .i64 n.sink)) (exact hk4) (first | (go_at_call 149; refine (zrr n tl _ _ lo hi lo2 hi2 _ (HV.out.after (by first | exact M.out.2.1.1 | exact M.out.drew.2.1.1)) (HT.out.after (by first | exact M.out.2.1.1 | exact M.out.drew.2.1.1))).mono ?_; rintro e w6 ⟨A6, c6, rfl, hr6, hb6⟩; rw [HCD.out]; replace M := Lib.hid (Mem.below (by first | exact M.out | exact M.out.drew) hb6); replace hk4 := M.out.1; clear hb6 hr6))
    all_goals
     go_wp2_with fail
     refine HR.out _ _ ⟨zbt ?_, M.out.2.1.1⟩
     rw [HE.out, HMB.out]
     clear HE
     go_light
     grind
 ·
  have h0 : s = [] := List.eq_nil_of_length_eq_zero (by omega)
  subst h0
  have HE : Hid (zcm n l [] = false) := Lib.hid (by simp [zcm])
  clear hs
  refine zal fun R hR => ?_
  have HR := Lib.hid hR
  clear hR
  go_enter Tryz.func123, Tryz.ntmps123
  have M : Hid (Mem [Loc.k4 w.heap.size (.int .i64 n.places) (.slice A n.trans.length c) (.int .i64 n.source) (.int .i64 n.sink), Loc.bl w.heap.size w] (w.alloc (.cells #[.int .i64 n.places, .slice A n.trans.length c, .int .i64 n.source, .int .i64 n.sink] 24))) := Lib.hid ⟨K4.new w _ _ _ _ _, ⟨(Below.refl _ _).alloc (Nat.le_refl _) _, by simp⟩, True.intro⟩
  have hk4 := M.out.1
  go_wp2_with (go_at_call 120; refine (zmv l lo' hi' _ _ (HW.out.after M.out.2.1.1)).mono ?_; rintro e w1 ⟨rfl, hb1⟩; replace M := Lib.hid (M.out.below hb1); clear hb1; skip)
  all_goals exact HR.out _ _ ⟨zbt HE.out.symm, M.out.2.1.1⟩
theorem zqy {n : Net} {s : List Int} (hp : 1 ≤ n.places) (h : ¬ (s.length : Int) = n.places + 1) : (decide (1 ≤ s.length) && zdc n (s.drop 1)) = false := by
 by_cases h1 : 1 ≤ s.length
 ·
  rw [zdc, if_pos (by simp; omega)]
  simp
 ·
  simp [h1]
theorem ztm {n : Net} {w : List ByteArray} {s : List Int} (hp : 1 ≤ n.places) (h : ¬ (s.length : Int) = n.places + 1) : zcm n w s = false := by
 have := zqy hp h
 unfold zcm zc5
 grind
set_option maxRecDepth 100000 in
set_option maxHeartbeats 4000000 in
theorem zow (n : Net) (l : List ByteArray) (s : List Int) (vt v vs : Value) (lo hi lo' hi' lo2 hi2 : Nat) (w : World) (hv : RdT w lo hi vt n.trans) (hw : RdS w lo' hi' v l) (hs : RdI w lo2 hi2 vs s) :
  Calls Tryz.prog 156 #[netV n vt, v, vs] w fun e w' => e = .returned (.bool (zcm n l s)) ∧ Below w.heap.size w w' := by
 obtain ⟨A, c, rfl, hc, hmm⟩ := hv.form
 obtain ⟨A2, c2, rfl, hc2, hmm2⟩ := hw.form
 obtain ⟨A3, c3, rfl, hc3, hmm3⟩ := hs.form
 have HV := Lib.hid hv
 have HW := Lib.hid hw
 clear hv hw
 have tl : List Int := []
 have HT : Hid (RdI w lo2 hi2 (.slice none 0 0) ([] : List Int)) := Lib.hid (Rd.nil _ _ _)
 cases hvb : zb2 n with
 | false =>
  have HVB := Lib.hid hvb
  have HE : Hid (zcm n l s = false) := Lib.hid (by simp [zcm, zc5, hvb])
  have HWB : Hid (zd4 l = zd4 l) := Lib.hid rfl
  clear hvb hs
  refine zal fun R hR => ?_
  have HR := Lib.hid hR
  clear hR
  go_enter Tryz.func156, Tryz.ntmps156
  have M : Hid (Mem [Loc.k4 w.heap.size (.int .i64 n.places) (.slice A n.trans.length c) (.int .i64 n.source) (.int .i64 n.sink), Loc.bl w.heap.size w] (w.alloc (.cells #[.int .i64 n.places, .slice A n.trans.length c, .int .i64 n.source, .int .i64 n.sink] 24))) := Lib.hid ⟨K4.new w _ _ _ _ _, ⟨(Below.refl _ _).alloc (Nat.le_refl _) _, by simp⟩, True.intro⟩
  have hk4 := M.out.1
  go_wp2_with fail
  refine zdh (C := (Mem [Loc.k4 w.heap.size (.int .i64 n.places) (.slice A n.trans.length c) (.int .i64 n.source) (.int .i64 n.sink), Loc.bl w.heap.size w])) (by kernel_rfl) (by kernel_rfl) (by exact M.out.drew) ?_
  repeat (first
   | (refine BigFrame.wpQuiet_skip (by rfl) ?_; simp only [Act.put, List.setIfInBounds_toArray, List.set_cons_zero, List.set_cons_succ])
   | (refine BigFrame.wpQuiet_want (by rfl) (fun K hK => ?_); refine BigFrame.quiet_move _ rfl (hK _ ?_); clear hK K; simp only [Act.put, Act.eval, List.setIfInBounds_toArray, List.set_cons_zero, List.set_cons_succ, List.getD_toArray, List.getD_cons_zero, List.getD_cons_succ])
   | (refine BigFrame.wpQuiet_want (by rfl) (fun K hK => ?_); refine BigFrame.quiet_assign _ rfl (hK _ ?_); clear hK K; simp only [Act.put, Act.eval, List.setIfInBounds_toArray, List.set_cons_zero, List.set_cons_succ, List.getD_toArray, List.getD_cons_zero, List.getD_cons_succ])
   | (refine BigFrame.wpQuiet_want (by rfl) (fun K hK => ?_); refine zgl (v := ?_) (fun W hW => ?_) (hK _ ?_); rotate_left; ((have hq1 := hW.1; dsimp only [Loc.k4] at hq1); go_simp; try (with_reducible rfl)); clear hK K; simp only [Act.put, List.setIfInBounds_toArray, List.set_cons_zero, List.set_cons_succ])
   | (refine BigFrame.wpQuiet_want (by rfl) (fun K hK => ?_); go_simp; apply Exists.intro; refine ⟨fun W hW => ?_, hK _ ?_⟩; (first
    | exact (zcv HVB.out _ lo hi _ (HV.out.after hW.2.1.1)).mono (fun e w' h => ⟨h.1, hW.below h.2⟩)
    | exact (zdp HWB.out lo' hi' _ _ (HW.out.after hW.2.1.1)).mono (fun e w' h => ⟨h.1, hW.below h.2⟩)
    | exact (zde n _ tl _ lo2 hi2 _ (HT.out.after hW.2.1.1)).mono (fun e w' h => ⟨h.1, hW.below h.2⟩)); clear hK K; try simp only [Act.put, List.setIfInBounds_toArray, List.set_cons_zero, List.set_cons_succ])
   | fail)
  refine wpQuiet_nil ?_
  intro W hW
  go_wp2_with fail
  refine HR.out _ _ ⟨zbt ?_, hW.2.1.1⟩
  first | exact HE.out.symm | (rw [HE.out]; rfl)
 | true =>
 have hpl := zbh hvb
 have hwr : IntKind.i64.wrap (n.places + 1) = n.places + 1 := IntWalk.i64_in _ (by omega)
 have HVB := Lib.hid hvb
 clear hvb
 cases hwb : zd4 l with
 | false =>
  have HE : Hid (zcm n l s = false) := Lib.hid (by simp [zcm, hwb])
  have HWB := Lib.hid hwb
  clear hwb hs
  refine zal fun R hR => ?_
  have HR := Lib.hid hR
  clear hR
  go_enter Tryz.func156, Tryz.ntmps156
  have M : Hid (Mem [Loc.k4 w.heap.size (.int .i64 n.places) (.slice A n.trans.length c) (.int .i64 n.source) (.int .i64 n.sink), Loc.bl w.heap.size w] (w.alloc (.cells #[.int .i64 n.places, .slice A n.trans.length c, .int .i64 n.source, .int .i64 n.sink] 24))) := Lib.hid ⟨K4.new w _ _ _ _ _, ⟨(Below.refl _ _).alloc (Nat.le_refl _) _, by simp⟩, True.intro⟩
  have hk4 := M.out.1
  go_wp2_with fail
  refine zdh (C := (Mem [Loc.k4 w.heap.size (.int .i64 n.places) (.slice A n.trans.length c) (.int .i64 n.source) (.int .i64 n.sink), Loc.bl w.heap.size w])) (by kernel_rfl) (by kernel_rfl) (by exact M.out.drew) ?_
  repeat (first
   | (refine BigFrame.wpQuiet_skip (by rfl) ?_; simp only [Act.put, List.setIfInBounds_toArray, List.set_cons_zero, List.set_cons_succ])
   | (refine BigFrame.wpQuiet_want (by rfl) (fun K hK => ?_); refine BigFrame.quiet_move _ rfl (hK _ ?_); clear hK K; simp only [Act.put, Act.eval, List.setIfInBounds_toArray, List.set_cons_zero, List.set_cons_succ, List.getD_toArray, List.getD_cons_zero, List.getD_cons_succ])
   | (refine BigFrame.wpQuiet_want (by rfl) (fun K hK => ?_); refine BigFrame.quiet_assign _ rfl (hK _ ?_); clear hK K; simp only [Act.put, Act.eval, List.setIfInBounds_toArray, List.set_cons_zero, List.set_cons_succ, List.getD_toArray, List.getD_cons_zero, List.getD_cons_succ])
   | (refine BigFrame.wpQuiet_want (by rfl) (fun K hK => ?_); refine zgl (v := ?_) (fun W hW => ?_) (hK _ ?_); rotate_left; ((have hq1 := hW.1; dsimp only [Loc.k4] at hq1); go_simp; try (with_reducible rfl)); clear hK K; simp only [Act.put, List.setIfInBounds_toArray, List.set_cons_zero, List.set_cons_succ])
   | (refine BigFrame.wpQuiet_want (by rfl) (fun K hK => ?_); go_simp; apply Exists.intro; refine ⟨fun W hW => ?_, hK _ ?_⟩; (first
    | exact (zcv HVB.out _ lo hi _ (HV.out.after hW.2.1.1)).mono (fun e w' h => ⟨h.1, hW.below h.2⟩)
    | exact (zdp HWB.out lo' hi' _ _ (HW.out.after hW.2.1.1)).mono (fun e w' h => ⟨h.1, hW.below h.2⟩)
    | exact (zde n _ tl _ lo2 hi2 _ (HT.out.after hW.2.1.1)).mono (fun e w' h => ⟨h.1, hW.below h.2⟩)); clear hK K; try simp only [Act.put, List.setIfInBounds_toArray, List.set_cons_zero, List.set_cons_succ])
   | fail)
  refine wpQuiet_nil ?_
  intro W hW
  go_wp2_with fail
  refine HR.out _ _ ⟨zbt ?_, hW.2.1.1⟩
  first | exact HE.out.symm | (rw [HE.out]; rfl)
 | true =>
 have HWB := Lib.hid hwb
 by_cases h1 : (s.length : Int) = n.places + 1
 ·
  have h1' : 1 ≤ s.length := by omega
  have hs0 : (0 : Int) < (s.length : Int) := by omega
  have hs2 : ¬ s = [] := by intro e; rw [e] at h1'; simp at h1'
  have hs3 : 0 < s.length := h1'
  have b1 : ((s.length : Int) == n.places + 1) = true := by rw [beq_iff_eq]; exact h1
  obtain ⟨b, off, rfl, _, _, hcell⟩ := RdI.at1 hs (k := 0) (by omega)
  obtain ⟨At, ct, hsl, ht⟩ := RdI.tail1 hs h1' hc3
  clear tl HT
  obtain ⟨tl, htl⟩ : ∃ tl, s.drop 1 = tl := ⟨_, rfl⟩
  rw [htl] at hsl ht
  have HE : Hid (zcm n l s = (decide (0 ≤ gti s 0) && decide (gti s 0 ≤ l.length) && zdc n tl)) := Lib.hid (by rw [← htl]; simp [zcm, hwb, h1', zc5, HVB.out])
  have HTL := Lib.hid htl
  clear htl
  have HT := Lib.hid ht
  clear hs ht hwb
  simp only [Nat.add_zero] at hcell
  have HC := Lib.hid hcell
  clear hcell
  generalize gti s 0 = p at *
  have H1 := Lib.hid h1
  clear h1
  by_cases g1 : 0 ≤ p
  ·
   have b2 := decide_eq_true g1
   by_cases g2 : p ≤ l.length
   ·
    have b3 := decide_eq_true g2
    replace HE : Hid (zcm n l s = zdc n tl) := Lib.hid (by rw [HE.out, b2, b3]; rfl)
    refine zal fun R hR => ?_
    have HR := Lib.hid hR
    clear hR
    go_enter Tryz.func156, Tryz.ntmps156
    have M : Hid (Mem [Loc.k4 w.heap.size (.int .i64 n.places) (.slice (A) n.trans.length c) (.int .i64 n.source) (.int .i64 n.sink), Loc.bl w.heap.size w] (w.alloc (.cells #[.int .i64 n.places, .slice (A) n.trans.length c, .int .i64 n.source, .int .i64 n.sink] 24))) := Lib.hid ⟨K4.new w _ _ _ _ _, ⟨(Below.refl _ _).alloc (Nat.le_refl _) _, by simp⟩, True.intro⟩
    have hk4 := M.out.1
    have hcell := C1.aft M.out.2.1.1 HC.out
    go_wp2_with fail
    refine zdh (C := (Mem [Loc.k4 w.heap.size (.int .i64 n.places) (.slice A n.trans.length c) (.int .i64 n.source) (.int .i64 n.sink), Loc.bl w.heap.size w, Loc.c1 b off (.int .i64 p)])) (by kernel_rfl) (by kernel_rfl) (by exact Mem.drew (l := [_, _, Loc.c1 _ _ _]) ⟨M.out.1, M.out.2.1, hcell, True.intro⟩) ?_
    repeat (first
     | (refine BigFrame.wpQuiet_skip (by rfl) ?_; simp only [Act.put, List.setIfInBounds_toArray, List.set_cons_zero, List.set_cons_succ])
     | (refine BigFrame.wpQuiet_want (by rfl) (fun K hK => ?_); refine BigFrame.quiet_move _ rfl (hK _ ?_); clear hK K; simp only [Act.put, Act.eval, List.setIfInBounds_toArray, List.set_cons_zero, List.set_cons_succ, List.getD_toArray, List.getD_cons_zero, List.getD_cons_succ])
     | (refine BigFrame.wpQuiet_want (by rfl) (fun K hK => ?_); refine BigFrame.quiet_assign _ rfl (hK _ ?_); clear hK K; simp only [Act.put, Act.eval, List.setIfInBounds_toArray, List.set_cons_zero, List.set_cons_succ, List.getD_toArray, List.getD_cons_zero, List.getD_cons_succ])
     | (refine BigFrame.wpQuiet_want (by rfl) (fun K hK => ?_); refine zgl (v := ?_) (fun W hW => ?_) (hK _ ?_); rotate_left; ((have hq1 := hW.1; have hq2 := hW.2.2.1; dsimp only [Loc.k4, Loc.c1] at hq1 hq2); go_simp; try (with_reducible rfl)); clear hK K; simp only [Act.put, List.setIfInBounds_toArray, List.set_cons_zero, List.set_cons_succ])
     | (refine BigFrame.wpQuiet_want (by rfl) (fun K hK => ?_); go_simp; apply Exists.intro; refine ⟨fun W hW => ?_, hK _ ?_⟩; (first
      | exact (zcv HVB.out _ lo hi _ (HV.out.after hW.2.1.1)).mono (fun e w' h => ⟨h.1, hW.below h.2⟩)
      | exact (zdp HWB.out lo' hi' _ _ (HW.out.after hW.2.1.1)).mono (fun e w' h => ⟨h.1, hW.below h.2⟩)
      | exact (zde n _ tl _ lo2 hi2 _ (HT.out.after hW.2.1.1)).mono (fun e w' h => ⟨h.1, hW.below h.2⟩)); clear hK K; try simp only [Act.put, List.setIfInBounds_toArray, List.set_cons_zero, List.set_cons_succ])
     | fail)
    refine wpQuiet_nil ?_
    intro W hW
    go_wp2_with fail
    refine HR.out _ _ ⟨zbt ?_, hW.2.1.1⟩
    first | exact HE.out.symm | (rw [HE.out]; rfl)
   ·
    have b3 := decide_eq_false g2
    replace HE : Hid (zcm n l s = false) := Lib.hid (by rw [HE.out, b2, b3]; rfl)
    refine zal fun R hR => ?_
    have HR := Lib.hid hR
    clear hR
    go_enter Tryz.func156, Tryz.ntmps156
    have M : Hid (Mem [Loc.k4 w.heap.size (.int .i64 n.places) (.slice (A) n.trans.length c) (.int .i64 n.source) (.int .i64 n.sink), Loc.bl w.heap.size w] (w.alloc (.cells #[.int .i64 n.places, .slice (A) n.trans.length c, .int .i64 n.source, .int .i64 n.sink] 24))) := Lib.hid ⟨K4.new w _ _ _ _ _, ⟨(Below.refl _ _).alloc (Nat.le_refl _) _, by simp⟩, True.intro⟩
    have hk4 := M.out.1
    have hcell := C1.aft M.out.2.1.1 HC.out
    go_wp2_with fail
    refine zdh (C := (Mem [Loc.k4 w.heap.size (.int .i64 n.places) (.slice A n.trans.length c) (.int .i64 n.source) (.int .i64 n.sink), Loc.bl w.heap.size w, Loc.c1 b off (.int .i64 p)])) (by kernel_rfl) (by kernel_rfl) (by exact Mem.drew (l := [_, _, Loc.c1 _ _ _]) ⟨M.out.1, M.out.2.1, hcell, True.intro⟩) ?_
    repeat (first
     | (refine BigFrame.wpQuiet_skip (by rfl) ?_; simp only [Act.put, List.setIfInBounds_toArray, List.set_cons_zero, List.set_cons_succ])
     | (refine BigFrame.wpQuiet_want (by rfl) (fun K hK => ?_); refine BigFrame.quiet_move _ rfl (hK _ ?_); clear hK K; simp only [Act.put, Act.eval, List.setIfInBounds_toArray, List.set_cons_zero, List.set_cons_succ, List.getD_toArray, List.getD_cons_zero, List.getD_cons_succ])
     | (refine BigFrame.wpQuiet_want (by rfl) (fun K hK => ?_); refine BigFrame.quiet_assign _ rfl (hK _ ?_); clear hK K; simp only [Act.put, Act.eval, List.setIfInBounds_toArray, List.set_cons_zero, List.set_cons_succ, List.getD_toArray, List.getD_cons_zero, List.getD_cons_succ])
     | (refine BigFrame.wpQuiet_want (by rfl) (fun K hK => ?_); refine zgl (v := ?_) (fun W hW => ?_) (hK _ ?_); rotate_left; ((have hq1 := hW.1; have hq2 := hW.2.2.1; dsimp only [Loc.k4, Loc.c1] at hq1 hq2); go_simp; try (with_reducible rfl)); clear hK K; simp only [Act.put, List.setIfInBounds_toArray, List.set_cons_zero, List.set_cons_succ])
     | (refine BigFrame.wpQuiet_want (by rfl) (fun K hK => ?_); go_simp; apply Exists.intro; refine ⟨fun W hW => ?_, hK _ ?_⟩; (first
      | exact (zcv HVB.out _ lo hi _ (HV.out.after hW.2.1.1)).mono (fun e w' h => ⟨h.1, hW.below h.2⟩)
      | exact (zdp HWB.out lo' hi' _ _ (HW.out.after hW.2.1.1)).mono (fun e w' h => ⟨h.1, hW.below h.2⟩)
      | exact (zde n _ tl _ lo2 hi2 _ (HT.out.after hW.2.1.1)).mono (fun e w' h => ⟨h.1, hW.below h.2⟩)); clear hK K; try simp only [Act.put, List.setIfInBounds_toArray, List.set_cons_zero, List.set_cons_succ])
     | fail)
    refine wpQuiet_nil ?_
    intro W hW
    go_wp2_with fail
    refine HR.out _ _ ⟨zbt ?_, hW.2.1.1⟩
    first | exact HE.out.symm | (rw [HE.out]; rfl)
  ·
   have b2 := decide_eq_false g1
   replace HE : Hid (zcm n l s = false) := Lib.hid (by rw [HE.out, b2]; rfl)
   refine zal fun R hR => ?_
   have HR := Lib.hid hR
   clear hR
   go_enter Tryz.func156, Tryz.ntmps156
   have M : Hid (Mem [Loc.k4 w.heap.size (.int .i64 n.places) (.slice (A) n.trans.length c) (.int .i64 n.source) (.int .i64 n.sink), Loc.bl w.heap.size w] (w.alloc (.cells #[.int .i64 n.places, .slice (A) n.trans.length c, .int .i64 n.source, .int .i64 n.sink] 24))) := Lib.hid ⟨K4.new w _ _ _ _ _, ⟨(Below.refl _ _).alloc (Nat.le_refl _) _, by simp⟩, True.intro⟩
   have hk4 := M.out.1
   have hcell := C1.aft M.out.2.1.1 HC.out
   go_wp2_with fail
   refine zdh (C := (Mem [Loc.k4 w.heap.size (.int .i64 n.places) (.slice A n.trans.length c) (.int .i64 n.source) (.int .i64 n.sink), Loc.bl w.heap.size w, Loc.c1 b off (.int .i64 p)])) (by kernel_rfl) (by kernel_rfl) (by exact Mem.drew (l := [_, _, Loc.c1 _ _ _]) ⟨M.out.1, M.out.2.1, hcell, True.intro⟩) ?_
   repeat (first
    | (refine BigFrame.wpQuiet_skip (by rfl) ?_; simp only [Act.put, List.setIfInBounds_toArray, List.set_cons_zero, List.set_cons_succ])
    | (refine BigFrame.wpQuiet_want (by rfl) (fun K hK => ?_); refine BigFrame.quiet_move _ rfl (hK _ ?_); clear hK K; simp only [Act.put, Act.eval, List.setIfInBounds_toArray, List.set_cons_zero, List.set_cons_succ, List.getD_toArray, List.getD_cons_zero, List.getD_cons_succ])
    | (refine BigFrame.wpQuiet_want (by rfl) (fun K hK => ?_); refine BigFrame.quiet_assign _ rfl (hK _ ?_); clear hK K; simp only [Act.put, Act.eval, List.setIfInBounds_toArray, List.set_cons_zero, List.set_cons_succ, List.getD_toArray, List.getD_cons_zero, List.getD_cons_succ])
    | (refine BigFrame.wpQuiet_want (by rfl) (fun K hK => ?_); refine zgl (v := ?_) (fun W hW => ?_) (hK _ ?_); rotate_left; ((have hq1 := hW.1; have hq2 := hW.2.2.1; dsimp only [Loc.k4, Loc.c1] at hq1 hq2); go_simp; try (with_reducible rfl)); clear hK K; simp only [Act.put, List.setIfInBounds_toArray, List.set_cons_zero, List.set_cons_succ])
    | (refine BigFrame.wpQuiet_want (by rfl) (fun K hK => ?_); go_simp; apply Exists.intro; refine ⟨fun W hW => ?_, hK _ ?_⟩; (first
     | exact (zcv HVB.out _ lo hi _ (HV.out.after hW.2.1.1)).mono (fun e w' h => ⟨h.1, hW.below h.2⟩)
     | exact (zdp HWB.out lo' hi' _ _ (HW.out.after hW.2.1.1)).mono (fun e w' h => ⟨h.1, hW.below h.2⟩)
     | exact (zde n _ tl _ lo2 hi2 _ (HT.out.after hW.2.1.1)).mono (fun e w' h => ⟨h.1, hW.below h.2⟩)); clear hK K; try simp only [Act.put, List.setIfInBounds_toArray, List.set_cons_zero, List.set_cons_succ])
    | fail)
   refine wpQuiet_nil ?_
   intro W hW
   go_wp2_with fail
   refine HR.out _ _ ⟨zbt ?_, hW.2.1.1⟩
   first | exact HE.out.symm | (rw [HE.out]; rfl)
 ·
  have b1 : ((s.length : Int) == n.places + 1) = false := by rw [beq_eq_false_iff_ne]; exact h1
  have HE : Hid (zcm n l s = false) := Lib.hid (ztm hpl.1 h1)
  clear hwb hs h1
  refine zal fun R hR => ?_
  have HR := Lib.hid hR
  clear hR
  go_enter Tryz.func156, Tryz.ntmps156
  have M : Hid (Mem [Loc.k4 w.heap.size (.int .i64 n.places) (.slice A n.trans.length c) (.int .i64 n.source) (.int .i64 n.sink), Loc.bl w.heap.size w] (w.alloc (.cells #[.int .i64 n.places, .slice A n.trans.length c, .int .i64 n.source, .int .i64 n.sink] 24))) := Lib.hid ⟨K4.new w _ _ _ _ _, ⟨(Below.refl _ _).alloc (Nat.le_refl _) _, by simp⟩, True.intro⟩
  have hk4 := M.out.1
  go_wp2_with fail
  refine zdh (C := (Mem [Loc.k4 w.heap.size (.int .i64 n.places) (.slice A n.trans.length c) (.int .i64 n.source) (.int .i64 n.sink), Loc.bl w.heap.size w])) (by kernel_rfl) (by kernel_rfl) (by exact M.out.drew) ?_
  repeat (first
   | (refine BigFrame.wpQuiet_skip (by rfl) ?_; simp only [Act.put, List.setIfInBounds_toArray, List.set_cons_zero, List.set_cons_succ])
   | (refine BigFrame.wpQuiet_want (by rfl) (fun K hK => ?_); refine BigFrame.quiet_move _ rfl (hK _ ?_); clear hK K; simp only [Act.put, Act.eval, List.setIfInBounds_toArray, List.set_cons_zero, List.set_cons_succ, List.getD_toArray, List.getD_cons_zero, List.getD_cons_succ])
   | (refine BigFrame.wpQuiet_want (by rfl) (fun K hK => ?_); refine BigFrame.quiet_assign _ rfl (hK _ ?_); clear hK K; simp only [Act.put, Act.eval, List.setIfInBounds_toArray, List.set_cons_zero, List.set_cons_succ, List.getD_toArray, List.getD_cons_zero, List.getD_cons_succ])
   | (refine BigFrame.wpQuiet_want (by rfl) (fun K hK => ?_); refine zgl (v := ?_) (fun W hW => ?_) (hK _ ?_); rotate_left; ((have hq1 := hW.1; dsimp only [Loc.k4] at hq1); go_simp; try (with_reducible rfl)); clear hK K; simp only [Act.put, List.setIfInBounds_toArray, List.set_cons_zero, List.set_cons_succ])
   | (refine BigFrame.wpQuiet_want (by rfl) (fun K hK => ?_); go_simp; apply Exists.intro; refine ⟨fun W hW => ?_, hK _ ?_⟩; (first
    | exact (zcv HVB.out _ lo hi _ (HV.out.after hW.2.1.1)).mono (fun e w' h => ⟨h.1, hW.below h.2⟩)
    | exact (zdp HWB.out lo' hi' _ _ (HW.out.after hW.2.1.1)).mono (fun e w' h => ⟨h.1, hW.below h.2⟩)
    | exact (zde n _ tl _ lo2 hi2 _ (HT.out.after hW.2.1.1)).mono (fun e w' h => ⟨h.1, hW.below h.2⟩)); clear hK K; try simp only [Act.put, List.setIfInBounds_toArray, List.set_cons_zero, List.set_cons_succ])
   | fail)
  refine wpQuiet_nil ?_
  intro W hW
  go_wp2_with fail
  refine HR.out _ _ ⟨zbt ?_, hW.2.1.1⟩
  first | exact HE.out.symm | (rw [HE.out]; rfl)
end Go.Proofs.YtohmldibkojkfaaGreatDoor
end
section
namespace Go.Proofs.YtohmldibkojkfaaGreatDoor
open Go.RowKit
def ze9 (n : Net) (w : List ByteArray) (s : List Int) (m : Stp) : List Int × Int :=
 if m.kind = 2 then
  if m.trans ≠ -1 then ([], 2) else if ze3 m.act = false then ([], 8) else if atB w (gti s 0) m.act = false then ([], 10) else ((gti s 0 + 1) :: s.drop 1, 0)
 else if m.trans < 0 ∨ (n.trans.length : Int) ≤ m.trans then ([], 2)
 else if m.act ≠ (gti n.trans m.trans.toNat).label ∨ (gti n.trans m.trans.toNat).label.toList.isEmpty ≠ decide (m.kind = 4) then ([], 8)
 else if m.kind = 1 ∧ atB w (gti s 0) m.act = false then ([], 10)
 else if (zd8 n (s.drop 1) m.trans).2 ≠ 0 then ([], (zd8 n (s.drop 1) m.trans).2)
 else ((if m.kind = 1 then gti s 0 + 1 else gti s 0) :: (zd8 n (s.drop 1) m.trans).1, 0)
abbrev stpV (m : Stp) : Value := .agg #[.int .i64 m.kind, .int .i64 m.trans, .string m.act]
theorem zph {n : Net} {m : List Int} {t : Int} : (zd8 n m t).1.length ≤ m.length := by
 unfold zd8 zjy
 split
 ·
  split
  ·
   simp
  ·
   split
   ·
    split
    ·
     simp
    ·
     simp [zns, zn4]
   ·
    simp
 ·
  simp
set_option maxRecDepth 100000 in
set_option maxHeartbeats 4000000 in
theorem zya (n : Net) (l : List ByteArray) (s : List Int) (m : Stp) (vt v vs : Value) (lo hi lo' hi' lo2 hi2 : Nat) (w : World) (hv : RdT w lo hi vt n.trans) (hw : RdS w lo' hi' v l) (hs : RdI w lo2 hi2 vs s)
  (h1 : 1 ≤ s.length) (h2 : s.length ≤ 1000) (h3 : 0 ≤ gti s 0) (h4 : gti s 0 ≤ l.length) (h5 : l.length ≤ 1000) :
  Calls Tryz.prog 127 #[netV n vt, v, vs, stpV m] w (RetI w (ze9 n l s m)) := by
 obtain ⟨A, c, rfl, hc, hmm⟩ := hv.form
 obtain ⟨A2, c2, rfl, hc2, hmm2⟩ := hw.form
 obtain ⟨A3, c3, rfl, hc3, hmm3⟩ := hs.form
 have HV := Lib.hid hv
 have HW := Lib.hid hw
 have HS := Lib.hid hs
 clear hv hw
 obtain ⟨b, off, rfl, _, _, hcell⟩ := RdI.at1 hs (k := 0) (by omega)
 obtain ⟨At, ct, hsl, ht⟩ := RdI.tail1 hs h1 hc3
 obtain ⟨tl, htl⟩ : ∃ tl, s.drop 1 = tl := ⟨_, rfl⟩
 have htl2 : tl.length ≤ 1000 := by rw [← htl]; simp; omega
 rw [htl] at hsl ht
 have HAE := Lib.hid (show ze9 n l s m = _ from by unfold ze9; rfl)
 rw [htl] at HAE
 have HT := Lib.hid ht
 have hs0 : (0 : Int) < (s.length : Int) := by omega
 have hs2 : ¬ s = [] := by intro e; rw [e] at h1; simp at h1
 have hs3 : 0 < s.length := h1
 clear hs ht htl
 simp only [Nat.add_zero] at hcell
 have HC := Lib.hid hcell
 clear hcell
 generalize gti s 0 = p at *
 obtain ⟨kd, tr, ac⟩ := m
 simp only at HAE
 have hM : ∀ (w0 : World), Mem [Loc.k3 (w0.heap.size + 1) (.int .i64 kd) (.int .i64 tr) (.string ac), Loc.k4 w0.heap.size (.int .i64 n.places) (.slice A n.trans.length c) (.int .i64 n.source) (.int .i64 n.sink), Loc.bl w0.heap.size w0] ((w0.alloc (.cells #[.int .i64 n.places, .slice A n.trans.length c, .int .i64 n.source, .int .i64 n.sink] 24)).alloc (.cells #[.int .i64 kd, .int .i64 tr, .string ac] 143)) := fun w0 =>
  ⟨by have := K3.new (w0.alloc (.cells #[.int .i64 n.places, .slice A n.trans.length c, .int .i64 n.source, .int .i64 n.sink] 24)) (.int .i64 kd) (.int .i64 tr) (.string ac) 143; rw [World.size_alloc] at this; exact this, K4.aft ((Below.refl _ _).alloc (Nat.le_refl _) _) (K4.new w0 _ _ _ _ _), ⟨((Below.refl _ _).alloc (Nat.le_refl _) _).alloc (by simp) _, by simp; omega⟩, True.intro⟩
 by_cases hk2 : kd = 2
 ·
  subst hk2
  refine zal fun R hR => ?_
  have HR := Lib.hid hR
  clear hR
  go_enter Tryz.func127, Tryz.ntmps127
  have M := Lib.hid (hM w)
  clear hM
  have hk3 := M.out.1
  have hcell := C1.aft M.out.2.2.1.1 HC.out
  go_wp2_with fail
  go_quiet (fail)
  replace M := Lib.hid (M.out.drewN nq)
  replace hk3 := M.out.1
  generalize World.drewN _ nq = W at *
  go_wp2_with (first
   | (go_at_call 78; refine (zhs _ _).mono ?_; rintro e w1 ⟨rfl, hb1⟩; replace M := Lib.hid (M.out.below hb1); clear hb1; replace hk3 := M.out.1)
   | (go_at_call 124; refine (zx4 l p _ lo' hi' _ _ (HW.out.after M.out.2.2.1.1) h3).mono ?_; rintro e w1 ⟨rfl, hb1⟩; replace M := Lib.hid (M.out.below hb1); clear hb1; replace hk3 := M.out.1; have hz1 := M.out.1.2.2.2; have hz0 := M.out.2.1.2.2.2.2)
   | (at_builtin; refine zcq rfl _ _ rfl zgx (fun _ => rfl) oneI rfl rfl (Mem.lit1 M.out (p + 1)) (by (repeat' (first | exact True.intro | refine And.intro (fun k hk e => ?_) ?_)) <;> (first | exact e | ((try dsimp only [Loc.c1, Loc.c2, Loc.k1, Loc.k2, Loc.k3, Loc.k4, Loc.k6, Loc.fr, Loc.bl, Loc.own, Loc.sz, Loc.rd, Loc.rdI, Loc.rdS, Loc.rdM, Loc.rdT, Loc.ow, Loc.owI] at hk e) <;> omega))) (HT.out.after (M.out.2.2.1.1.alloc M.out.2.2.1.2 _)) (by simp; omega) (by simp; omega) (by simp) ?_; intro A9 c9 w9 hM1 hs1 hch1; replace M := Lib.hid hM1; clear hM1 hch1))
  all_goals have hae := HAE.out
  all_goals clear HAE
  all_goals first
   | exact HR.out _ _ (RetI.nil (by rw [hae]; clear hae; go_light; grind) M.out.2.2.1.1)
   | exact HR.out _ _ (RetI.mk (l := (p + 1) :: tl) (by rw [hae]; clear hae; go_light; grind) (by simp; omega) M.out.1.rd (by omega) (Nat.le_refl _) M.out.2.2.2.1.1)
 ·
  by_cases ht : tr < 0 ∨ n.trans.length ≤ tr
  ·
   have HTT := Lib.hid ht
   have HK2 := Lib.hid hk2
   have hk2' : (kd == 2) = false := by simpa using hk2
   refine zal fun R hR => ?_
   have HR := Lib.hid hR
   clear hR
   go_enter Tryz.func127, Tryz.ntmps127
   have M := Lib.hid (hM w)
   clear hM
   have hk3 := M.out.1
   have hk4 := M.out.2.1
   have hcell := C1.aft M.out.2.2.1.1 HC.out
   go_wp2_with fail
   go_quiet (fail)
   replace M := Lib.hid (M.out.drewN nq)
   replace hk3 := M.out.1
   replace hk4 := M.out.2.1
   generalize World.drewN _ nq = W at *
   go_wp2_with fail
   all_goals have hae := HAE.out
   all_goals rw [if_neg HK2.out, if_pos HTT.out] at hae
   all_goals first
    | exact HR.out _ _ (RetI.nil hae M.out.2.2.1.1)
    | (exfalso; go_light; omega)
  ·
   have HTT := Lib.hid ht
   have HK2 := Lib.hid hk2
   have hk2' : (kd == 2) = false := by simpa using hk2
   obtain ⟨kt, rfl⟩ : ∃ k : Nat, tr = k := ⟨tr.toNat, by omega⟩
   have hlt : kt < n.trans.length := by omega
   clear ht
   obtain ⟨b4, off4, vi, vo, rfl, hbl, hbh, hcl, hri, hro⟩ := RdT.at3 HV.out hlt
   have HCL := Lib.hid hcl
   have hx1 : ((kt : Int) < 0) = False := by simp
   have hx2 : ((n.trans.length : Int) ≤ (kt : Int)) = False := by simp; omega
   have HFL := Lib.hid (zph (n := n) (m := tl) (t := kt))
   rw [if_neg HK2.out, if_neg HTT.out, Int.toNat_natCast] at HAE
   generalize gti n.trans kt = x at *
   clear hri hro hcl
   have HFE := Lib.hid (fun (W : World) (h : Below w.heap.size w W) => ztj n tl kt _ _ lo hi lo2 hi2 W (HV.out.after h) (HT.out.after h))
   obtain ⟨⟨fl, fe⟩, hfe⟩ : ∃ r, zd8 n tl kt = r := ⟨_, rfl⟩
   rw [hfe] at HAE HFE HFL
   simp only at HAE HFL
   clear hfe
   refine zal fun R hR => ?_
   have HR := Lib.hid hR
   clear hR
   go_enter Tryz.func127, Tryz.ntmps127
   have M := Lib.hid (hM w)
   clear hM
   have hk3 := M.out.1
   have hk4 := M.out.2.1
   have hcell := C1.aft M.out.2.2.1.1 HC.out
   go_wp2_with fail
   go_quiet (fail)
   replace M := Lib.hid (M.out.drewN nq)
   replace hk3 := M.out.1
   replace hk4 := M.out.2.1
   generalize World.drewN _ nq = W at *
   have hcr := C3.aft M.out.2.2.1.1 HCL.out
   go_wp2_with (first
    | (go_at_call 124; refine (zx4 l p _ lo' hi' _ _ (HW.out.after M.out.2.2.1.1) h3).mono ?_; rintro e w1 ⟨rfl, hb1⟩; replace M := Lib.hid (M.out.below hb1); clear hb1; replace hk3 := M.out.1; replace hk4 := M.out.2.1)
    | (go_at_call 55; refine (HFE.out _ M.out.2.2.1.1).mono ?_; rintro e w6 ⟨A6, c6, rfl, hr6, hb6⟩; have hz0 := M.out.2.1.2.2.2.2; have hz1 := M.out.1.2.2.2; have hz6 := hb6.size; replace M := Lib.hid (M.out.below hb6); have HR6 := Lib.hid hr6; dsimp only at HR6 ⊢; clear hb6 hr6)
    | (at_builtin; refine zcq rfl _ _ rfl zgx (fun _ => rfl) oneI rfl rfl (Mem.lit1 M.out _) (by (repeat' (first | exact True.intro | refine And.intro (fun k hk e => ?_) ?_)) <;> (first | exact e | ((try dsimp only [Loc.c1, Loc.c2, Loc.k1, Loc.k2, Loc.k3, Loc.k4, Loc.k6, Loc.fr, Loc.bl, Loc.own, Loc.sz, Loc.rd, Loc.rdI, Loc.rdS, Loc.rdM, Loc.rdT, Loc.ow, Loc.owI] at hk e) <;> omega))) (HR6.out.after ((Below.refl _ _).alloc (Nat.le_refl _) _)) (by have := HFL.out; simp; omega) (by have := HFL.out; simp; omega) (by simp) ?_; intro A9 c9 w9 hM1 hs1 hch1; replace M := Lib.hid hM1; clear hM1 hch1))
   all_goals have hae := HAE.out
   all_goals clear HAE
   all_goals have hinj := @toList_inj ac x.label
   all_goals first
    | exact HR.out _ _ (RetI.nil (by rw [hae]; clear hae; go_light; grind) M.out.2.2.1.1)
    | exact HR.out _ _ (RetI.mk (by rw [hae]; clear hae; go_light; grind) (by simp; omega) M.out.1.rd (by omega) (Nat.le_refl _) M.out.2.2.2.1.1)
end Go.Proofs.YtohmldibkojkfaaGreatDoor
end
section
namespace Go.Proofs.YtohmldibkojkfaaGreatDoor
open Go.RowKit
def zbi (n : Net) (w : List ByteArray) (s : List Int) (m : Stp) : List Int × Int := if zcm n w s && zgq m.kind then ze9 n w s m else ([], 1)
theorem zjb {n : Net} {l : List ByteArray} {s : List Int} {z : Bool} (hz : zcm n l s = z) (vt v vs : Value) (lo hi lo' hi' lo2 hi2 : Nat) (w : World) (hv : RdT w lo hi vt n.trans) (hw : RdS w lo' hi' v l) (hs : RdI w lo2 hi2 vs s) :
  Calls Tryz.prog 123 #[netV n vt, v, vs] w fun e w' => e = .returned (.bool z) ∧ Below w.heap.size w w' := hz ▸ zq1 n l s vt v vs lo hi lo' hi' lo2 hi2 w hv hw hs
theorem zct {n : Net} {l : List ByteArray} {s : List Int} {z : Bool} (hz : zcm n l s = z) (vt v vs : Value) (lo hi lo' hi' lo2 hi2 : Nat) (w : World) (hv : RdT w lo hi vt n.trans) (hw : RdS w lo' hi' v l) (hs : RdI w lo2 hi2 vs s) :
  Calls Tryz.prog 156 #[netV n vt, v, vs] w fun e w' => e = .returned (.bool z) ∧ Below w.heap.size w w' := hz ▸ zow n l s vt v vs lo hi lo' hi' lo2 hi2 w hv hw hs
theorem z2g {k : Int} {z : Bool} (hz : zgq k = z) (w : World) : Calls Tryz.prog 126 #[.int .i64 k] w fun e w' => e = .returned (.bool z) ∧ Below w.heap.size w w' := hz ▸ zsj k w
theorem zc3 {n : Net} {l : List ByteArray} {s : List Int} (h : zcm n l s = true) : 1 ≤ s.length ∧ s.length ≤ 1000 ∧ 0 ≤ gti s 0 ∧ gti s 0 ≤ l.length ∧ l.length ≤ 200 := by
 obtain ⟨h1, h2, h3, h4, h5⟩ := zdo.1 h
 unfold zc5 at h5
 simp only [Bool.and_eq_true] at h5
 have h6 := zfi h5.2
 have h7 := zbh h5.1
 unfold zd4 at h1
 simp only [Bool.and_eq_true, decide_eq_true_eq] at h1
 simp at h6
 omega
theorem stepM (kd tr : Int) (ac : ByteArray) (n : Net) (vt : Value) (w0 : World) : Mem [Loc.k3 (w0.heap.size + 1) (.int .i64 kd) (.int .i64 tr) (.string ac), Loc.k4 w0.heap.size (.int .i64 n.places) (vt) (.int .i64 n.source) (.int .i64 n.sink), Loc.bl w0.heap.size w0] ((w0.alloc (.cells #[.int .i64 n.places, vt, .int .i64 n.source, .int .i64 n.sink] 24)).alloc (.cells #[.int .i64 kd, .int .i64 tr, .string ac] 143)) :=
 ⟨by have := K3.new (w0.alloc (.cells #[.int .i64 n.places, vt, .int .i64 n.source, .int .i64 n.sink] 24)) (.int .i64 kd) (.int .i64 tr) (.string ac) 143; rw [World.size_alloc] at this; exact this, K4.aft ((Below.refl _ _).alloc (Nat.le_refl _) _) (K4.new w0 _ _ _ _ _), ⟨((Below.refl _ _).alloc (Nat.le_refl _) _).alloc (by simp) _, by simp; omega⟩, True.intro⟩
set_option maxHeartbeats 1000000 in
theorem zyf (n : Net) (l : List ByteArray) (s : List Int) (m : Stp) (vt v vs : Value) (lo hi lo' hi' lo2 hi2 : Nat) (w : World) (hv : RdT w lo hi vt n.trans) (hw : RdS w lo' hi' v l) (hs : RdI w lo2 hi2 vs s) :
  Calls Tryz.prog 96 #[netV n vt, v, vs, stpV m] w (RetI w (zbi n l s m)) := by
 obtain ⟨A, c, rfl, hc, hmm⟩ := hv.form
 obtain ⟨A2, c2, rfl, hc2, hmm2⟩ := hw.form
 obtain ⟨A3, c3, rfl, hc3, hmm3⟩ := hs.form
 have HV := Lib.hid hv
 have HW := Lib.hid hw
 have HS := Lib.hid hs
 clear hv hw hs
 obtain ⟨z, hz⟩ : ∃ z, zcm n l s = z := ⟨_, rfl⟩
 obtain ⟨y, hy⟩ : ∃ y, zgq m.kind = y := ⟨_, rfl⟩
 have HZ := Lib.hid hz
 have HY := Lib.hid hy
 have HAE : Hid (zbi n l s m = if z && y then ze9 n l s m else ([], 1)) := Lib.hid (by rw [zbi, hz, hy])
 clear hz hy
 have hM := stepM m.kind m.trans m.act n (.slice A n.trans.length c)
 cases z <;> cases y
 all_goals
  refine zal fun R hR => ?_
  have HR := Lib.hid hR
  clear hR
  go_enter Tryz.func96, Tryz.ntmps96
  have M := Lib.hid (hM w)
  have hk3 := M.out.1
  have hk4 := M.out.2.1
  go_wp2_with (first
   | (go_at_call 123; refine (zjb HZ.out _ _ _ lo hi lo' hi' lo2 hi2 _ (HV.out.after M.out.2.2.1.1) (HW.out.after M.out.2.2.1.1) (HS.out.after M.out.2.2.1.1)).mono ?_; rintro e w1 ⟨rfl, hb1⟩; replace M := Lib.hid (M.out.below hb1); clear hb1; replace hk3 := M.out.1; replace hk4 := M.out.2.1)
   | (go_at_call 126; refine (z2g HY.out _).mono ?_; rintro e w1 ⟨rfl, hb1⟩; replace M := Lib.hid (M.out.below hb1); clear hb1; replace hk3 := M.out.1; replace hk4 := M.out.2.1)
   | (go_at_call 127; refine (zya n l s m _ _ _ lo hi lo' hi' lo2 hi2 _ (HV.out.after M.out.2.2.1.1) (HW.out.after M.out.2.2.1.1) (HS.out.after M.out.2.2.1.1) (zc3 HZ.out).1 (zc3 HZ.out).2.1 (zc3 HZ.out).2.2.1 (zc3 HZ.out).2.2.2.1 (by have := (zc3 HZ.out).2.2.2.2; omega)).mono ?_; rintro e w7 ⟨A7, c7, rfl, hr7, hb7⟩; have HR7 := Lib.hid hr7; have hz7 := M.out.2.2.1.2; replace M := Lib.hid (M.out.below hb7); clear hb7 hr7))
 ·
  exact HR.out _ _ (RetI.nil (by rw [HAE.out]; rfl) M.out.2.2.1.1)
 ·
  exact HR.out _ _ (RetI.nil (by rw [HAE.out]; rfl) M.out.2.2.1.1)
 ·
  exact HR.out _ _ (RetI.nil (by rw [HAE.out]; rfl) M.out.2.2.1.1)
 ·
  exact HR.out _ _ (RetI.mk (by rw [HAE.out]; rfl) rfl HR7.out hz7 (Nat.le_refl _) M.out.2.2.1.1)
set_option maxRecDepth 100000 in
set_option maxHeartbeats 8000000 in
theorem zmi (n : Net) (l : List ByteArray) (s : List Int) (m : Stp) (vt v vs : Value) (lo hi lo' hi' lo2 hi2 : Nat) (w : World) (hv : RdT w lo hi vt n.trans) (hw : RdS w lo' hi' v l) (hs : RdI w lo2 hi2 vs s) :
  Calls Tryz.prog 138 #[netV n vt, v, vs, stpV m] w (RetI w (zbi n l s m)) := by
 obtain ⟨A, c, rfl, hc, hmm⟩ := hv.form
 obtain ⟨A2, c2, rfl, hc2, hmm2⟩ := hw.form
 obtain ⟨A3, c3, rfl, hc3, hmm3⟩ := hs.form
 have HV := Lib.hid hv
 have HW := Lib.hid hw
 have HS := Lib.hid hs
 clear hv hw
 obtain ⟨z, hz⟩ : ∃ z, zcm n l s = z := ⟨_, rfl⟩
 have HZ := Lib.hid hz
 obtain ⟨kd, tr, ac⟩ := m
 have hM := stepM kd tr ac n (.slice A n.trans.length c)
 by_cases hbad : z = false ∨ zgq kd = false
 ·
  have HAE : Hid (zbi n l s ⟨kd, tr, ac⟩ = ([], 1)) := Lib.hid (by rw [zbi, hz]; rcases hbad with h | h <;> simp [h])
  have HBAD := Lib.hid hbad
  clear hz hs hbad
  cases z
  ·
   refine zal fun R hR => ?_
   have HR := Lib.hid hR
   clear hR
   go_enter Tryz.func138, Tryz.ntmps138
   have M := Lib.hid (hM w)
   have hk3 := M.out.1
   have hk4 := M.out.2.1
   go_wp2_with (go_at_call 156; refine (zct HZ.out _ _ _ lo hi lo' hi' lo2 hi2 _ (HV.out.after M.out.2.2.1.1) (HW.out.after M.out.2.2.1.1) (HS.out.after M.out.2.2.1.1)).mono ?_; rintro e w1 ⟨rfl, hb1⟩; replace M := Lib.hid (M.out.below hb1); clear hb1; replace hk3 := M.out.1; replace hk4 := M.out.2.1)
   exact HR.out _ _ (RetI.nil HAE.out M.out.2.2.1.1)
  ·
   have hkb : ¬ (1 ≤ kd ∧ kd ≤ 4) := by
    rcases HBAD.out with h | h
    ·
     cases h
    ·
     unfold zgq at h; simp at h; omega
   by_cases h1 : kd < 1
   ·
    have b1 : (decide (kd < 1)) = true := decide_eq_true h1
    refine zal fun R hR => ?_
    have HR := Lib.hid hR
    clear hR
    go_enter Tryz.func138, Tryz.ntmps138
    have M := Lib.hid (hM w)
    have hk3 := M.out.1
    have hk4 := M.out.2.1
    go_wp2_with (go_at_call 156; refine (zct HZ.out _ _ _ lo hi lo' hi' lo2 hi2 _ (HV.out.after M.out.2.2.1.1) (HW.out.after M.out.2.2.1.1) (HS.out.after M.out.2.2.1.1)).mono ?_; rintro e w1 ⟨rfl, hb1⟩; replace M := Lib.hid (M.out.below hb1); clear hb1; replace hk3 := M.out.1; replace hk4 := M.out.2.1)
    exact HR.out _ _ (RetI.nil HAE.out M.out.2.2.1.1)
   ·
    have b1 : (decide (kd < 1)) = false := decide_eq_false h1
    have h2 : 4 < kd := by omega
    have b2 : (decide (4 < kd)) = true := decide_eq_true h2
    clear hkb
    refine zal fun R hR => ?_
    have HR := Lib.hid hR
    clear hR
    go_enter Tryz.func138, Tryz.ntmps138
    have M := Lib.hid (hM w)
    have hk3 := M.out.1
    have hk4 := M.out.2.1
    go_wp2_with (go_at_call 156; refine (zct HZ.out _ _ _ lo hi lo' hi' lo2 hi2 _ (HV.out.after M.out.2.2.1.1) (HW.out.after M.out.2.2.1.1) (HS.out.after M.out.2.2.1.1)).mono ?_; rintro e w1 ⟨rfl, hb1⟩; replace M := Lib.hid (M.out.below hb1); clear hb1; replace hk3 := M.out.1; replace hk4 := M.out.2.1)
    exact HR.out _ _ (RetI.nil HAE.out M.out.2.2.1.1)
 ·
  have hz1 : z = true := by cases z <;> simp_all
  have hkk : zgq kd = true := by cases h : zgq kd <;> simp_all
  subst hz1
  have hkb : 1 ≤ kd ∧ kd ≤ 4 := by unfold zgq at hkk; simp at hkk; exact hkk
  obtain ⟨h1, h2, h3, h4, h5⟩ := zc3 hz
  have HAA : Hid (zbi n l s ⟨kd, tr, ac⟩ = ze9 n l s ⟨kd, tr, ac⟩) := Lib.hid (by rw [zbi, hz, hkk]; rfl)
  clear hbad hz hkk
  obtain ⟨b, off, rfl, _, _, hcell⟩ := RdI.at1 hs (k := 0) (by omega)
  obtain ⟨At, ct, hsl, ht⟩ := RdI.tail1 hs h1 hc3
  obtain ⟨tl, htl⟩ : ∃ tl, s.drop 1 = tl := ⟨_, rfl⟩
  have htl2 : tl.length ≤ 1000 := by rw [← htl]; simp; omega
  rw [htl] at hsl ht
  have hae0 := (show ze9 n l s ⟨kd, tr, ac⟩ = _ from by unfold ze9; rfl)
  have HAE := Lib.hid (HAA.out.trans hae0)
  clear hae0
  rw [htl] at HAE
  have HT := Lib.hid ht
  have hs0 : (0 : Int) < (s.length : Int) := by omega
  have hs2 : ¬ s = [] := by intro e; rw [e] at h1; simp at h1
  have hs3 : 0 < s.length := h1
  clear hs ht htl HAA
  simp only [Nat.add_zero] at hcell
  have HC := Lib.hid hcell
  clear hcell
  generalize gti s 0 = p at *
  simp only at HAE
  obtain ⟨kp, rfl⟩ : ∃ k : Nat, p = k := ⟨p.toNat, by omega⟩
  by_cases hk2 : kd = 2
  ·
   subst hk2
   by_cases htr : tr = -1
   ·
    subst htr
    cases hna : ze3 ac with
    | false =>
     have HNA := Lib.hid hna
     clear hna
     refine zal fun R hR => ?_
     have HR := Lib.hid hR
     clear hR
     go_enter Tryz.func138, Tryz.ntmps138
     have M := Lib.hid (hM w)
     have hk3 := M.out.1
     have hk4 := M.out.2.1
     have hcell := C1.aft M.out.2.2.1.1 HC.out
     go_wp2_with (first
      | (go_at_call 156; refine (zct HZ.out _ _ _ lo hi lo' hi' lo2 hi2 _ (HV.out.after M.out.2.2.1.1) (HW.out.after M.out.2.2.1.1) (HS.out.after M.out.2.2.1.1)).mono ?_; rintro e w1 ⟨rfl, hb1⟩; replace M := Lib.hid (M.out.below hb1); clear hb1; replace hk3 := M.out.1; replace hk4 := M.out.2.1; replace hcell := C1.aft M.out.2.2.1.1 HC.out)
      | (go_at_call 71; refine (zeu _ _).mono ?_; rintro e w1 ⟨rfl, hb1⟩; replace M := Lib.hid (M.out.below hb1); clear hb1; rw [HNA.out]; replace hk3 := M.out.1))
     exact HR.out _ _ (RetI.nil (by rw [HAE.out]; simp [HNA.out]) M.out.2.2.1.1)
    | true =>
     have HNA := Lib.hid hna
     clear hna
     by_cases hp : kp < l.length
     ·
      obtain ⟨b5, off5, rfl, _, _, hce5⟩ := RdS.at1 HW.out hp
      have HC5 := Lib.hid hce5
      have HAT : Hid (atB l kp ac = decide (gti l kp = ac)) := Lib.hid (by simp [atB, hp])
      generalize gti l kp = x5 at *
      have bp : ((kp : Int) == (l.length : Int)) = false := by rw [beq_eq_false_iff_ne]; omega
      have hpi : (kp : Int) < l.length := by omega
      clear hce5
      refine zal fun R hR => ?_
      have HR := Lib.hid hR
      clear hR
      go_enter Tryz.func138, Tryz.ntmps138
      have M := Lib.hid (hM w)
      have hk3 := M.out.1
      have hk4 := M.out.2.1
      have hcell := C1.aft M.out.2.2.1.1 HC.out
      have hce5 := C1.aft M.out.2.2.1.1 HC5.out
      go_wp2_with (first
       | (go_at_call 156; refine (zct HZ.out _ _ _ lo hi lo' hi' lo2 hi2 _ (HV.out.after M.out.2.2.1.1) (HW.out.after M.out.2.2.1.1) (HS.out.after M.out.2.2.1.1)).mono ?_; rintro e w1 ⟨rfl, hb1⟩; replace M := Lib.hid (M.out.below hb1); clear hb1; replace hk3 := M.out.1; replace hk4 := M.out.2.1; replace hcell := C1.aft M.out.2.2.1.1 HC.out; replace hce5 := C1.aft M.out.2.2.1.1 HC5.out)
       | (go_at_call 71; refine (zeu _ _).mono ?_; rintro e w1 ⟨rfl, hb1⟩; replace M := Lib.hid (M.out.below hb1); clear hb1; rw [HNA.out]; replace hk3 := M.out.1; replace hce5 := C1.aft M.out.2.2.1.1 HC5.out))
      go_quiet (fail)
      replace M := Lib.hid (M.out.drewN nq)
      replace hk3 := M.out.1
      generalize World.drewN _ nq = W at *
      have hzM := M.out.2.2.1.2
      go_wp2_with (go_at_call 153; refine (zf4 _ tl lo2 hi2 _ _ (HT.out.after M.out.2.2.1.1) (by omega)).mono ?_; rintro e w7 ⟨A7, c7, rfl, hr7, hb7⟩; have HR7 := Lib.hid hr7; replace M := Lib.hid (M.out.below hb7); clear hb7 hr7)
      all_goals have hae := HAE.out
      all_goals have hinj := @toList_inj x5 ac
      all_goals rw [HAT.out, HNA.out] at hae
      all_goals clear HAE
      all_goals first
       | exact HR.out _ _ (RetI.nil (by rw [hae]; clear hae; go_light; grind) M.out.2.2.1.1)
       | exact HR.out _ _ (RetI.mk (by rw [hae]; clear hae; go_light; grind) rfl HR7.out (by omega) (Nat.le_refl _) M.out.2.2.1.1)
     ·
      obtain rfl : kp = l.length := by omega
      have HAT : Hid (atB l l.length ac = false) := Lib.hid (by simp [atB])
      refine zal fun R hR => ?_
      have HR := Lib.hid hR
      clear hR
      go_enter Tryz.func138, Tryz.ntmps138
      have M := Lib.hid (hM w)
      have hk3 := M.out.1
      have hk4 := M.out.2.1
      have hcell := C1.aft M.out.2.2.1.1 HC.out
      go_wp2_with (first
       | (go_at_call 156; refine (zct HZ.out _ _ _ lo hi lo' hi' lo2 hi2 _ (HV.out.after M.out.2.2.1.1) (HW.out.after M.out.2.2.1.1) (HS.out.after M.out.2.2.1.1)).mono ?_; rintro e w1 ⟨rfl, hb1⟩; replace M := Lib.hid (M.out.below hb1); clear hb1; replace hk3 := M.out.1; replace hk4 := M.out.2.1; replace hcell := C1.aft M.out.2.2.1.1 HC.out)
       | (go_at_call 71; refine (zeu _ _).mono ?_; rintro e w1 ⟨rfl, hb1⟩; replace M := Lib.hid (M.out.below hb1); clear hb1; rw [HNA.out]; replace hk3 := M.out.1))
      go_quiet (fail)
      replace M := Lib.hid (M.out.drewN nq)
      generalize World.drewN _ nq = W at *
      go_wp2_with fail
      exact HR.out _ _ (RetI.nil (by rw [HAE.out, HAT.out, HNA.out]; rfl) M.out.2.2.1.1)
   ·
    have btr : (tr != -1) = true := by simpa using htr
    refine zal fun R hR => ?_
    have HR := Lib.hid hR
    clear hR
    go_enter Tryz.func138, Tryz.ntmps138
    have M := Lib.hid (hM w)
    have hk3 := M.out.1
    have hk4 := M.out.2.1
    have hcell := C1.aft M.out.2.2.1.1 HC.out
    go_wp2_with (go_at_call 156; refine (zct HZ.out _ _ _ lo hi lo' hi' lo2 hi2 _ (HV.out.after M.out.2.2.1.1) (HW.out.after M.out.2.2.1.1) (HS.out.after M.out.2.2.1.1)).mono ?_; rintro e w1 ⟨rfl, hb1⟩; replace M := Lib.hid (M.out.below hb1); clear hb1; replace hk3 := M.out.1; replace hk4 := M.out.2.1; replace hcell := C1.aft M.out.2.2.1.1 HC.out)
    exact HR.out _ _ (RetI.nil (by rw [HAE.out]; simp; intro h; exact absurd h (by go_light; omega)) M.out.2.2.1.1)
  ·
   have HK2 := Lib.hid hk2
   have hk2' : (kd == 2) = false := by simpa using hk2
   by_cases ht : tr < 0 ∨ n.trans.length ≤ tr
   ·
    have HTT := Lib.hid ht
    refine zal fun R hR => ?_
    have HR := Lib.hid hR
    clear hR
    go_enter Tryz.func138, Tryz.ntmps138
    have M := Lib.hid (hM w)
    have hk3 := M.out.1
    have hk4 := M.out.2.1
    have hcell := C1.aft M.out.2.2.1.1 HC.out
    go_wp2_with (go_at_call 156; refine (zct HZ.out _ _ _ lo hi lo' hi' lo2 hi2 _ (HV.out.after M.out.2.2.1.1) (HW.out.after M.out.2.2.1.1) (HS.out.after M.out.2.2.1.1)).mono ?_; rintro e w1 ⟨rfl, hb1⟩; replace M := Lib.hid (M.out.below hb1); clear hb1; replace hk3 := M.out.1; replace hk4 := M.out.2.1; replace hcell := C1.aft M.out.2.2.1.1 HC.out)
    all_goals have hae := HAE.out
    all_goals rw [if_neg HK2.out, if_pos HTT.out] at hae
    all_goals first
     | exact HR.out _ _ (RetI.nil hae M.out.2.2.1.1)
     | (exfalso; go_light; omega)
   ·
    have HTT := Lib.hid ht
    obtain ⟨kt, rfl⟩ : ∃ k : Nat, tr = k := ⟨tr.toNat, by omega⟩
    have hlt : kt < n.trans.length := by omega
    clear ht
    obtain ⟨b4, off4, vi, vo, rfl, hbl, hbh, hcl, hri, hro⟩ := RdT.at3 HV.out hlt
    have HCL := Lib.hid hcl
    have hx1 : ((kt : Int) < 0) = False := by simp
    have hx2 : ((n.trans.length : Int) ≤ (kt : Int)) = False := by simp; omega
    have HFL := Lib.hid (zph (n := n) (m := tl) (t := kt))
    rw [if_neg HK2.out, if_neg HTT.out, Int.toNat_natCast] at HAE
    generalize gti n.trans kt = x at *
    clear hri hro hcl
    have HFE := Lib.hid (fun (W : World) (h : Below w.heap.size w W) => zvq n tl kt _ _ lo hi lo2 hi2 W (HV.out.after h) (HT.out.after h))
    obtain ⟨⟨fl, fe⟩, hfe⟩ : ∃ r, zd8 n tl kt = r := ⟨_, rfl⟩
    rw [hfe] at HAE HFE HFL
    simp only at HAE HFL
    clear hfe
    by_cases hlab : ac ≠ x.label ∨ x.label.toList.isEmpty ≠ decide (kd = 4)
    ·
     have HLAB := Lib.hid hlab
     rw [if_pos hlab] at HAE
     have hinj := @toList_inj ac x.label
     have HIN := Lib.hid hinj
     clear hlab hinj
     refine zal fun R hR => ?_
     have HR := Lib.hid hR
     clear hR
     go_enter Tryz.func138, Tryz.ntmps138
     have M := Lib.hid (hM w)
     have hk3 := M.out.1
     have hk4 := M.out.2.1
     have hcell := C1.aft M.out.2.2.1.1 HC.out
     have hcr := C3.aft M.out.2.2.1.1 HCL.out
     go_wp2_with (go_at_call 156; refine (zct HZ.out _ _ _ lo hi lo' hi' lo2 hi2 _ (HV.out.after M.out.2.2.1.1) (HW.out.after M.out.2.2.1.1) (HS.out.after M.out.2.2.1.1)).mono ?_; rintro e w1 ⟨rfl, hb1⟩; replace M := Lib.hid (M.out.below hb1); clear hb1; replace hk3 := M.out.1; replace hk4 := M.out.2.1; replace hcell := C1.aft M.out.2.2.1.1 HC.out; replace hcr := C3.aft M.out.2.2.1.1 HCL.out)
     all_goals first
      | exact HR.out _ _ (RetI.nil HAE.out M.out.2.2.1.1)
      | (exfalso; have hl := HLAB.out; have hi := HIN.out; clear HAE HLAB HIN; go_light; grind)
    ·
     rw [if_neg hlab] at HAE
     have hac : ac = x.label := by
      by_cases h : ac = x.label
      ·
       exact h
      ·
       exact absurd (Or.inl h) hlab
     have hem : x.label.toList.isEmpty = decide (kd = 4) := by
      by_cases h : x.label.toList.isEmpty = decide (kd = 4)
      ·
       exact h
      ·
       exact absurd (Or.inr h) hlab
     subst hac
     have HEM := Lib.hid hem
     have hem4 : (x.label.toList.isEmpty != (kd == 4)) = false := by rw [hem]; by_cases h : kd = 4 <;> simp [h]
     have hem5 : ¬ (x.label.toList.isEmpty = !(kd == 4)) := by rw [hem]; cases h : (kd == 4) <;> simp_all
     clear hlab hem
     generalize hac : x.label = ac at *
     clear hac
     by_cases hk1 : kd = 1
     ·
      subst hk1
      by_cases hp : kp < l.length
      ·
       obtain ⟨b5, off5, rfl, _, _, hce5⟩ := RdS.at1 HW.out hp
       have HC5 := Lib.hid hce5
       have HAT : Hid (atB l kp ac = decide (gti l kp = ac)) := Lib.hid (by simp [atB, hp])
       generalize gti l kp = x5 at *
       have bp : ((kp : Int) == (l.length : Int)) = false := by rw [beq_eq_false_iff_ne]; omega
       have hpi : (kp : Int) < l.length := by omega
       clear hce5
       have hinj := @toList_inj x5 ac
       rw [HAT.out] at HAE
       have HIN := Lib.hid hinj
       clear hinj
       refine zal fun R hR => ?_
       have HR := Lib.hid hR
       clear hR
       go_enter Tryz.func138, Tryz.ntmps138
       have M := Lib.hid (hM w)
       have hk3 := M.out.1
       have hk4 := M.out.2.1
       have hcell := C1.aft M.out.2.2.1.1 HC.out
       have hce5 := C1.aft M.out.2.2.1.1 HC5.out
       have hcr := C3.aft M.out.2.2.1.1 HCL.out
       go_wp2_with (go_at_call 156; refine (zct HZ.out _ _ _ lo hi lo' hi' lo2 hi2 _ (HV.out.after M.out.2.2.1.1) (HW.out.after M.out.2.2.1.1) (HS.out.after M.out.2.2.1.1)).mono ?_; rintro e w1 ⟨rfl, hb1⟩; replace M := Lib.hid (M.out.below hb1); clear hb1; replace hk3 := M.out.1; replace hk4 := M.out.2.1; replace hcell := C1.aft M.out.2.2.1.1 HC.out; replace hcr := C3.aft M.out.2.2.1.1 HCL.out; replace hce5 := C1.aft M.out.2.2.1.1 HC5.out)
       try (exfalso; have hl := HEM.out; clear HAE HEM HIN; go_light; (first | (clear hem4 hem5; grind) | grind); done)
       go_quiet (fail)
       replace M := Lib.hid (M.out.drewN nq)
       replace hk3 := M.out.1
       replace hk4 := M.out.2.1
       generalize World.drewN _ nq = W at *
       have hzM := M.out.2.2.1.2
       go_wp2_with fail
       ·
        exact HR.out _ _ (RetI.nil (by have hae := HAE.out; have hi := HIN.out; rw [hae]; clear hae HAE HIN; go_light; grind) M.out.2.2.1.1)
       have hi := HIN.out
       replace HAE : Hid (zbi n l s ⟨1, kt, ac⟩ = if fe ≠ 0 then ([], fe) else ((kp + 1 : Int) :: fl, 0)) := Lib.hid (by have hae := HAE.out; rw [hae]; clear hae HAE HIN; go_light; grind)
       clear hi
       go_region_held3 (fun W => K4 W w.heap.size (.int .i64 n.places) (.slice (some ⟨b4, off4, none⟩) n.trans.length c) (.int .i64 n.source) (.int .i64 n.sink) ∧ K3 W (w.heap.size + 1) (.int .i64 1) (.int .i64 kt) (.string ac)) (exact ⟨hk4, hk3⟩) (first
        | (go_at_call 88; refine (HFE.out _ (by first | exact M.out.2.2.1.1 | exact M.out.drew.2.2.1.1)).mono ?_; rintro e w6 ⟨A6, c6, rfl, hr6, hb6⟩; have hz0 := M.out.2.1.2.2.2.2; have hz1 := M.out.1.2.2.2; have hz6 := hb6.size; replace M := Lib.hid (Mem.below (by first | exact M.out | exact M.out.drew) hb6); have HR6 := Lib.hid hr6; dsimp only at HR6 ⊢; replace hk3 := M.out.1; replace hk4 := M.out.2.1; clear hb6 hr6))
       all_goals
        go_wp2_with (go_at_call 153; refine (zf4 _ _ _ _ _ _ HR6.out (by have := HFL.out; omega)).mono ?_; rintro e w7 ⟨A7, c7, rfl, hr7, hb7⟩; have HR7 := Lib.hid hr7; replace M := Lib.hid (M.out.below hb7); clear hb7 hr7)
        all_goals have hae := HAE.out
        all_goals clear HAE
        all_goals first
         | exact HR.out _ _ (RetI.nil (by rw [hae]; clear hae; go_light; grind) M.out.2.2.1.1)
         | exact HR.out _ _ (RetI.mk (by rw [hae]; clear hae; go_light; grind) rfl HR7.out (by omega) (Nat.le_refl _) M.out.2.2.1.1)
      ·
       obtain rfl : kp = l.length := by omega
       have HAT : Hid (atB l l.length ac = false) := Lib.hid (by simp [atB])
       rw [HAT.out] at HAE
       refine zal fun R hR => ?_
       have HR := Lib.hid hR
       clear hR
       go_enter Tryz.func138, Tryz.ntmps138
       have M := Lib.hid (hM w)
       have hk3 := M.out.1
       have hk4 := M.out.2.1
       have hcell := C1.aft M.out.2.2.1.1 HC.out
       have hcr := C3.aft M.out.2.2.1.1 HCL.out
       go_wp2_with (go_at_call 156; refine (zct HZ.out _ _ _ lo hi lo' hi' lo2 hi2 _ (HV.out.after M.out.2.2.1.1) (HW.out.after M.out.2.2.1.1) (HS.out.after M.out.2.2.1.1)).mono ?_; rintro e w1 ⟨rfl, hb1⟩; replace M := Lib.hid (M.out.below hb1); clear hb1; replace hk3 := M.out.1; replace hk4 := M.out.2.1; replace hcell := C1.aft M.out.2.2.1.1 HC.out; replace hcr := C3.aft M.out.2.2.1.1 HCL.out)
       try (exfalso; have hl := HEM.out; clear HAE HEM; go_light; (first | (clear hem4 hem5; grind) | grind); done)
       go_quiet (fail)
       replace M := Lib.hid (M.out.drewN nq)
       replace hk3 := M.out.1
       replace hk4 := M.out.2.1
       generalize World.drewN _ nq = W at *
       have hzM := M.out.2.2.1.2
       go_wp2_with fail
       exact HR.out _ _ (RetI.nil (by rw [HAE.out]; simp) M.out.2.2.1.1)
     ·
      have bk1 : (kd == 1) = false := by simpa using hk1
      replace HAE : Hid (zbi n l s ⟨kd, kt, ac⟩ = if fe ≠ 0 then ([], fe) else ((kp : Int) :: fl, 0)) := Lib.hid (by have hae := HAE.out; rw [hae]; simp [hk1])
      refine zal fun R hR => ?_
      have HR := Lib.hid hR
      clear hR
      go_enter Tryz.func138, Tryz.ntmps138
      have M := Lib.hid (hM w)
      have hk3 := M.out.1
      have hk4 := M.out.2.1
      have hcell := C1.aft M.out.2.2.1.1 HC.out
      have hcr := C3.aft M.out.2.2.1.1 HCL.out
      go_wp2_with (go_at_call 156; refine (zct HZ.out _ _ _ lo hi lo' hi' lo2 hi2 _ (HV.out.after M.out.2.2.1.1) (HW.out.after M.out.2.2.1.1) (HS.out.after M.out.2.2.1.1)).mono ?_; rintro e w1 ⟨rfl, hb1⟩; replace M := Lib.hid (M.out.below hb1); clear hb1; replace hk3 := M.out.1; replace hk4 := M.out.2.1; replace hcell := C1.aft M.out.2.2.1.1 HC.out; replace hcr := C3.aft M.out.2.2.1.1 HCL.out)
      all_goals (try (exfalso; have hl := HEM.out; clear HAE HEM; go_light; (first | (clear hem4 hem5; grind) | grind); done))
      go_quiet (fail)
      replace M := Lib.hid (M.out.drewN nq)
      replace hk3 := M.out.1
      replace hk4 := M.out.2.1
      generalize World.drewN _ nq = W at *
      have hzM := M.out.2.2.1.2
      go_wp2_with fail
      go_region_held3 (fun W => K4 W w.heap.size (.int .i64 n.places) (.slice (some ⟨b4, off4, none⟩) n.trans.length c) (.int .i64 n.source) (.int .i64 n.sink) ∧ K3 W (w.heap.size + 1) (.int .i64 kd) (.int .i64 kt) (.string ac)) (exact ⟨hk4, hk3⟩) (first
       | (go_at_call 88; refine (HFE.out _ (by first | exact M.out.2.2.1.1 | exact M.out.drew.2.2.1.1)).mono ?_; rintro e w6 ⟨A6, c6, rfl, hr6, hb6⟩; have hz0 := M.out.2.1.2.2.2.2; have hz1 := M.out.1.2.2.2; have hz6 := hb6.size; replace M := Lib.hid (Mem.below (by first | exact M.out | exact M.out.drew) hb6); have HR6 := Lib.hid hr6; dsimp only at HR6 ⊢; replace hk3 := M.out.1; replace hk4 := M.out.2.1; clear hb6 hr6))
      all_goals
       go_wp2_with (go_at_call 153; refine (zf4 _ _ _ _ _ _ HR6.out (by have := HFL.out; omega)).mono ?_; rintro e w7 ⟨A7, c7, rfl, hr7, hb7⟩; have HR7 := Lib.hid hr7; replace M := Lib.hid (M.out.below hb7); clear hb7 hr7)
       all_goals have hae := HAE.out
       all_goals clear HAE
       all_goals first
        | exact HR.out _ _ (RetI.nil (by rw [hae]; clear hae; go_light; grind) M.out.2.2.1.1)
        | exact HR.out _ _ (RetI.mk (by rw [hae]; clear hae; go_light; grind) rfl HR7.out (by omega) (Nat.le_refl _) M.out.2.2.1.1)
end Go.Proofs.YtohmldibkojkfaaGreatDoor
end
section
namespace Go.Proofs.YtohmldibkojkfaaGreatDoor
open Go.RowKit
theorem zrq {n : Net} {m : List Int} {t : Int} (h : (zd8 n m t).2 = 0) : zc5 n (zd8 n m t).1 = true := by
 unfold zd8 at h ⊢
 split
 ·
  rename_i hm; rw [if_pos hm] at h; exact zmy hm h
 ·
  rename_i hm; rw [if_neg hm] at h; simp at h
theorem zld {α : Type} [Inhabited α] (x : α) (l : List α) : gti (x :: l) 0 = x := by simp [gti]
theorem zzb {α : Type} [Inhabited α] (x : α) (l : List α) (k : Nat) : gti (x :: l) (k + 1) = gti l k := by simp [gti]
theorem zrm {n : Net} {w : List ByteArray} {s : List Int} {m : Stp} (hs : zcm n w s = true) (h : (ze9 n w s m).2 = 0) : zcm n w (ze9 n w s m).1 = true := by
 obtain ⟨h1, h2, h3, h4, h5⟩ := zdo.1 hs
 rw [zdo]
 have hat : ∀ a, ¬ atB w (gti s 0) a = false → gti s 0 + 1 ≤ w.length := by
  intro a ha
  unfold atB at ha
  simp at ha
  omega
 refine ⟨h1, ?_⟩
 unfold ze9 at h ⊢
 by_cases c1 : m.kind = 2
 ·
  rw [if_pos c1] at h ⊢
  by_cases c2 : m.trans ≠ -1
  ·
   rw [if_pos c2] at h; simp at h
  rw [if_neg c2] at h ⊢
  by_cases c3 : ze3 m.act = false
  ·
   rw [if_pos c3] at h; simp at h
  rw [if_neg c3] at h ⊢
  by_cases c4 : atB w (gti s 0) m.act = false
  ·
   rw [if_pos c4] at h; simp at h
  rw [if_neg c4] at h ⊢
  have := hat _ c4
  simp only [zld, List.length_cons, List.drop_succ_cons, List.drop_zero]
  exact ⟨by omega, by omega, this, h5⟩
 ·
  rw [if_neg c1] at h ⊢
  by_cases c2 : m.trans < 0 ∨ (n.trans.length : Int) ≤ m.trans
  ·
   rw [if_pos c2] at h; simp at h
  rw [if_neg c2] at h ⊢
  by_cases c3 : m.act ≠ (gti n.trans m.trans.toNat).label ∨ (gti n.trans m.trans.toNat).label.toList.isEmpty ≠ decide (m.kind = 4)
  ·
   rw [if_pos c3] at h; simp at h
  rw [if_neg c3] at h ⊢
  by_cases c4 : m.kind = 1 ∧ atB w (gti s 0) m.act = false
  ·
   rw [if_pos c4] at h; simp at h
  rw [if_neg c4] at h ⊢
  by_cases c5 : (zd8 n (s.drop 1) m.trans).2 ≠ 0
  ·
   rw [if_pos c5] at h; exact absurd h c5
  rw [if_neg c5] at h ⊢
  simp only [zld, List.length_cons, List.drop_succ_cons, List.drop_zero]
  refine ⟨by omega, by split <;> omega, ?_, zrq (by simpa using c5)⟩
  split
  ·
   rename_i hk
   exact hat _ (fun hf => c4 ⟨hk, hf⟩)
  ·
   exact h4
theorem ztf : ∀ {m : List Int}, (∀ k, k < m.length → 0 ≤ gti m k ∧ gti m k ≤ 100) → zi5 m = true
 | [], _ => rfl
 | x :: m, h => by
  have h0 := h 0 (by simp)
  rw [zld] at h0
  rw [zi5, if_neg (by omega)]
  exact ztf (fun k hk => by have := h (k + 1) (by simp; omega); rwa [zzb] at this)
theorem zwb {n : Net} (p : Int) (h : 1 ≤ n.places) : zdc n (oneL n.places.toNat p) = true := by
 rw [zdc, if_neg (by rw [zgn]; omega)]
 refine ztf (fun k hk => ?_)
 unfold oneL
 rw [gti_set]
 split
 ·
  omega
 ·
  unfold gti
  rw [List.getElem?_replicate]
  split <;> simp
theorem zyg {n : Net} {w : List ByteArray} {s : List Int} {m : Stp} (hs : zcm n w s = true) (hk : zgq m.kind = true) : zbi n w s m = ze9 n w s m := by
 rw [zbi, hs, hk]; rfl
end Go.Proofs.YtohmldibkojkfaaGreatDoor
end
