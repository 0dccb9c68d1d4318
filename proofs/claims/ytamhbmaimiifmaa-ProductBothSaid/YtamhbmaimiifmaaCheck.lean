/-
  Walks of casebookref42's Cost and Check, of product's Check. Conditions: none.
-/
import Derived.Test.YtamhbmaimiifmaaCost
import Derived.Test.YtamhbmaimiifmaaApply2
namespace Go.Proofs.Ytamhbmaimiifmaa
set_option linter.unusedSimpArgs false
set_option linter.unusedVariables false
open Go.RowKit

abbrev Loc.c3 (b o : Nat) (x y z : Value) : Loc := ⟨fun w => C3 w b o x y z, fun k => k = b, fun h hd hp =>
  have hb := h.block b (World.block_lt_of_cell? _ _ hp.1) (hd b rfl)
  ⟨(World.cell?_of_block hb).trans hp.1, (World.cell?_of_block hb).trans hp.2.1, (World.cell?_of_block hb).trans hp.2.2⟩⟩

set_option maxRecDepth 100000 in
set_option maxHeartbeats 2000000 in
theorem rCost_any (c : Cst) (l : List Stp) (lo hi : Nat) (v : Value) (w : World) (hv : RdM w lo hi v l) :
    Calls Try.prog 15 #[cstV c, v] w fun e w' => e = .returned (.tuple #[.int .i64 (costE c l).1, .int .i64 (costE c l).2]) ∧ Below w.heap.size w w' := by
  have HV := Lib.hid hv
  obtain ⟨A, cc, rfl, hc, hm⟩ := hv.form
  clear hv
  obtain ⟨z, hz⟩ : ∃ z, vcB c = z := ⟨_, rfl⟩
  obtain ⟨y, hy⟩ : ∃ y, fineB l = y := ⟨_, rfl⟩
  have HZ := Lib.hid hz
  have HY := Lib.hid hy
  have HCE : Hid (costE c l = if z && y then (costAt c l l.length, 0) else (0, 1)) := Lib.hid (by rw [costE, hz, hy])
  clear hz hy
  have M : Hid (Mem [Loc.k3 w.heap.size (.int .i64 c.log) (.int .i64 c.model) (.int .i64 c.silent), Loc.bl w.heap.size w] (w.alloc (.cells #[.int .i64 c.log, .int .i64 c.model, .int .i64 c.silent] 27))) := Lib.hid ⟨K3.new w _ _ _ _, ⟨(Below.refl _ _).alloc (Nat.le_refl _) _, by simp⟩, True.intro⟩
  cases z <;> cases y
  all_goals
    refine calls_cps fun R hR => ?_
    have HR := Lib.hid hR
    clear hR
    go_enter Try.func15, Try.ntmps15
    have hk3 := M.out.1
    go_wp2_with (first
      | (go_at_call 21; refine (rValidCosts_is HZ.out _).mono ?_; rintro e w1 ⟨rfl, hb1⟩; replace M := Lib.hid (M.out.below hb1); clear hb1; replace hk3 := M.out.1)
      | (go_at_call 57; refine (rFew_is HY.out lo hi _ _ (HV.out.after M.out.2.1.1)).mono ?_; rintro e w1 ⟨rfl, hb1⟩; replace M := Lib.hid (M.out.below hb1); clear hb1; replace hk3 := M.out.1))
  · exact HR.out _ _ ⟨ret_two (by rw [HCE.out]; rfl), M.out.2.1.1⟩
  · exact HR.out _ _ ⟨ret_two (by rw [HCE.out]; rfl), M.out.2.1.1⟩
  · exact HR.out _ _ ⟨ret_two (by rw [HCE.out]; rfl), M.out.2.1.1⟩
  have h4 := fineB_len HY.out
  go_loopw [7, 6] (fun v7 v6 wr => ∃ k : Nat, k ≤ l.length ∧ v7 = .int .i64 k ∧ v6 = .int .i64 (costAt c l k) ∧ Hid (Mem [Loc.k3 w.heap.size (.int .i64 c.log) (.int .i64 c.model) (.int .i64 c.silent), Loc.bl w.heap.size w] wr)) (fun v7 _ _ => l.length - (intOf v7).toNat)
  case atStart => exact ⟨0, by omega, rfl, rfl, M⟩
  case round =>
    clear M hk3
    obtain ⟨k, hk, rfl, rfl, M⟩ := hrel
    have hk3 := M.out.1
    by_cases hlt : k < l.length
    · obtain ⟨b, off, rfl, _, _, hcell⟩ := RdM.at3 (HV.out.after M.out.2.1.1) hlt
      have h1 := costAt_bd HZ.out l k
      have h2 := price_bd HZ.out (gti l k).kind
      have hwr : IntKind.i64.wrap (costAt c l k + priceE c (gti l k).kind) = costAt c l k + priceE c (gti l k).kind := IntWalk.i64_in _ (by omega)
      have HCA : Hid (costAt c l k + priceE c (gti l k).kind = costAt c l (k + 1)) := Lib.hid rfl
      have hkb : (k : Int) < l.length := by omega
      have hkd : decide ((k : Int) < (l.length : Int)) = true := by simp; omega
      have hk0 : (0 : Int) ≤ k := by omega
      generalize gti l k = x at *
      obtain ⟨kd, tr, ac⟩ := x
      simp only at hcell hwr HCA h2
      generalize costAt c l k = s at *
      go_wp2_with fail
      refine wp_region_cls (C := (Mem [Loc.k3 w.heap.size (.int .i64 c.log) (.int .i64 c.model) (.int .i64 c.silent), Loc.c3 b (off + k * 3) (.int .i64 kd) (.int .i64 tr) (.string ac), Loc.bl w.heap.size w])) (by kernel_rfl) (by kernel_rfl) (by exact Mem.drew (l := [_, Loc.c3 _ _ _ _ _, _]) ⟨M.out.1, hcell, M.out.2⟩) ?_
      repeat (first
        | (refine BigFrame.wpQuiet_skip (by rfl) ?_; simp only [Act.put, List.setIfInBounds_toArray, List.set_cons_zero, List.set_cons_succ])
        | (refine BigFrame.wpQuiet_want (by rfl) (fun K hK => ?_); refine BigFrame.quiet_move _ rfl (hK _ ?_); clear hK K; simp only [Act.put, Act.eval, List.setIfInBounds_toArray, List.set_cons_zero, List.set_cons_succ, List.getD_toArray, List.getD_cons_zero, List.getD_cons_succ])
        | (refine BigFrame.wpQuiet_want (by rfl) (fun K hK => ?_); refine BigFrame.quiet_assign _ rfl (hK _ ?_); clear hK K; simp only [Act.put, Act.eval, List.setIfInBounds_toArray, List.set_cons_zero, List.set_cons_succ, List.getD_toArray, List.getD_cons_zero, List.getD_cons_succ])
        | (refine BigFrame.wpQuiet_want (by rfl) (fun K hK => ?_); refine quiet_of (v := ?_) (fun W hW => ?_) (hK _ ?_); rotate_left; ((have hq1 := hW.1; have hq2 := hW.2.1; dsimp only [Loc.k3, Loc.c3] at hq1 hq2); go_simp; try (with_reducible rfl)); clear hK K; simp only [Act.put, List.setIfInBounds_toArray, List.set_cons_zero, List.set_cons_succ])
        | (refine BigFrame.wpQuiet_want (by rfl) (fun K hK => ?_); go_simp; apply Exists.intro; refine ⟨fun W hW => ?_, hK _ ?_⟩; (exact (rOf_any c ⟨kd, tr, ac⟩ _).mono (fun e w' h => ⟨h.1, hW.below h.2⟩)); clear hK K; try simp only [Act.put, List.setIfInBounds_toArray, List.set_cons_zero, List.set_cons_succ])
        | fail)
      refine wpQuiet_nil ?_
      intro W hW
      go_wp2_with fail
      have hk1 : k + 1 ≤ l.length := by omega
      have hM1 : Hid (Mem [Loc.k3 w.heap.size (.int .i64 c.log) (.int .i64 c.model) (.int .i64 c.silent), Loc.bl w.heap.size w] W) := Lib.hid ⟨hW.1, hW.2.2⟩
      have hca := HCA.out
      go_roundw
      case rel => (first | exact ⟨k + 1, hk1, rfl, by rw [← hca], hM1⟩ | ((repeat apply Exists.intro); exact ⟨⟨k + 1, hk1, rfl, by rw [← hca], hM1⟩, rfl⟩))
      case measure => simp [intOf]; omega
    · obtain rfl : k = l.length := by omega
      go_wp2_with fail
      exact HR.out _ _ ⟨ret_two (by rw [HCE.out]; rfl), M.out.2.1.1⟩
end Go.Proofs.Ytamhbmaimiifmaa
