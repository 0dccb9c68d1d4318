/-
  ProductChecks, for every net, word, costs, and alignment: Check accepts exactly the right alignments. Conditions: none.
-/
import Derived.Test.YtamhbmaimiifmaaOpen
import Derived.Test.YtamhbmaimiifmaaCheck3
import Derived.Test.YtamhbmaimiifmaaAwake
import Derived.Carry
namespace Go.Proofs.Ytamhbmaimiifmaa
set_option linter.unusedSimpArgs false
set_option linter.unusedVariables false
open Go.ChangeShapes Go.WideShapes Go.ChangeAt Go.RowKit

set_option maxRecDepth 100000 in
set_option maxHeartbeats 4000000 in
theorem lawChecks_any (n : Net) (l : List ByteArray) (c : Cst) (sl : List Stp) (k : Int) (vt v vs : Value) (lo hi lo2 hi2 : Nat) (w : World) (hv : RdT w lo hi vt n.trans) (hw : RdS w lo hi v l) (hs : RdM w lo2 hi2 vs sl) :
    Calls Try.prog 3 #[netV n vt, v, cstV c, algV vs k] w fun e w' => e = .returned (.bool true) ∧ Below w.heap.size w w' := by
  obtain ⟨A, ca, rfl, hc, hmm⟩ := hv.form
  obtain ⟨A2, c2, rfl, hc2, hmm2⟩ := hw.form
  obtain ⟨A3, c3, rfl, hc3, hmm3⟩ := hs.form
  have HV := Lib.hid hv
  have HW := Lib.hid hw
  have HS := Lib.hid hs
  have M := Lib.hid (chkM w n (.slice A n.trans.length ca) c (.slice A3 sl.length c3) k)
  clear hv hw hs
  refine calls_cps fun R hR => ?_
  have HR := Lib.hid hR
  clear hR
  go_enter Try.func3, Try.ntmps3
  have hk4 := M.out.1
  have hc0 := M.out.2.2.1
  go_wp2_with (first
    | (go_at_call 9; refine (awake_any _).mono ?_; rintro e w1 ⟨rfl, hb1⟩; replace M := Lib.hid (M.out.below hb1); clear hb1; replace hk4 := M.out.1; replace hc0 := M.out.2.2.1)
    | (go_at_call 10; refine (few_any n l lo hi _ _ _ (HV.out.after M.out.2.2.2.2.1.1) (HW.out.after M.out.2.2.2.2.1.1)).mono ?_; rintro e w1 ⟨z1, rfl, hb1⟩; replace M := Lib.hid (M.out.below hb1); clear hb1; replace hk4 := M.out.1; replace hc0 := M.out.2.2.1)
    | (go_at_call 11; refine (short_any sl lo2 hi2 _ _ (HS.out.after M.out.2.2.2.2.1.1)).mono ?_; rintro e w1 ⟨z2, rfl, hb1⟩; replace M := Lib.hid (M.out.below hb1); clear hb1; replace hk4 := M.out.1; replace hc0 := M.out.2.2.1))
  all_goals try exact HR.out _ _ ⟨rfl, M.out.2.2.2.2.1.1⟩
  refine wp_region_cls (C := (Mem (chkL w n (.slice A n.trans.length ca) c (.slice A3 sl.length c3) k))) (by kernel_rfl) (by kernel_rfl) (by exact M.out.drew) ?_
  repeat (first
    | (refine BigFrame.wpQuiet_skip (by rfl) ?_; simp only [Act.put, List.setIfInBounds_toArray, List.set_cons_zero, List.set_cons_succ])
    | (refine BigFrame.wpQuiet_want (by rfl) (fun K hK => ?_); refine BigFrame.quiet_move _ rfl (hK _ ?_); clear hK K; simp only [Act.put, Act.eval, List.setIfInBounds_toArray, List.set_cons_zero, List.set_cons_succ, List.getD_toArray, List.getD_cons_zero, List.getD_cons_succ])
    | (refine BigFrame.wpQuiet_want (by rfl) (fun K hK => ?_); refine BigFrame.quiet_assign _ rfl (hK _ ?_); clear hK K; simp only [Act.put, Act.eval, List.setIfInBounds_toArray, List.set_cons_zero, List.set_cons_succ, List.getD_toArray, List.getD_cons_zero, List.getD_cons_succ])
    | (refine BigFrame.wpQuiet_want (by rfl) (fun K hK => ?_); refine quiet_of (v := ?_) (fun W hW => ?_) (hK _ ?_); rotate_left; ((have hq1 := hW.1; have hq2 := hW.2.1; have hq3 := hW.2.2.1; have hq4 := hW.2.2.2.1; dsimp only [Loc.k4, Loc.k3, Loc.c1] at hq1 hq2 hq3 hq4); go_simp; try (with_reducible rfl)); clear hK K; simp only [Act.put, List.setIfInBounds_toArray, List.set_cons_zero, List.set_cons_succ])
    | (refine BigFrame.wpQuiet_want (by rfl) (fun K hK => ?_); go_simp; apply Exists.intro; refine ⟨fun W hW => ?_, hK _ ?_⟩; (first | exact (Check_any n l c sl k _ _ _ lo hi lo hi lo2 hi2 _ (HV.out.after hW.2.2.2.2.1.1) (HW.out.after hW.2.2.2.2.1.1) (HS.out.after hW.2.2.2.2.1.1)).mono (fun e w' h => ⟨h.1, hW.below h.2⟩) | exact (rCheck_any n l c sl k _ _ _ lo hi lo hi lo2 hi2 _ (HV.out.after hW.2.2.2.2.1.1) (HW.out.after hW.2.2.2.2.1.1) (HS.out.after hW.2.2.2.2.1.1)).mono (fun e w' h => ⟨h.1, hW.below h.2⟩)); clear hK K; try simp only [Act.put, List.setIfInBounds_toArray, List.set_cons_zero, List.set_cons_succ])
    | fail)
  refine wpQuiet_nil ?_
  intro W hW
  go_wp2_with fail
  exact HR.out _ _ ⟨ret_bool (by simp), hW.2.2.2.2.1.1⟩

set_option maxRecDepth 100000 in
theorem productChecks_lifted (os : Os) (started : os.Started) (H : Type) (enc : TypeId × Value → H) :
    ReturnsInHanded {} Try.checked os 3 .any (Rows.productChecksSpec.pre6 enc Try.prog Try.f3 Rows.productChecksRow.domain false) (Rows.productChecksSpec.post enc Try.prog Try.f3 false true false false) := by
  refine returnsInHanded_of_change (C := Try.checked) own_knob started (by kernel_rfl) Try.func3
    (ChangeSpec.witness6 (enc := enc) (C := Try.checked) false ⟨#[], #[.agg #[.int .i64 0, .slice none 0 0, .int .i64 0, .int .i64 0], .slice none 0 0, .agg #[.int .i64 0, .int .i64 0, .int .i64 0], .agg #[.slice none 0 0, .int .i64 0]], []⟩ 8 (by kernel_rfl) (by kernel_rfl) (by kernel_rfl) (by kernel_rfl)) ?_
  intro W base args ds gs before hval0 hW hcnd _
  have hval : ∀ (j : Nat) t v, Try.f3.params[j]? = some t → args[j]? = some v → Value.okWide Try.prog W .any base t v := hval0
  have hW' := hW
  obtain ⟨p, q, hA0, hV, rfl, hfz, hnd⟩ := hW
  have hA : DataW.TrodAll enc Try.prog W 0 (fun _ => true) true Try.f3.params.toList args.toList ds p := hA0
  rw [Try.params3] at hA hval
  obtain ⟨v0, v1, v2, v3, d0, d1, d2, d3, p0, p1, p2, p3, rfl, rfl, rfl, h0, h1, h2, h3⟩ := trodAll_four hA
  obtain ⟨rfl, rfl⟩ := trodVars_none hV
  obtain ⟨n, vt, rfl, rn⟩ := open_net (hval 0 24 v0 rfl rfl) h0
  obtain ⟨l, rl⟩ := open_strs' (hval 1 25 v1 rfl rfl) h1
  obtain ⟨c, rfl⟩ := open_costs (hval 2 27 v2 rfl rfl) h2
  obtain ⟨sl, vs, k, rfl, rs⟩ := open_algn (hval 3 30 v3 rfl rfl) h3
  simp only [List.append_nil] at hW'
  refine (lawChecks_any n l c sl k vt v1 vs 0 _ 0 _ W rn rl rs).mono fun e W' ⟨he, hb⟩ => ?_
  subst he
  have hp : ∀ x ∈ p0 ++ p1 ++ p2 ++ p3, x.block < W.heap.size := fun x hx => hW'.lt x (by simpa using hx)
  have hg := trodAll_mk4 (Below.trod laid_out (by kernel_rfl) (of_decide_eq_true (by kernel_rfl)) h0 hb (fun x hx => hp x (by simp [hx]))) (Below.trod laid_out (by kernel_rfl) (of_decide_eq_true (by kernel_rfl)) h1 hb (fun x hx => hp x (by simp [hx]))) (Below.trod laid_out (by kernel_rfl) (of_decide_eq_true (by kernel_rfl)) h2 hb (fun x hx => hp x (by simp [hx]))) (Below.trod laid_out (by kernel_rfl) (of_decide_eq_true (by kernel_rfl)) h3 hb (fun x hx => hp x (by simp [hx])))
  rw [← List.append_assoc, ← List.append_assoc] at hg
  exact ⟨_, rfl, law_post (t := 4) hW' (by kernel_rfl) Try.underlying4 ⟨rfl, rfl, rfl⟩ rfl hg hb⟩

theorem productChecks_holds : Rows.ProductChecksSaid :=
  OpenClaim.holds_of_wide 3 Try.f3 rfl rfl rfl rfl rfl rfl rfl ⟨rfl, rfl, rfl, rfl, rfl⟩ rfl rfl rfl rfl rfl (by kernel_rfl) Try.func3 (by kernel_rfl)
    (of_decide_eq_true (by kernel_rfl)) (by unfold Func.isWrapper; first | (rw [if_pos (by decide +kernel)]; kernel_rfl) | (rw [if_neg (by decide +kernel)]; exact ⟨rfl, rfl⟩))
    (fun os started H enc _ => productChecks_lifted os started H enc)

#print axioms productChecks_holds

end Go.Proofs.Ytamhbmaimiifmaa
