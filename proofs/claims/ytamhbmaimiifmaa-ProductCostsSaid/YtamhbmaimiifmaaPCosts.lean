/-
  ProductCosts, for all costs and moves: ValidCosts says which costs are valid, and Cost, Word, and Run return the cost, the word, and the run of moves, or the specified error. Conditions: none.
-/
import Derived.Test.YtamhbmaimiifmaaPChecks
import Derived.Test.YtamhbmaimiifmaaWord
namespace Go.Proofs.Ytamhbmaimiifmaa
set_option linter.unusedSimpArgs false
set_option linter.unusedVariables false
open Go.ChangeShapes Go.WideShapes Go.ChangeAt Go.RowKit

theorem bytesLess_self : ∀ l : List UInt8, Op.bytesLess l l = false
  | [] => rfl
  | x :: l => by simp [Op.bytesLess, bytesLess_self l]
set_option maxHeartbeats 1000000 in
theorem compare_eq (l : List ByteArray) (lo hi lo2 hi2 : Nat) (v1 v2 : Value) (w : World) (h1 : RdS w lo hi v1 l) (h2 : RdS w lo2 hi2 v2 l) :
    Calls Try.prog 64 #[v1, v2] w fun e w' => e = .returned (.int .i64 0) ∧ Below w.heap.size w w' := by
  obtain ⟨A1, c1, rfl, hc1, hm1⟩ := h1.form
  obtain ⟨A2, c2, rfl, hc2, hm2⟩ := h2.form
  have H1 := Lib.hid h1
  have H2 := Lib.hid h2
  clear h1 h2
  refine calls_cps fun R hR => ?_
  have HR := Lib.hid hR
  clear hR
  go_enter Try.func64, Try.ntmps64
  go_wp2_with fail
  go_loopw [5] (fun v5 wr => ∃ (k q : Nat), k ≤ l.length ∧ v5 = .int .i64 k ∧ wr = w.drewN q) (fun v5 _ => l.length - (intOf v5).toNat)
  case atStart => exact ⟨0, 0, by omega, rfl, rfl⟩
  case round =>
    obtain ⟨k, q, hk, rfl, rfl⟩ := hrel
    by_cases hlt : k < l.length
    · have hkd : decide ((k : Int) < (l.length : Int)) = true := by simp; omega
      have hkb : (k : Int) < (l.length : Int) := by omega
      obtain ⟨b1, o1, rfl, _, _, f1⟩ := RdS.at1 H1.out hlt
      obtain ⟨b2, o2, rfl, _, _, f2⟩ := RdS.at1 H2.out hlt
      generalize gti l k = x at *
      have hbl := bytesLess_self x.toList
      go_wp2
      go_quiet (fail)
      have f3 : C1 ((w.drewN q).drewN nq) b1 (o1 + k) (.string x) := f1
      have f4 : C1 ((w.drewN q).drewN nq) b2 (o2 + k) (.string x) := f2
      go_wp2
      go_quiet (fail)
      go_wp2
      refine ⟨⟨k + 1, _, by omega, by go_num, by first | rfl | (rw [World.drewN_drewN]; done) | (rw [World.drewN_drewN, World.drewN_drewN])⟩, by simp [intOf]; omega⟩
    · have hkd : decide ((k : Int) < (l.length : Int)) = false := by simp; omega
      go_wp2
      exact HR.out _ _ ⟨rfl, below_drewN (Below.refl _ _) _⟩
set_option maxHeartbeats 400000 in
theorem rSame_eq (l : List ByteArray) (lo hi lo2 hi2 : Nat) (v1 v2 : Value) (w : World) (h1 : RdS w lo hi v1 l) (h2 : RdS w lo2 hi2 v2 l) :
    Calls Try.prog 22 #[v1, v2] w fun e w' => e = .returned (.bool true) ∧ Below w.heap.size w w' := by
  have HC := Lib.hid (compare_eq l lo hi lo2 hi2 v1 v2 w h1 h2)
  clear h1 h2
  refine calls_cps fun R hR => ?_
  have HR := Lib.hid hR
  clear hR
  go_enter Try.func22, Try.ntmps22
  go_wp2_with fail
  refine HC.out.mono ?_
  rintro e w1 ⟨rfl, hb1⟩
  have HB := Lib.hid hb1
  clear hb1
  go_wp2_with fail
  exact HR.out _ _ ⟨rfl, HB.out⟩
theorem equalI_eq (l : List Int) (lo hi lo2 hi2 : Nat) (v1 v2 : Value) (w : World) (h1 : RdI w lo hi v1 l) (h2 : RdI w lo2 hi2 v2 l) :
    Calls Try.prog 23 #[v1, v2] w fun e w' => e = .returned (.bool true) ∧ Below w.heap.size w w' := by
  have h := equalI_any l l lo hi lo2 hi2 v1 v2 w h1 h2
  simpa using h

set_option maxRecDepth 100000 in
set_option maxHeartbeats 4000000 in
theorem lawCosts_any (c : Cst) (sl : List Stp) (vs : Value) (lo hi : Nat) (w : World) (hs : RdM w lo hi vs sl) :
    Calls Try.prog 4 #[cstV c, vs] w fun e w' => e = .returned (.bool true) ∧ Below w.heap.size w w' := by
  obtain ⟨A3, c3, rfl, hc3, hmm3⟩ := hs.form
  have HS := Lib.hid hs
  have M : Hid (Mem [Loc.k3 w.heap.size (.int .i64 c.log) (.int .i64 c.model) (.int .i64 c.silent), Loc.bl w.heap.size w] (w.alloc (.cells #[.int .i64 c.log, .int .i64 c.model, .int .i64 c.silent] 27))) := Lib.hid ⟨K3.new w _ _ _ _, ⟨(Below.refl _ _).alloc (Nat.le_refl _) _, by simp⟩, True.intro⟩
  clear hs
  obtain ⟨vz, hvz⟩ : ∃ z, vcB c = z := ⟨_, rfl⟩
  have HVZ := Lib.hid hvz
  clear hvz
  refine calls_cps fun R hR => ?_
  have HR := Lib.hid hR
  clear hR
  go_enter Try.func4, Try.ntmps4
  have hk3 := M.out.1
  go_wp2_with (first
    | (go_at_call 9; refine (awake_any _).mono ?_; rintro e w1 ⟨rfl, hb1⟩; replace M := Lib.hid (M.out.below hb1); clear hb1; replace hk3 := M.out.1)
    | (go_at_call 11; refine (short_any sl lo hi _ _ (HS.out.after M.out.2.1.1)).mono ?_; rintro e w1 ⟨z2, rfl, hb1⟩; replace M := Lib.hid (M.out.below hb1); clear hb1; replace hk3 := M.out.1)
    | (go_at_call 14; refine (Cost_any c sl lo hi _ _ (HS.out.after M.out.2.1.1)).mono ?_; rintro e w1 ⟨rfl, hb1⟩; replace M := Lib.hid (M.out.below hb1); clear hb1; replace hk3 := M.out.1)
    | (go_at_call 15; refine (rCost_any c sl lo hi _ _ (HS.out.after M.out.2.1.1)).mono ?_; rintro e w1 ⟨rfl, hb1⟩; replace M := Lib.hid (M.out.below hb1); clear hb1; replace hk3 := M.out.1)
    | (go_at_call 16; refine (Word_any sl lo hi _ _ (HS.out.after M.out.2.1.1)).mono ?_; rintro e w2 ⟨A4, c4, rfl, hr, hb⟩; replace M := Lib.hid (Mem.cons (a := Loc.rdS _ _ _ _) hr (M.out.below hb)); clear hb hr; replace hk3 := M.out.2.1)
    | (go_at_call 17; refine (rWord_any sl lo hi _ _ (HS.out.after M.out.2.2.1.1)).mono ?_; rintro e w3 ⟨A5, c5, rfl, hr, hb⟩; replace M := Lib.hid (Mem.cons (a := Loc.rdS _ _ _ _) hr (M.out.below hb)); clear hb hr; replace hk3 := M.out.2.2.1)
    | (go_at_call 18; refine (Run_any sl lo hi _ _ (HS.out.after M.out.2.2.2.1.1)).mono ?_; rintro e w4 ⟨A6, c6, rfl, hr, hb⟩; replace M := Lib.hid (Mem.cons (a := Loc.rdI _ _ _ _) hr (M.out.below hb)); clear hb hr; replace hk3 := M.out.2.2.2.1)
    | (go_at_call 19; refine (rRun_any sl lo hi _ _ (HS.out.after M.out.2.2.2.2.1.1)).mono ?_; rintro e w5 ⟨A7, c7, rfl, hr, hb⟩; replace M := Lib.hid (Mem.cons (a := Loc.rdI _ _ _ _) hr (M.out.below hb)); clear hb hr; replace hk3 := M.out.2.2.2.2.1))
  all_goals try exact HR.out _ _ ⟨rfl, M.out.2.1.1⟩
  have hMM := M.out
  refine wp_region_cls (C := (Mem [Loc.rdI _ _ (.slice A7 (runE sl).1.length c7) (runE sl).1, Loc.rdI _ _ (.slice A6 (runE sl).1.length c6) (runE sl).1, Loc.rdS _ _ (.slice A5 (wordE sl).1.length c5) (wordE sl).1, Loc.rdS _ _ (.slice A4 (wordE sl).1.length c4) (wordE sl).1, Loc.k3 w.heap.size (.int .i64 c.log) (.int .i64 c.model) (.int .i64 c.silent), Loc.bl w.heap.size w])) (by kernel_rfl) (by kernel_rfl) (by exact hMM.drew) ?_
  repeat (first
    | (refine BigFrame.wpQuiet_skip (by rfl) ?_; simp only [Act.put, List.setIfInBounds_toArray, List.set_cons_zero, List.set_cons_succ])
    | (refine BigFrame.wpQuiet_want (by rfl) (fun K hK => ?_); refine BigFrame.quiet_move _ rfl (hK _ ?_); clear hK K; simp only [Act.put, Act.eval, List.setIfInBounds_toArray, List.set_cons_zero, List.set_cons_succ, List.getD_toArray, List.getD_cons_zero, List.getD_cons_succ])
    | (refine BigFrame.wpQuiet_want (by rfl) (fun K hK => ?_); refine BigFrame.quiet_assign _ rfl (hK _ ?_); clear hK K; simp only [Act.put, Act.eval, List.setIfInBounds_toArray, List.set_cons_zero, List.set_cons_succ, List.getD_toArray, List.getD_cons_zero, List.getD_cons_succ])
    | (refine BigFrame.wpQuiet_want (by rfl) (fun K hK => ?_); refine quiet_of (v := ?_) (fun W hW => ?_) (hK _ ?_); rotate_left; ((have hq1 := hW.2.2.2.2.1; dsimp only [Loc.k3] at hq1); go_simp; try (with_reducible rfl)); clear hK K; simp only [Act.put, List.setIfInBounds_toArray, List.set_cons_zero, List.set_cons_succ])
    | (refine BigFrame.wpQuiet_want (by rfl) (fun K hK => ?_); go_simp; apply Exists.intro; refine ⟨fun W hW => ?_, hK _ ?_⟩; (first | exact (validCosts_is HVZ.out _).mono (fun e w' h => ⟨h.1, hW.below h.2⟩) | exact (rValidCosts_is HVZ.out _).mono (fun e w' h => ⟨h.1, hW.below h.2⟩) | exact (rSame_eq _ _ _ _ _ _ _ _ hW.2.2.2.1 hW.2.2.1).mono (fun e w' h => ⟨h.1, hW.below h.2⟩) | exact (equalI_eq _ _ _ _ _ _ _ _ hW.2.1 hW.1).mono (fun e w' h => ⟨h.1, hW.below h.2⟩)); clear hK K; try simp only [Act.put, List.setIfInBounds_toArray, List.set_cons_zero, List.set_cons_succ])
    | fail)
  refine wpQuiet_nil ?_
  intro W hW
  go_wp2_with fail
  exact HR.out _ _ ⟨rfl, hW.2.2.2.2.2.1.1⟩

set_option maxRecDepth 100000 in
theorem productCosts_lifted (os : Os) (started : os.Started) (H : Type) (enc : TypeId × Value → H) :
    ReturnsInHanded {} Try.checked os 4 .any (Rows.productCostsSpec.pre6 enc Try.prog Try.f4 Rows.productCostsRow.domain false) (Rows.productCostsSpec.post enc Try.prog Try.f4 false true false false) := by
  refine returnsInHanded_of_change (C := Try.checked) own_knob started (by kernel_rfl) Try.func4
    (ChangeSpec.witness6 (enc := enc) (C := Try.checked) false ⟨#[], #[.agg #[.int .i64 0, .int .i64 0, .int .i64 0], .slice none 0 0], []⟩ 8 (by kernel_rfl) (by kernel_rfl) (by kernel_rfl) (by kernel_rfl)) ?_
  intro W base args ds gs before hval0 hW hcnd _
  have hval : ∀ (j : Nat) t v, Try.f4.params[j]? = some t → args[j]? = some v → Value.okWide Try.prog W .any base t v := hval0
  have hW' := hW
  obtain ⟨p, q, hA0, hV, rfl, hfz, hnd⟩ := hW
  have hA : DataW.TrodAll enc Try.prog W 0 (fun _ => true) true Try.f4.params.toList args.toList ds p := hA0
  rw [Try.params4] at hA hval
  obtain ⟨v0, v1, d0, d1, p0, p1, rfl, rfl, rfl, h0, h1⟩ := trodAll_two hA
  obtain ⟨rfl, rfl⟩ := trodVars_none hV
  obtain ⟨c, rfl⟩ := open_costs (hval 0 27 v0 rfl rfl) h0
  obtain ⟨sl, rs⟩ := open_steps' (hval 1 28 v1 rfl rfl) h1
  simp only [List.append_nil] at hW'
  refine (lawCosts_any c sl v1 0 _ W rs).mono fun e W' ⟨he, hb⟩ => ?_
  subst he
  have hp : ∀ x ∈ p0 ++ p1, x.block < W.heap.size := fun x hx => hW'.lt x (by simpa using hx)
  have hg := trodAll_mk2 (Below.trod laid_out (by kernel_rfl) (of_decide_eq_true (by kernel_rfl)) h0 hb (fun x hx => hp x (by simp [hx]))) (Below.trod laid_out (by kernel_rfl) (of_decide_eq_true (by kernel_rfl)) h1 hb (fun x hx => hp x (by simp [hx])))
  exact ⟨_, rfl, law_post (t := 4) hW' (by kernel_rfl) Try.underlying4 ⟨rfl, rfl, rfl⟩ rfl hg hb⟩

theorem productCosts_holds : Rows.ProductCostsSaid :=
  OpenClaim.holds_of_wide 4 Try.f4 rfl rfl rfl rfl rfl rfl rfl ⟨rfl, rfl, rfl, rfl, rfl⟩ rfl rfl rfl rfl rfl (by kernel_rfl) Try.func4 (by kernel_rfl)
    (of_decide_eq_true (by kernel_rfl)) (by unfold Func.isWrapper; first | (rw [if_pos (by decide +kernel)]; kernel_rfl) | (rw [if_neg (by decide +kernel)]; exact ⟨rfl, rfl⟩))
    (fun os started H enc _ => productCosts_lifted os started H enc)

#print axioms productCosts_holds

end Go.Proofs.Ytamhbmaimiifmaa
