/-
  ProductMoves, for every net, word, list of numbers, and move: Start and End return the first and the last state, Moves the possible moves, and Apply the state after a move, or the specified errors. Conditions: none.
-/
import Derived.Test.YtamhbmaimiifmaaPChecks
import Derived.Test.YtamhbmaimiifmaaMovesP
namespace Go.Proofs.Ytamhbmaimiifmaa
set_option linter.unusedSimpArgs false
set_option linter.unusedVariables false
open Go.ChangeShapes Go.WideShapes Go.ChangeAt Go.RowKit

theorem equalI_self (l : List Int) (lo hi lo2 hi2 : Nat) (v1 v2 : Value) (w : World) (h1 : RdI w lo hi v1 l) (h2 : RdI w lo2 hi2 v2 l) :
    Calls Try.prog 23 #[v1, v2] w fun e w' => e = .returned (.bool true) ∧ Below w.heap.size w w' := by
  have h := equalI_any l l lo hi lo2 hi2 v1 v2 w h1 h2
  simpa using h
set_option maxHeartbeats 1000000 in
theorem rSameM_eq (l : List Stp) (lo hi lo2 hi2 : Nat) (v1 v2 : Value) (w : World) (h1 : RdM w lo hi v1 l) (h2 : RdM w lo2 hi2 v2 l) :
    Calls Try.prog 36 #[v1, v2] w fun e w' => e = .returned (.bool true) ∧ Below w.heap.size w w' := by
  obtain ⟨A1, c1, rfl, hc1, hm1⟩ := h1.form
  obtain ⟨A2, c2, rfl, hc2, hm2⟩ := h2.form
  have H1 := Lib.hid h1
  have H2 := Lib.hid h2
  clear h1 h2
  refine calls_cps fun R hR => ?_
  have HR := Lib.hid hR
  clear hR
  go_enter Try.func36, Try.ntmps36
  go_wp2_with fail
  go_loopw [5] (fun v5 wr => ∃ (k q : Nat), k ≤ l.length ∧ v5 = .int .i64 k ∧ wr = w.drewN q) (fun v5 _ => l.length - (intOf v5).toNat)
  case atStart => exact ⟨0, 0, by omega, rfl, rfl⟩
  case round =>
    obtain ⟨k, q, hk, rfl, rfl⟩ := hrel
    by_cases hlt : k < l.length
    · have hkd : decide ((k : Int) < (l.length : Int)) = true := by simp; omega
      have hkb : (k : Int) < (l.length : Int) := by omega
      obtain ⟨b1, o1, rfl, _, _, f1⟩ := RdM.at3 H1.out hlt
      obtain ⟨b2, o2, rfl, _, _, f2⟩ := RdM.at3 H2.out hlt
      generalize gti l k = x at *
      obtain ⟨kd, tr, ac⟩ := x
      simp only at f1 f2
      go_wp2
      go_quiet (fail)
      go_wp2
      refine ⟨⟨k + 1, _, by omega, by go_num, by first | rfl | (rw [World.drewN_drewN])⟩, by simp [intOf]; omega⟩
    · have hkd : decide ((k : Int) < (l.length : Int)) = false := by simp; omega
      go_wp2
      exact HR.out _ _ ⟨rfl, below_drewN (Below.refl _ _) _⟩

theorem RetM.of {w : World} {r r' : List Stp × Int} {e : Ending} {w' : World} (h : RetM w r e w') (hr : r = r') : RetM w r' e w' := hr ▸ h
set_option maxRecDepth 100000 in
set_option maxHeartbeats 8000000 in
theorem lawMoves_any (n : Net) (l : List ByteArray) (s : List Int) (m : Stp) (vt v vs : Value) (lo hi lo2 hi2 : Nat) (w : World) (hv : RdT w lo hi vt n.trans) (hw : RdS w lo hi v l) (hs : RdI w lo2 hi2 vs s) :
    Calls Try.prog 6 #[netV n vt, v, vs, stpM m] w fun e w' => e = .returned (.bool true) ∧ Below w.heap.size w w' := by
  obtain ⟨A, ca, rfl, hc, hmm⟩ := hv.form
  obtain ⟨A2, c2, rfl, hc2, hmm2⟩ := hw.form
  obtain ⟨A3, c3, rfl, hc3, hmm3⟩ := hs.form
  have HV := Lib.hid hv
  have HW := Lib.hid hw
  have HS := Lib.hid hs
  obtain ⟨kd, tr, ac⟩ := m
  have M := Lib.hid (stepM kd tr ac n (.slice A n.trans.length ca) w)
  clear hv hw hs
  cases hz : stateB n l s with
  | false =>
    have HZ := Lib.hid hz
    have HME : Hid (MovesE n l s = ([], 1)) := Lib.hid (by rw [MovesE, hz]; rfl)
    clear hz
    refine calls_cps fun R hR => ?_
    have HR := Lib.hid hR
    clear hR
    go_enter Try.func6, Try.ntmps6
    have hk3 := M.out.1
    have hk4 := M.out.2.1
    have tok1 : True := trivial
    have tok2 : True := trivial
    have tok3 : True := trivial
    go_wp2_with (first
      | (go_at_call 9; refine (awake_any _).mono ?_; rintro e w1 ⟨rfl, hb1⟩; replace M := Lib.hid (M.out.below hb1); clear hb1; replace hk3 := M.out.1; replace hk4 := M.out.2.1)
      | (go_at_call 10; refine (few_any n l lo hi _ _ _ (HV.out.after M.out.2.2.1.1) (HW.out.after M.out.2.2.1.1)).mono ?_; rintro e w1 ⟨z1, rfl, hb1⟩; replace M := Lib.hid (M.out.below hb1); clear hb1; replace hk3 := M.out.1; replace hk4 := M.out.2.1)
      | (go_at_call 28; refine (Start_any n l _ _ lo hi lo hi _ (HV.out.after M.out.2.2.1.1) (HW.out.after M.out.2.2.1.1)).mono ?_; rintro e w2 ⟨A4, c4, rfl, hr, hb⟩; replace M := Lib.hid (Mem.cons (a := Loc.rdI _ _ _ _) hr (M.out.below hb)); clear hb hr; replace hk3 := M.out.2.1; replace hk4 := M.out.2.2.1)
      | (go_at_call 29; refine (rStart_any n l _ _ lo hi lo hi _ (HV.out.after M.out.2.2.2.1.1) (HW.out.after M.out.2.2.2.1.1)).mono ?_; rintro e w3 ⟨A5, c5, rfl, hr, hb⟩; replace M := Lib.hid (Mem.cons (a := Loc.rdI _ _ _ _) hr (M.out.below hb)); clear hb hr; replace hk3 := M.out.2.2.1; replace hk4 := M.out.2.2.2.1)
      | (go_at_call 30; refine (End_any n l _ _ lo hi lo hi _ (HV.out.after M.out.2.2.2.2.1.1) (HW.out.after M.out.2.2.2.2.1.1)).mono ?_; rintro e w4 ⟨A6, c6, rfl, hr, hb⟩; replace M := Lib.hid (Mem.cons (a := Loc.rdI _ _ _ _) hr (M.out.below hb)); clear hb hr; replace hk3 := M.out.2.2.2.1; replace hk4 := M.out.2.2.2.2.1)
      | (go_at_call 31; refine (rEnd_any n l _ _ lo hi lo hi _ (HV.out.after M.out.2.2.2.2.2.1.1) (HW.out.after M.out.2.2.2.2.2.1.1)).mono ?_; rintro e w5 ⟨A7, c7, rfl, hr, hb⟩; replace M := Lib.hid (Mem.cons (a := Loc.rdI _ _ _ _) hr (M.out.below hb)); clear hb hr; replace hk3 := M.out.2.2.2.2.1; replace hk4 := M.out.2.2.2.2.2.1)
      | (go_at_call 32; refine (Apply_any n l s ⟨kd, tr, ac⟩ _ _ _ lo hi lo hi lo2 hi2 _ (HV.out.after M.out.2.2.2.2.2.2.1.1) (HW.out.after M.out.2.2.2.2.2.2.1.1) (HS.out.after M.out.2.2.2.2.2.2.1.1)).mono ?_; rintro e w6 ⟨A8, c8, rfl, hr, hb⟩; replace M := Lib.hid (Mem.cons (a := Loc.rdI _ _ _ _) hr (M.out.below hb)); clear hb hr; replace hk3 := M.out.2.2.2.2.2.1; replace hk4 := M.out.2.2.2.2.2.2.1)
      | (go_at_call 33; refine (rApply_any n l s ⟨kd, tr, ac⟩ _ _ _ lo hi lo hi lo2 hi2 _ (HV.out.after M.out.2.2.2.2.2.2.2.1.1) (HW.out.after M.out.2.2.2.2.2.2.2.1.1) (HS.out.after M.out.2.2.2.2.2.2.2.1.1)).mono ?_; rintro e w7 ⟨A9, c9, rfl, hr, hb⟩; replace M := Lib.hid (Mem.cons (a := Loc.rdI _ _ _ _) hr (M.out.below hb)); clear hb hr; replace hk3 := M.out.2.2.2.2.2.2.1; replace hk4 := M.out.2.2.2.2.2.2.2.1)
      | (go_at_call 23; have _t := tok1; refine (equalI_self _ _ _ _ _ _ _ _ M.out.2.2.2.2.2.1 M.out.2.2.2.2.1).mono ?_; rintro e w9 ⟨rfl, hb⟩; replace M := Lib.hid (M.out.below hb); clear hb tok1; replace hk3 := M.out.2.2.2.2.2.2.1; replace hk4 := M.out.2.2.2.2.2.2.2.1)
      | (go_at_call 23; have _t := tok2; refine (equalI_self _ _ _ _ _ _ _ _ M.out.2.2.2.1 M.out.2.2.1).mono ?_; rintro e w9 ⟨rfl, hb⟩; replace M := Lib.hid (M.out.below hb); clear hb tok2; replace hk3 := M.out.2.2.2.2.2.2.1; replace hk4 := M.out.2.2.2.2.2.2.2.1)
      | (go_at_call 23; have _t := tok3; refine (equalI_self _ _ _ _ _ _ _ _ M.out.2.1 M.out.1).mono ?_; rintro e w9 ⟨rfl, hb⟩; replace M := Lib.hid (M.out.below hb); clear hb tok3; replace hk3 := M.out.2.2.2.2.2.2.1; replace hk4 := M.out.2.2.2.2.2.2.2.1)
      | (go_at_call 34; refine (Moves_any n l s _ _ _ lo hi lo hi lo2 hi2 _ (HV.out.after M.out.2.2.2.2.2.2.2.2.1.1) (HW.out.after M.out.2.2.2.2.2.2.2.2.1.1) (HS.out.after M.out.2.2.2.2.2.2.2.2.1.1)).mono ?_; rintro e w10 hret; replace hret := hret.of HME.out; obtain ⟨A10, c10, rfl, hr, hb⟩ := hret; dsimp only at hr ⊢; replace M := Lib.hid (Mem.cons (a := Loc.rdM _ _ _ _) hr (M.out.below hb)); clear hb hr; replace hk3 := M.out.2.2.2.2.2.2.2.1; replace hk4 := M.out.2.2.2.2.2.2.2.2.1)
      | (go_at_call 35; refine (rIsState_is HZ.out _ _ _ lo hi lo hi lo2 hi2 _ (HV.out.after M.out.2.2.2.2.2.2.2.2.2.1.1) (HW.out.after M.out.2.2.2.2.2.2.2.2.2.1.1) (HS.out.after M.out.2.2.2.2.2.2.2.2.2.1.1)).mono ?_; rintro e w11 ⟨rfl, hb⟩; replace M := Lib.hid (M.out.below hb); clear hb; replace hk3 := M.out.2.2.2.2.2.2.2.1; replace hk4 := M.out.2.2.2.2.2.2.2.2.1))
    all_goals first
      | exact HR.out _ _ ⟨rfl, M.out.2.2.1.1⟩
      | exact HR.out _ _ ⟨rfl, M.out.2.2.2.2.2.2.2.2.2.1.1⟩
  | true =>
    have HZ := Lib.hid hz
    have HME : Hid (MovesE n l s = (movesL n l s, 0)) := Lib.hid (by rw [MovesE, hz]; rfl)
    have HRM := Lib.hid (fun (W : World) (h : Below w.heap.size w W) => rMoves_any n l s _ _ _ lo hi lo hi lo2 hi2 W (HV.out.after h) (HW.out.after h) (HS.out.after h) hz)
    rw [moves_same hz] at HRM
    clear hz
    generalize movesL n l s = mv at *
    refine calls_cps fun R hR => ?_
    have HR := Lib.hid hR
    clear hR
    go_enter Try.func6, Try.ntmps6
    have hk3 := M.out.1
    have hk4 := M.out.2.1
    have tok1 : True := trivial
    have tok2 : True := trivial
    have tok3 : True := trivial
    go_wp2_with (first
      | (go_at_call 9; refine (awake_any _).mono ?_; rintro e w1 ⟨rfl, hb1⟩; replace M := Lib.hid (M.out.below hb1); clear hb1; replace hk3 := M.out.1; replace hk4 := M.out.2.1)
      | (go_at_call 10; refine (few_any n l lo hi _ _ _ (HV.out.after M.out.2.2.1.1) (HW.out.after M.out.2.2.1.1)).mono ?_; rintro e w1 ⟨z1, rfl, hb1⟩; replace M := Lib.hid (M.out.below hb1); clear hb1; replace hk3 := M.out.1; replace hk4 := M.out.2.1)
      | (go_at_call 28; refine (Start_any n l _ _ lo hi lo hi _ (HV.out.after M.out.2.2.1.1) (HW.out.after M.out.2.2.1.1)).mono ?_; rintro e w2 ⟨A4, c4, rfl, hr, hb⟩; replace M := Lib.hid (Mem.cons (a := Loc.rdI _ _ _ _) hr (M.out.below hb)); clear hb hr; replace hk3 := M.out.2.1; replace hk4 := M.out.2.2.1)
      | (go_at_call 29; refine (rStart_any n l _ _ lo hi lo hi _ (HV.out.after M.out.2.2.2.1.1) (HW.out.after M.out.2.2.2.1.1)).mono ?_; rintro e w3 ⟨A5, c5, rfl, hr, hb⟩; replace M := Lib.hid (Mem.cons (a := Loc.rdI _ _ _ _) hr (M.out.below hb)); clear hb hr; replace hk3 := M.out.2.2.1; replace hk4 := M.out.2.2.2.1)
      | (go_at_call 30; refine (End_any n l _ _ lo hi lo hi _ (HV.out.after M.out.2.2.2.2.1.1) (HW.out.after M.out.2.2.2.2.1.1)).mono ?_; rintro e w4 ⟨A6, c6, rfl, hr, hb⟩; replace M := Lib.hid (Mem.cons (a := Loc.rdI _ _ _ _) hr (M.out.below hb)); clear hb hr; replace hk3 := M.out.2.2.2.1; replace hk4 := M.out.2.2.2.2.1)
      | (go_at_call 31; refine (rEnd_any n l _ _ lo hi lo hi _ (HV.out.after M.out.2.2.2.2.2.1.1) (HW.out.after M.out.2.2.2.2.2.1.1)).mono ?_; rintro e w5 ⟨A7, c7, rfl, hr, hb⟩; replace M := Lib.hid (Mem.cons (a := Loc.rdI _ _ _ _) hr (M.out.below hb)); clear hb hr; replace hk3 := M.out.2.2.2.2.1; replace hk4 := M.out.2.2.2.2.2.1)
      | (go_at_call 32; refine (Apply_any n l s ⟨kd, tr, ac⟩ _ _ _ lo hi lo hi lo2 hi2 _ (HV.out.after M.out.2.2.2.2.2.2.1.1) (HW.out.after M.out.2.2.2.2.2.2.1.1) (HS.out.after M.out.2.2.2.2.2.2.1.1)).mono ?_; rintro e w6 ⟨A8, c8, rfl, hr, hb⟩; replace M := Lib.hid (Mem.cons (a := Loc.rdI _ _ _ _) hr (M.out.below hb)); clear hb hr; replace hk3 := M.out.2.2.2.2.2.1; replace hk4 := M.out.2.2.2.2.2.2.1)
      | (go_at_call 33; refine (rApply_any n l s ⟨kd, tr, ac⟩ _ _ _ lo hi lo hi lo2 hi2 _ (HV.out.after M.out.2.2.2.2.2.2.2.1.1) (HW.out.after M.out.2.2.2.2.2.2.2.1.1) (HS.out.after M.out.2.2.2.2.2.2.2.1.1)).mono ?_; rintro e w7 ⟨A9, c9, rfl, hr, hb⟩; replace M := Lib.hid (Mem.cons (a := Loc.rdI _ _ _ _) hr (M.out.below hb)); clear hb hr; replace hk3 := M.out.2.2.2.2.2.2.1; replace hk4 := M.out.2.2.2.2.2.2.2.1)
      | (go_at_call 23; have _t := tok1; refine (equalI_self _ _ _ _ _ _ _ _ M.out.2.2.2.2.2.1 M.out.2.2.2.2.1).mono ?_; rintro e w9 ⟨rfl, hb⟩; replace M := Lib.hid (M.out.below hb); clear hb tok1; replace hk3 := M.out.2.2.2.2.2.2.1; replace hk4 := M.out.2.2.2.2.2.2.2.1)
      | (go_at_call 23; have _t := tok2; refine (equalI_self _ _ _ _ _ _ _ _ M.out.2.2.2.1 M.out.2.2.1).mono ?_; rintro e w9 ⟨rfl, hb⟩; replace M := Lib.hid (M.out.below hb); clear hb tok2; replace hk3 := M.out.2.2.2.2.2.2.1; replace hk4 := M.out.2.2.2.2.2.2.2.1)
      | (go_at_call 23; have _t := tok3; refine (equalI_self _ _ _ _ _ _ _ _ M.out.2.1 M.out.1).mono ?_; rintro e w9 ⟨rfl, hb⟩; replace M := Lib.hid (M.out.below hb); clear hb tok3; replace hk3 := M.out.2.2.2.2.2.2.1; replace hk4 := M.out.2.2.2.2.2.2.2.1)
      | (go_at_call 34; refine (Moves_any n l s _ _ _ lo hi lo hi lo2 hi2 _ (HV.out.after M.out.2.2.2.2.2.2.2.2.1.1) (HW.out.after M.out.2.2.2.2.2.2.2.2.1.1) (HS.out.after M.out.2.2.2.2.2.2.2.2.1.1)).mono ?_; rintro e w10 hret; replace hret := hret.of HME.out; obtain ⟨A10, c10, rfl, hr, hb⟩ := hret; dsimp only at hr ⊢; replace M := Lib.hid (Mem.cons (a := Loc.rdM _ _ _ _) hr (M.out.below hb)); clear hb hr; replace hk3 := M.out.2.2.2.2.2.2.2.1; replace hk4 := M.out.2.2.2.2.2.2.2.2.1)
      | (go_at_call 35; refine (rIsState_is HZ.out _ _ _ lo hi lo hi lo2 hi2 _ (HV.out.after M.out.2.2.2.2.2.2.2.2.2.1.1) (HW.out.after M.out.2.2.2.2.2.2.2.2.2.1.1) (HS.out.after M.out.2.2.2.2.2.2.2.2.2.1.1)).mono ?_; rintro e w11 ⟨rfl, hb⟩; replace M := Lib.hid (M.out.below hb); clear hb; replace hk3 := M.out.2.2.2.2.2.2.2.1; replace hk4 := M.out.2.2.2.2.2.2.2.2.1)
      | (go_at_call 37; refine (HRM.out _ M.out.2.2.2.2.2.2.2.2.2.1.1).mono ?_; rintro e w12 ⟨A12, c12, rfl, hr, hb⟩; replace M := Lib.hid (Mem.cons (a := Loc.rdM _ _ _ _) hr (M.out.below hb)); clear hb hr)
      | (go_at_call 36; refine (rSameM_eq _ _ _ _ _ _ _ _ M.out.2.1 M.out.1).mono ?_; rintro e w13 ⟨rfl, hb⟩; replace M := Lib.hid (M.out.below hb); clear hb))
    all_goals first
      | exact HR.out _ _ ⟨rfl, M.out.2.2.1.1⟩
      | exact HR.out _ _ ⟨rfl, M.out.2.2.2.2.2.2.2.2.2.2.1.1⟩

set_option maxRecDepth 100000 in
theorem productMoves_lifted (os : Os) (started : os.Started) (H : Type) (enc : TypeId × Value → H) :
    ReturnsInHanded {} Try.checked os 6 .any (Rows.productMovesSpec.pre6 enc Try.prog Try.f6 Rows.productMovesRow.domain false) (Rows.productMovesSpec.post enc Try.prog Try.f6 false true false false) := by
  refine returnsInHanded_of_change (C := Try.checked) own_knob started (by kernel_rfl) Try.func6
    (ChangeSpec.witness6 (enc := enc) (C := Try.checked) false ⟨#[], #[.agg #[.int .i64 0, .slice none 0 0, .int .i64 0, .int .i64 0], .slice none 0 0, .slice none 0 0, .agg #[.int .i64 0, .int .i64 0, .string ByteArray.empty]], []⟩ 8 (by kernel_rfl) (by kernel_rfl) (by kernel_rfl) (by kernel_rfl)) ?_
  intro W base args ds gs before hval0 hW hcnd _
  have hval : ∀ (j : Nat) t v, Try.f6.params[j]? = some t → args[j]? = some v → Value.okWide Try.prog W .any base t v := hval0
  have hW' := hW
  obtain ⟨p, q, hA0, hV, rfl, hfz, hnd⟩ := hW
  have hA : DataW.TrodAll enc Try.prog W 0 (fun _ => true) true Try.f6.params.toList args.toList ds p := hA0
  rw [Try.params6] at hA hval
  obtain ⟨v0, v1, v2, v3, d0, d1, d2, d3, p0, p1, p2, p3, rfl, rfl, rfl, h0, h1, h2, h3⟩ := trodAll_four hA
  obtain ⟨rfl, rfl⟩ := trodVars_none hV
  obtain ⟨n, vt, rfl, rn⟩ := open_net (hval 0 24 v0 rfl rfl) h0
  obtain ⟨l, rl⟩ := open_strs' (hval 1 25 v1 rfl rfl) h1
  obtain ⟨s, rs⟩ := open_ints' (hval 2 44 v2 rfl rfl) h2
  obtain ⟨m, rfl⟩ := open_step (hval 3 57 v3 rfl rfl) h3
  simp only [List.append_nil] at hW'
  refine (lawMoves_any n l s m vt v1 v2 0 _ 0 _ W rn rl rs).mono fun e W' ⟨he, hb⟩ => ?_
  subst he
  have hp : ∀ x ∈ p0 ++ p1 ++ p2 ++ p3, x.block < W.heap.size := fun x hx => hW'.lt x (by simpa using hx)
  have hg := trodAll_mk4 (Below.trod laid_out (by kernel_rfl) (of_decide_eq_true (by kernel_rfl)) h0 hb (fun x hx => hp x (by simp [hx]))) (Below.trod laid_out (by kernel_rfl) (of_decide_eq_true (by kernel_rfl)) h1 hb (fun x hx => hp x (by simp [hx]))) (Below.trod laid_out (by kernel_rfl) (of_decide_eq_true (by kernel_rfl)) h2 hb (fun x hx => hp x (by simp [hx]))) (Below.trod laid_out (by kernel_rfl) (of_decide_eq_true (by kernel_rfl)) h3 hb (fun x hx => hp x (by simp [hx])))
  rw [← List.append_assoc, ← List.append_assoc] at hg
  exact ⟨_, rfl, law_post (t := 4) hW' (by kernel_rfl) Try.underlying4 ⟨rfl, rfl, rfl⟩ rfl hg hb⟩

theorem productMoves_holds : Rows.ProductMovesSaid :=
  OpenClaim.holds_of_wide 6 Try.f6 rfl rfl rfl rfl rfl rfl rfl ⟨rfl, rfl, rfl, rfl, rfl⟩ rfl rfl rfl rfl rfl (by kernel_rfl) Try.func6 (by kernel_rfl)
    (of_decide_eq_true (by kernel_rfl)) (by unfold Func.isWrapper; first | (rw [if_pos (by decide +kernel)]; kernel_rfl) | (rw [if_neg (by decide +kernel)]; exact ⟨rfl, rfl⟩))
    (fun os started H enc _ => productMoves_lifted os started H enc)

#print axioms productMoves_holds

end Go.Proofs.Ytamhbmaimiifmaa
