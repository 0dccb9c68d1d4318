/-
  QueueMeans, for every queue: Loss, Number and Wait return the fractions of the reference, or the specified errors. Conditions: none.
-/
import Derived.Test.YthlgkomhnhkooaaQueue13
import Derived.Test.YthlgkomhnhkooaaQRef10
import Derived.Test.YthlgkomhnhkooaaQLaw1
import Derived.Test.YthlgkomhnhkooaaRow
namespace Go.Proofs.Ythlgkomhnhkooaa
set_option linter.unusedSimpArgs false
set_option linter.unusedVariables false
open Go.ChangeShapes Go.WideShapes Go.ChangeAt Go.RowKit

theorem ent_rloss : Ent 17 := ent_of Try.func17 (by kernel_rfl) rfl
theorem ent_rnumber : Ent 19 := ent_of Try.func19 (by kernel_rfl) rfl
theorem ent_rwait : Ent 21 := ent_of Try.func21 (by kernel_rfl) rfl

set_option maxHeartbeats 4000000 in
theorem answer_any (F : FuncId) (hent : Ent F) (o : Nat → Nat → Option Fr) (ar se : Fr) (sv cp : Int) (w : World)
    (hf : ∀ (s c : Nat) (W : World), QOk ar se s c → Calls Try.prog F #[.agg #[.int .i64 ar.n, .int .i64 ar.d, .int .i64 se.n, .int .i64 se.d, .int .i64 s, .int .i64 c]] W fun e w' => e = .returned (.tuple #[.agg #[.int .i64 (gF (o s c)).n, .int .i64 (gF (o s c)).d], .bool (o s c).isSome]) ∧ Below W.heap.size W w') :
    Calls Try.prog 16 #[.agg #[.int .i64 ar.n, .int .i64 ar.d, .int .i64 se.n, .int .i64 se.d, .int .i64 sv, .int .i64 cp], .func (.func F) #[] #[]] w fun e w' => e = .returned (.tuple #[.agg #[.int .i64 (meanA o ar se sv cp).n, .int .i64 (meanA o ar se sv cp).d], .int .i64 (meanA o ar se sv cp).e]) ∧ Below w.heap.size w w' := by
  unfold Ent at hent
  have HF := Lib.hid hf
  clear hf
  refine calls_cps fun R hR => ?_
  have HR := Lib.hid hR
  clear hR
  go_enter Try.func16, Try.ntmps16
  go_wp2_with fail
  have M0 : Mem [Loc.k6 w.heap.size (.int .i64 ar.n) (.int .i64 ar.d) (.int .i64 se.n) (.int .i64 se.d) (.int .i64 sv) (.int .i64 cp), Loc.bl w.heap.size w] (w.alloc (.cells #[.int .i64 ar.n, .int .i64 ar.d, .int .i64 se.n, .int .i64 se.d, .int .i64 sv, .int .i64 cp] 25)) := ⟨K6.new w _ _ _ _ _ _ _, ⟨(Below.refl _ _).alloc (Nat.le_refl _) _, by simp⟩, True.intro⟩
  have r0 := K2.new (w.alloc (.cells #[.int .i64 ar.n, .int .i64 ar.d, .int .i64 se.n, .int .i64 se.d, .int .i64 sv, .int .i64 cp] 25)) (.int .i64 0) (.int .i64 0) 23
  simp only [World.size_alloc] at r0
  have M1 : Mem [Loc.k2 (w.heap.size + 1) (.int .i64 0) (.int .i64 0), Loc.k6 w.heap.size (.int .i64 ar.n) (.int .i64 ar.d) (.int .i64 se.n) (.int .i64 se.d) (.int .i64 sv) (.int .i64 cp), Loc.bl w.heap.size w] _ := ⟨r0, M0.alloc _⟩
  refine (rqvalid_any ar se sv cp _).mono ?_
  rintro e w1 ⟨rfl, hb1⟩
  replace M1 := M1.below hb1
  clear hb1 M0 r0
  cases hv : qokB ar se sv cp with
  | false =>
    have HA : Hid (meanA o ar se sv cp = ⟨0, 0, 1⟩) := Lib.hid (by unfold meanA; rw [hv]; rfl)
    have r1 := M1.1
    have HB := Lib.hid M1.2.2.1.1
    clear M1 hv
    go_wp2_with fail
    refine ret_B2_tmp (x := .int .i64 0) (y := .int .i64 0) (z := .int .i64 1) rfl rfl rfl rfl (K2.set r1 _ _) (HR.out _ _ ⟨by rw [HA.out], ?_⟩)
    have := HB.out
    (repeat (first | exact Below.refl _ _ | assumption | refine Below.setCell ?_ (by first | omega | (simp; done) | (simp; omega)) _ | refine Below.alloc ?_ (by first | omega | (simp; done) | (simp; omega)) _ | refine Below.drew ?_ | refine below_drewN ?_ _))
  | true =>
    obtain ⟨s, c, rfl, rfl, hq⟩ := QOk.of_qokB hv
    have HA : Hid (meanA o ar se s c = FE.of (o s c)) := Lib.hid (by unfold meanA; rw [hv, if_pos rfl]; simp)
    have q1 := M1.2.1
    clear hv
    go_wp2_with fail
    refine (HF.out s c _ hq).mono ?_
    rintro e w2 ⟨rfl, hb2⟩
    obtain ⟨x, hx⟩ : ∃ x, o s c = x := ⟨_, rfl⟩
    rw [hx] at HA ⊢
    replace M1 := M1.below hb2
    have r1 := M1.1
    have HB := Lib.hid M1.2.2.1.1
    have hz := r1.2.2.2.2
    clear hb2 M1 q1 hx
    cases x with
    | none =>
      have hi : (none : Option Fr).isSome = false := rfl
      rw [hi]
      go_wp2_with fail
      refine ret_B2_tmp (x := .int .i64 0) (y := .int .i64 0) (z := .int .i64 6) rfl rfl rfl rfl (K2.alloc (K2.set r1 _ _) _) (HR.out _ _ ⟨by rw [HA.out]; rfl, ?_⟩)
      have := HB.out
      (repeat (first | exact Below.refl _ _ | assumption | refine Below.setCell ?_ (by first | omega | (simp; done) | (simp; omega)) _ | refine Below.alloc ?_ (by first | omega | (simp; done) | (simp; omega)) _ | refine Below.drew ?_ | refine below_drewN ?_ _))
    | some a =>
      have hi : (some a : Option Fr).isSome = true := rfl
      have hg : gF (some a) = a := rfl
      rw [hi, hg]
      clear hi hg
      go_wp2_with fail
      refine ret_B2_tmp (x := .int .i64 a.n) (y := .int .i64 a.d) (z := .int .i64 0) rfl rfl rfl rfl (K2.alloc (K2.set r1 _ _) _) (HR.out _ _ ⟨by rw [HA.out]; rfl, ?_⟩)
      have := HB.out
      (repeat (first | exact Below.refl _ _ | assumption | refine Below.setCell ?_ (by first | omega | (simp; done) | (simp; omega)) _ | refine Below.alloc ?_ (by first | omega | (simp; done) | (simp; omega)) _ | refine Below.drew ?_ | refine below_drewN ?_ _))

set_option maxHeartbeats 4000000 in
theorem lawMeans_any (ar se : Fr) (sv cp : Int) (w : World) :
    Calls Try.prog 4 #[.agg #[.int .i64 ar.n, .int .i64 ar.d, .int .i64 se.n, .int .i64 se.d, .int .i64 sv, .int .i64 cp]] w fun e w' => e = .returned (.bool true) ∧ Below w.heap.size w w' := by
  refine calls_cps fun R hR => ?_
  have HR := Lib.hid hR
  clear hR
  go_enter Try.func4, Try.ntmps4
  go_wp2_with fail
  have M0 : Mem [Loc.k6 w.heap.size (.int .i64 ar.n) (.int .i64 ar.d) (.int .i64 se.n) (.int .i64 se.d) (.int .i64 sv) (.int .i64 cp), Loc.bl w.heap.size w] (w.alloc (.cells #[.int .i64 ar.n, .int .i64 ar.d, .int .i64 se.n, .int .i64 se.d, .int .i64 sv, .int .i64 cp] 25)) := ⟨K6.new w _ _ _ _ _ _ _, ⟨(Below.refl _ _).alloc (Nat.le_refl _) _, by simp⟩, True.intro⟩
  refine (awake_any _).mono ?_
  rintro e w1 ⟨rfl, hb1⟩
  replace M0 := M0.below hb1
  clear hb1
  have q0 := M0.1
  go_wp2_with fail
  refine (LossA_any ar se sv cp _).mono ?_
  rintro e w2 ⟨rfl, hb2⟩
  generalize hE1 : meanA (lossQ ar se) ar se sv cp = E1
  have H1 := Lib.hid hE1
  clear hE1
  replace M0 := (M0.below hb2).alloc (.cells #[.int .i64 E1.n, .int .i64 E1.d] 23)
  have M1 : Mem [Loc.k2 w2.heap.size (.int .i64 E1.n) (.int .i64 E1.d), Loc.k6 w.heap.size (.int .i64 ar.n) (.int .i64 ar.d) (.int .i64 se.n) (.int .i64 se.d) (.int .i64 sv) (.int .i64 cp), Loc.bl w.heap.size w] _ := ⟨K2.new _ _ _ _, M0⟩
  clear hb2 M0 q0
  have q0 := M1.2.1
  go_wp2_with fail
  refine (answer_any 17 ent_rloss (lossQ ar se) ar se sv cp _ (fun s c W hq => rLoss_any ar se s c W hq)).mono ?_
  rintro e w3 ⟨rfl, hb3⟩
  rw [H1.out]
  replace M1 := (M1.below hb3).alloc (.cells #[.int .i64 E1.n, .int .i64 E1.d] 23)
  have M2 : Mem [Loc.k2 w3.heap.size (.int .i64 E1.n) (.int .i64 E1.d), Loc.k2 w2.heap.size (.int .i64 E1.n) (.int .i64 E1.d), Loc.k6 w.heap.size (.int .i64 ar.n) (.int .i64 ar.d) (.int .i64 se.n) (.int .i64 se.d) (.int .i64 sv) (.int .i64 cp), Loc.bl w.heap.size w] _ := ⟨K2.new _ _ _ _, M1⟩
  clear hb3 M1 q0
  have q0 := M2.2.2.1
  go_wp2_with fail
  refine (NumberA_any ar se sv cp _).mono ?_
  rintro e w4 ⟨rfl, hb4⟩
  generalize hE2 : meanA (numQ ar se) ar se sv cp = E2
  have H2 := Lib.hid hE2
  clear hE2
  replace M2 := (M2.below hb4).alloc (.cells #[.int .i64 E2.n, .int .i64 E2.d] 23)
  have M3 : Mem [Loc.k2 w4.heap.size (.int .i64 E2.n) (.int .i64 E2.d), Loc.k2 w3.heap.size (.int .i64 E1.n) (.int .i64 E1.d), Loc.k2 w2.heap.size (.int .i64 E1.n) (.int .i64 E1.d), Loc.k6 w.heap.size (.int .i64 ar.n) (.int .i64 ar.d) (.int .i64 se.n) (.int .i64 se.d) (.int .i64 sv) (.int .i64 cp), Loc.bl w.heap.size w] _ := ⟨K2.new _ _ _ _, M2⟩
  clear hb4 M2 q0
  have q0 := M3.2.2.2.1
  go_wp2_with fail
  refine (answer_any 19 ent_rnumber (numQ ar se) ar se sv cp _ (fun s c W hq => rNumber_any ar se s c W hq)).mono ?_
  rintro e w5 ⟨rfl, hb5⟩
  rw [H2.out]
  replace M3 := (M3.below hb5).alloc (.cells #[.int .i64 E2.n, .int .i64 E2.d] 23)
  have M4 : Mem [Loc.k2 w5.heap.size (.int .i64 E2.n) (.int .i64 E2.d), Loc.k2 w4.heap.size (.int .i64 E2.n) (.int .i64 E2.d), Loc.k2 w3.heap.size (.int .i64 E1.n) (.int .i64 E1.d), Loc.k2 w2.heap.size (.int .i64 E1.n) (.int .i64 E1.d), Loc.k6 w.heap.size (.int .i64 ar.n) (.int .i64 ar.d) (.int .i64 se.n) (.int .i64 se.d) (.int .i64 sv) (.int .i64 cp), Loc.bl w.heap.size w] _ := ⟨K2.new _ _ _ _, M3⟩
  clear hb5 M3 q0
  have q0 := M4.2.2.2.2.1
  go_wp2_with fail
  refine (WaitA_any ar se sv cp _).mono ?_
  rintro e w6 ⟨rfl, hb6⟩
  generalize hE3 : meanA (waitQ ar se) ar se sv cp = E3
  have H3 := Lib.hid hE3
  clear hE3
  replace M4 := (M4.below hb6).alloc (.cells #[.int .i64 E3.n, .int .i64 E3.d] 23)
  have M5 : Mem [Loc.k2 w6.heap.size (.int .i64 E3.n) (.int .i64 E3.d), Loc.k2 w5.heap.size (.int .i64 E2.n) (.int .i64 E2.d), Loc.k2 w4.heap.size (.int .i64 E2.n) (.int .i64 E2.d), Loc.k2 w3.heap.size (.int .i64 E1.n) (.int .i64 E1.d), Loc.k2 w2.heap.size (.int .i64 E1.n) (.int .i64 E1.d), Loc.k6 w.heap.size (.int .i64 ar.n) (.int .i64 ar.d) (.int .i64 se.n) (.int .i64 se.d) (.int .i64 sv) (.int .i64 cp), Loc.bl w.heap.size w] _ := ⟨K2.new _ _ _ _, M4⟩
  clear hb6 M4 q0
  have q0 := M5.2.2.2.2.2.1
  go_wp2_with fail
  refine (answer_any 21 ent_rwait (waitQ ar se) ar se sv cp _ (fun s c W hq => rWait_any ar se s c W hq)).mono ?_
  rintro e w7 ⟨rfl, hb7⟩
  rw [H3.out]
  replace M5 := M5.below hb7
  have k6 := M5.1
  have k5 := M5.2.1
  have k4 := M5.2.2.1
  have k3 := M5.2.2.2.1
  have k2 := M5.2.2.2.2.1
  have HB := Lib.hid M5.2.2.2.2.2.2.1
  clear hb7 M5 q0
  go_wp2_with fail
  exact HR.out _ _ ⟨rfl, HB.out.1.alloc HB.out.2 _⟩

set_option maxRecDepth 100000 in
theorem queueMeans_lifted (os : Os) (started : os.Started) (H : Type) (enc : TypeId × Value → H) :
    ReturnsInHanded {} Try.checked os 4 .any (Rows.queueMeansSpec.pre6 enc Try.prog Try.f4 Rows.queueMeansRow.domain false) (Rows.queueMeansSpec.post enc Try.prog Try.f4 false true false false) := by
  refine returnsInHanded_of_change (C := Try.checked) own_knob started (by kernel_rfl) Try.func4
    (ChangeSpec.witness6 (enc := enc) (C := Try.checked) false ⟨#[], #[.agg #[.int .i64 0, .int .i64 0, .int .i64 0, .int .i64 0, .int .i64 0, .int .i64 0]], []⟩ 8 (by kernel_rfl) (by kernel_rfl) (by kernel_rfl) (by kernel_rfl)) ?_
  intro W base args ds gs before hval0 hW hcnd _
  have hval : ∀ (j : Nat) t v, Try.f4.params[j]? = some t → args[j]? = some v → Value.okWide Try.prog W .any base t v := hval0
  have hW' := hW
  obtain ⟨p, q, hA0, hV, rfl, hfz, hnd⟩ := hW
  have hA : DataW.TrodAll enc Try.prog W 0 (fun _ => true) true Try.f4.params.toList args.toList ds p := hA0
  rw [Try.params4] at hA hval
  obtain ⟨v0, d0, rfl, rfl, h0⟩ := trodAll_one hA
  obtain ⟨rfl, rfl⟩ := trodVars_none hV
  obtain ⟨ar, se, sv, cp, rfl⟩ := open_queue (hval 0 25 v0 rfl rfl) h0
  simp only [List.append_nil] at hW'
  refine (lawMeans_any ar se sv cp W).mono fun e W' ⟨he, hb⟩ => ?_
  subst he
  exact ⟨_, rfl, law_post (t := 4) hW' (by kernel_rfl) Try.underlying4 ⟨rfl, rfl, rfl⟩ rfl (trodAll_mk1 (Below.trod laid_out (by kernel_rfl) (of_decide_eq_true (by kernel_rfl)) h0 hb (fun x hx => hW'.lt x hx))) hb⟩

theorem queueMeans_holds : Rows.QueueMeansSaid :=
  OpenClaim.holds_of_wide 4 Try.f4 rfl rfl rfl rfl rfl rfl rfl ⟨rfl, rfl, rfl, rfl, rfl⟩ rfl rfl rfl rfl rfl (by kernel_rfl) Try.func4 (by kernel_rfl)
    (of_decide_eq_true (by kernel_rfl)) (by unfold Func.isWrapper; first | (rw [if_pos (by decide +kernel)]; kernel_rfl) | (rw [if_neg (by decide +kernel)]; exact ⟨rfl, rfl⟩))
    (fun os started H enc _ => queueMeans_lifted os started H enc)

#print axioms queueMeans_holds

end Go.Proofs.Ythlgkomhnhkooaa
