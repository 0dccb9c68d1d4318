/-
  QueueStationary, for every queue: Stationary returns the probabilities of the reference, or the specified errors. Conditions: none.
-/
import Derived.Test.YthlgkomhnhkooaaQLaw1
import Derived.Test.YthlgkomhnhkooaaRow
namespace Go.Proofs.Ythlgkomhnhkooaa
set_option linter.unusedSimpArgs false
set_option linter.unusedVariables false
open Go.ChangeShapes Go.WideShapes Go.ChangeAt Go.RowKit

set_option maxHeartbeats 2000000 in
theorem lawStationary_any (ar se : Fr) (sv cp : Int) (w : World) :
    Calls Try.prog 3 #[.agg #[.int .i64 ar.n, .int .i64 ar.d, .int .i64 se.n, .int .i64 se.d, .int .i64 sv, .int .i64 cp]] w fun e w' => e = .returned (.bool true) ∧ Below w.heap.size w w' := by
  refine calls_cps fun R hR => ?_
  have HR := Lib.hid hR
  clear hR
  go_enter Try.func3, Try.ntmps3
  go_wp2_with fail
  have M0 : Mem [Loc.k6 w.heap.size (.int .i64 ar.n) (.int .i64 ar.d) (.int .i64 se.n) (.int .i64 se.d) (.int .i64 sv) (.int .i64 cp), Loc.bl w.heap.size w] (w.alloc (.cells #[.int .i64 ar.n, .int .i64 ar.d, .int .i64 se.n, .int .i64 se.d, .int .i64 sv, .int .i64 cp] 25)) := ⟨K6.new w _ _ _ _ _ _ _, ⟨(Below.refl _ _).alloc (Nat.le_refl _) _, by simp⟩, True.intro⟩
  refine (awake_any _).mono ?_
  rintro e w1 ⟨rfl, hb1⟩
  replace M0 := M0.below hb1
  clear hb1
  have q0 := M0.1
  go_wp2_with fail
  refine (Stationary_any ar se sv cp _).mono ?_
  rintro e w2 ⟨v, r, x, rfl, rf, hb2, hE⟩
  replace M0 := M0.below hb2
  replace q0 := M0.1
  obtain ⟨A, c, rfl, hlc, hlm⟩ := rf.form
  have RF := Lib.hid rf
  have HE := Lib.hid hE
  clear hb2 rf hE
  go_wp2_with fail
  refine (rqvalid_any ar se sv cp _).mono ?_
  rintro e w3 ⟨rfl, hb3⟩
  replace M0 := M0.below hb3
  replace q0 := M0.1
  replace RF := Lib.hid (RdG.after RF.out hb3)
  clear hb3
  cases hv : qokB ar se sv cp with
  | false =>
    have hxr : r = [] ∧ x = 1 := by
      rcases HE.out with ⟨_, h1, h2⟩ | ⟨s, c, rfl, rfl, hq, _⟩
      · exact ⟨h1, h2⟩
      · have : qokB ar se s c = true := by
          have := hq
          simp only [qokB, wiB, Bool.and_eq_true, decide_eq_true_eq, Fr.okB_iff]
          exact ⟨⟨⟨⟨⟨⟨⟨hq.oa, hq.a1⟩, hq.a2⟩, ⟨hq.os, hq.s1⟩, hq.s2⟩, by have := hq.v1; omega⟩, by have := hq.v2; omega⟩, by have := hq.c1; omega⟩, by have := hq.c2; omega⟩
        rw [this] at hv
        cases hv
    obtain ⟨rfl, rfl⟩ := hxr
    have HM := Lib.hid M0
    clear M0 hv
    go_wp2_with fail
    exact HR.out _ _ ⟨rfl, HM.out.2.1.1⟩
  | true =>
    obtain ⟨s, c0, rfl, rfl, hq⟩ := QOk.of_qokB hv
    have hxr : (x = 0 ∧ (statQ ar se s c0).map (·.1) = some r) ∨ (x = 6 ∧ r = [] ∧ statQ ar se s c0 = none) := by
      rcases HE.out with ⟨h, _⟩ | ⟨s', c', hs, hc, _, b, x0, r0, hS, hx, hr⟩
      · rw [h] at hv; cases hv
      · obtain rfl : s = s' := by omega
        obtain rfl : c0 = c' := by omega
        rcases hS.2.2.2 with ⟨h1, h2⟩ | ⟨h1, h2⟩
        · left
          subst h1
          rw [if_pos rfl] at hr
          exact ⟨hx, by rw [h2, hr]; rfl⟩
        · right
          subst h1
          rw [if_neg (by decide)] at hr
          exact ⟨hx, hr, h2⟩
    have HXR := Lib.hid hxr
    clear hxr hv
    go_wp2_with fail
    refine (rStationary_any ar se s c0 _ hq).mono ?_
    rintro e w4 ⟨v', y, r', rfl, hb4, rf4, hE4⟩
    replace M0 := M0.below hb4
    replace RF := Lib.hid (RdG.after RF.out hb4)
    have HM := Lib.hid M0
    have HF4 := Lib.hid rf4
    clear M0 hb4 q0 rf4
    cases y with
    | false =>
      have hn : statQ ar se s c0 = none := by
        rcases hE4 with ⟨h, _⟩ | ⟨_, _, h⟩
        · cases h
        · exact h
      have hx2 : x = 6 ∧ r = [] := by
        rcases HXR.out with ⟨_, h⟩ | ⟨h1, h2, _⟩
        · rw [hn] at h; cases h
        · exact ⟨h1, h2⟩
      obtain ⟨rfl, rfl⟩ := hx2
      clear hE4 hn
      go_wp2_with fail
      exact HR.out _ _ ⟨rfl, HM.out.2.1.1⟩
    | true =>
      have hn : (statQ ar se s c0).map (·.1) = some r' := by
        rcases hE4 with ⟨_, _, h⟩ | ⟨h, _⟩
        · exact h
        · cases h
      have hx2 : x = 0 ∧ r' = r := by
        rcases HXR.out with ⟨h1, h2⟩ | ⟨_, _, h⟩
        · rw [hn] at h2; injection h2 with h2; exact ⟨h1, h2⟩
        · rw [h] at hn; cases hn
      obtain ⟨rfl, rfl⟩ := hx2
      clear hE4 hn
      go_wp2_with fail
      refine (same_eq r' _ _ _ _ _ _ _ RF.out HF4.out).mono ?_
      rintro e w5 ⟨rfl, hb5⟩
      have HM5 := Lib.hid (HM.out.below hb5)
      clear hb5
      go_wp2_with fail
      exact HR.out _ _ ⟨rfl, HM5.out.2.1.1⟩

set_option maxRecDepth 100000 in
theorem queueStationary_lifted (os : Os) (started : os.Started) (H : Type) (enc : TypeId × Value → H) :
    ReturnsInHanded {} Try.checked os 3 .any (Rows.queueStationarySpec.pre6 enc Try.prog Try.f3 Rows.queueStationaryRow.domain false) (Rows.queueStationarySpec.post enc Try.prog Try.f3 false true false false) := by
  refine returnsInHanded_of_change (C := Try.checked) own_knob started (by kernel_rfl) Try.func3
    (ChangeSpec.witness6 (enc := enc) (C := Try.checked) false ⟨#[], #[.agg #[.int .i64 0, .int .i64 0, .int .i64 0, .int .i64 0, .int .i64 0, .int .i64 0]], []⟩ 8 (by kernel_rfl) (by kernel_rfl) (by kernel_rfl) (by kernel_rfl)) ?_
  intro W base args ds gs before hval0 hW hcnd _
  have hval : ∀ (j : Nat) t v, Try.f3.params[j]? = some t → args[j]? = some v → Value.okWide Try.prog W .any base t v := hval0
  have hW' := hW
  obtain ⟨p, q, hA0, hV, rfl, hfz, hnd⟩ := hW
  have hA : DataW.TrodAll enc Try.prog W 0 (fun _ => true) true Try.f3.params.toList args.toList ds p := hA0
  rw [Try.params3] at hA hval
  obtain ⟨v0, d0, rfl, rfl, h0⟩ := trodAll_one hA
  obtain ⟨rfl, rfl⟩ := trodVars_none hV
  obtain ⟨ar, se, sv, cp, rfl⟩ := open_queue (hval 0 25 v0 rfl rfl) h0
  simp only [List.append_nil] at hW'
  refine (lawStationary_any ar se sv cp W).mono fun e W' ⟨he, hb⟩ => ?_
  subst he
  exact ⟨_, rfl, law_post (t := 4) hW' (by kernel_rfl) Try.underlying4 ⟨rfl, rfl, rfl⟩ rfl (trodAll_mk1 (Below.trod laid_out (by kernel_rfl) (of_decide_eq_true (by kernel_rfl)) h0 hb (fun x hx => hW'.lt x hx))) hb⟩

theorem queueStationary_holds : Rows.QueueStationarySaid :=
  OpenClaim.holds_of_wide 3 Try.f3 rfl rfl rfl rfl rfl rfl rfl ⟨rfl, rfl, rfl, rfl, rfl⟩ rfl rfl rfl rfl rfl (by kernel_rfl) Try.func3 (by kernel_rfl)
    (of_decide_eq_true (by kernel_rfl)) (by unfold Func.isWrapper; first | (rw [if_pos (by decide +kernel)]; kernel_rfl) | (rw [if_neg (by decide +kernel)]; exact ⟨rfl, rfl⟩))
    (fun os started H enc _ => queueStationary_lifted os started H enc)

#print axioms queueStationary_holds

end Go.Proofs.Ythlgkomhnhkooaa
