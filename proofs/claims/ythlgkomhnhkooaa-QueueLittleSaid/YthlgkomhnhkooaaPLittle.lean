/-
  QueueLittle, for every queue: the number is the product of the wait and of the mean number of customers that enter in a step, as far as everything fits. Conditions: none.
-/
import Derived.Test.YthlgkomhnhkooaaQueue13
import Derived.Test.YthlgkomhnhkooaaQLaw1
import Derived.Test.YthlgkomhnhkooaaRow
namespace Go.Proofs.Ythlgkomhnhkooaa
set_option linter.unusedSimpArgs false
set_option linter.unusedVariables false
open Go.ChangeShapes Go.WideShapes Go.ChangeAt Go.RowKit

theorem mkF_cross {a b a' b' : Int} (hb : 0 < b) (hb' : 0 < b') (h : a * b' = a' * b) : mkF a b = mkF a' b' := by
  rw [← mkF_scale b' a b hb', ← mkF_scale b a' b' hb, Int.mul_comm b' a, h, Int.mul_comm a' b, Int.mul_comm b' b]
theorem fmul_fdiv {n en c : Fr} (hn : n.ok) (hen : en.ok) (hp : 0 < en.n) (h : fdiv n en = some c) : fmul en c = some n := by
  have hd := d_pos hn
  have hd2 := d_pos hen
  obtain ⟨h1, h2⟩ := mkF_val (Int.mul_pos hd hp) h
  rw [← mkF_of_ok hn]
  refine mkF_cross (Int.mul_pos hd2 h1) hd ?_
  grind
theorem little_cases (ar se : Fr) (sv cp : Int) :
    (∃ e, e ≠ 0 ∧ meanA (waitQ ar se) ar se sv cp = ⟨0, 0, e⟩) ∨ (∃ lo n c s en : Fr, meanA (lossQ ar se) ar se sv cp = ⟨lo.n, lo.d, 0⟩ ∧ meanA (numQ ar se) ar se sv cp = ⟨n.n, n.d, 0⟩ ∧ meanA (waitQ ar se) ar se sv cp = ⟨c.n, c.d, 0⟩ ∧
      subE oneF lo = ⟨s.n, s.d, 0⟩ ∧ mulE ar s = ⟨en.n, en.d, 0⟩ ∧ mulE en c = ⟨n.n, n.d, 0⟩) := by
  unfold meanA
  cases hv : qokB ar se sv cp with
  | false => exact .inl ⟨1, by decide, rfl⟩
  | true =>
    obtain ⟨s, c, rfl, rfl, hq⟩ := QOk.of_qokB hv
    simp only [if_true, Int.toNat_natCast]
    cases hw : waitQ ar se s c with
    | none => exact .inl ⟨6, by decide, rfl⟩
    | some x =>
      right
      obtain ⟨en, e1, hw⟩ := some_bind hw
      obtain ⟨n, e2, hw⟩ := some_bind hw
      have hen := enterQ_good hq e1
      obtain ⟨lo, e3, e1⟩ := some_bind e1
      obtain ⟨y, e4, e1⟩ := some_bind e1
      have hl := lossQ_good hq e3
      have hn := numQ_nn hq e2
      have hy := fsub_ok oneF_ok hl.1.1 e4
      have hx := fdiv_ok hn.1 hen.1 (by omega) hw
      rw [e2, e3]
      exact ⟨lo, n, x, y, en, rfl, rfl, rfl, by rw [subE_ok oneF_ok hl.1.1, e4]; rfl, by rw [mulE_ok hq.oa hy, e1]; rfl, by rw [mulE_ok hen.1 hx, fmul_fdiv hn.1 hen.1 hen.2 hw]; rfl⟩

set_option maxHeartbeats 4000000 in
theorem lawLittle_any (ar se : Fr) (sv cp : Int) (w : World) :
    Calls Try.prog 5 #[.agg #[.int .i64 ar.n, .int .i64 ar.d, .int .i64 se.n, .int .i64 se.d, .int .i64 sv, .int .i64 cp]] w fun e w' => e = .returned (.bool true) ∧ Below w.heap.size w w' := by
  refine calls_cps fun R hR => ?_
  have HR := Lib.hid hR
  clear hR
  go_enter Try.func5, Try.ntmps5
  go_wp2_with fail
  have M0 : Mem [Loc.k6 w.heap.size (.int .i64 ar.n) (.int .i64 ar.d) (.int .i64 se.n) (.int .i64 se.d) (.int .i64 sv) (.int .i64 cp), Loc.bl w.heap.size w] (w.alloc (.cells #[.int .i64 ar.n, .int .i64 ar.d, .int .i64 se.n, .int .i64 se.d, .int .i64 sv, .int .i64 cp] 25)) := ⟨K6.new w _ _ _ _ _ _ _, ⟨(Below.refl _ _).alloc (Nat.le_refl _) _, by simp⟩, True.intro⟩
  refine (awake_any _).mono ?_
  rintro e w1 ⟨rfl, hb1⟩
  replace M0 := M0.below hb1
  clear hb1
  have q0 := M0.1
  have HC := Lib.hid (little_cases ar se sv cp)
  obtain ⟨E1, hE1⟩ : ∃ E, meanA (lossQ ar se) ar se sv cp = E := ⟨_, rfl⟩
  obtain ⟨E2, hE2⟩ : ∃ E, meanA (numQ ar se) ar se sv cp = E := ⟨_, rfl⟩
  obtain ⟨E3, hE3⟩ : ∃ E, meanA (waitQ ar se) ar se sv cp = E := ⟨_, rfl⟩
  rw [hE1, hE2, hE3] at HC
  have H1 := Lib.hid hE1
  have H2 := Lib.hid hE2
  have H3 := Lib.hid hE3
  clear hE1 hE2 hE3
  go_wp2_with fail
  refine (LossA_any ar se sv cp _).mono ?_
  rintro e w2 ⟨rfl, hb2⟩
  rw [H1.out]
  replace M0 := (M0.below hb2).alloc (.cells #[.int .i64 E1.n, .int .i64 E1.d] 23)
  have M1 : Mem [Loc.k2 w2.heap.size (.int .i64 E1.n) (.int .i64 E1.d), Loc.k6 w.heap.size (.int .i64 ar.n) (.int .i64 ar.d) (.int .i64 se.n) (.int .i64 se.d) (.int .i64 sv) (.int .i64 cp), Loc.bl w.heap.size w] _ := ⟨K2.new _ _ _ _, M0⟩
  clear hb2 M0 q0
  have q0 := M1.2.1
  go_wp2_with fail
  refine (NumberA_any ar se sv cp _).mono ?_
  rintro e w3 ⟨rfl, hb3⟩
  rw [H2.out]
  replace M1 := (M1.below hb3).alloc (.cells #[.int .i64 E2.n, .int .i64 E2.d] 23)
  have M2 : Mem [Loc.k2 w3.heap.size (.int .i64 E2.n) (.int .i64 E2.d), Loc.k2 w2.heap.size (.int .i64 E1.n) (.int .i64 E1.d), Loc.k6 w.heap.size (.int .i64 ar.n) (.int .i64 ar.d) (.int .i64 se.n) (.int .i64 se.d) (.int .i64 sv) (.int .i64 cp), Loc.bl w.heap.size w] _ := ⟨K2.new _ _ _ _, M1⟩
  clear hb3 M1 q0
  have q0 := M2.2.2.1
  go_wp2_with fail
  refine (WaitA_any ar se sv cp _).mono ?_
  rintro e w4 ⟨rfl, hb4⟩
  rw [H3.out]
  replace M2 := M2.below hb4
  clear hb4 q0
  have HM := Lib.hid M2
  clear M2
  rcases HC.out with ⟨e3, he3, rfl⟩ | ⟨lo, n, c, s, en, rfl, rfl, rfl, h1, h2, h3⟩
  · have hd3 : (e3 != 0) = true := by simpa using he3
    clear he3 HC
    have hfin : R (.returned (.bool true)) (w4.alloc (.cells #[.int .i64 0, .int .i64 0] 23)) := HR.out _ _ ⟨rfl, HM.out.2.2.2.1.1.alloc HM.out.2.2.2.1.2 _⟩
    have HFIN := Lib.hid hfin
    clear hfin
    cases hd1 : (E1.e != 0) <;> cases hd2 : (E2.e != 0)
    all_goals
      go_wp2_with fail
      exact HFIN.out
  · have HS := Lib.hid h1
    have HE := Lib.hid h2
    have HX := Lib.hid h3
    clear h1 h2 h3 HC
    have M3 : Mem [Loc.k2 w4.heap.size (.int .i64 c.n) (.int .i64 c.d), Loc.k2 w3.heap.size (.int .i64 n.n) (.int .i64 n.d), Loc.k2 w2.heap.size (.int .i64 lo.n) (.int .i64 lo.d), Loc.k6 w.heap.size (.int .i64 ar.n) (.int .i64 ar.d) (.int .i64 se.n) (.int .i64 se.d) (.int .i64 sv) (.int .i64 cp), Loc.bl w.heap.size w] (w4.alloc (.cells #[.int .i64 c.n, .int .i64 c.d] 23)) := ⟨K2.new _ _ _ _, HM.out.alloc _⟩
    clear HM
    have a1 := M3.2.2.1
    go_wp2_with fail
    refine (sub_any oneF lo _).mono ?_
    rintro e w5 ⟨rfl, hb5⟩
    rw [HS.out]
    replace M3 := (M3.below hb5).alloc (.cells #[.int .i64 s.n, .int .i64 s.d] 23)
    have s1 := K2.new w5 (.int .i64 s.n) (.int .i64 s.d) 23
    clear hb5 a1
    have q1 := M3.2.2.2.1
    go_wp2_with fail
    refine (mul_any ar s _).mono ?_
    rintro e w6 ⟨rfl, hb6⟩
    rw [HE.out]
    replace M3 := (M3.below hb6).alloc (.cells #[.int .i64 en.n, .int .i64 en.d] 23)
    have en1 := K2.new w6 (.int .i64 en.n) (.int .i64 en.d) 23
    clear hb6 s1 q1
    have c1 := M3.1
    go_wp2_with fail
    refine (mul_any en c _).mono ?_
    rintro e w7 ⟨rfl, hb7⟩
    rw [HX.out]
    replace M3 := M3.below hb7
    have n1 := M3.2.1
    have HB := Lib.hid M3.2.2.2.2.1
    clear hb7 en1 c1 M3
    go_wp2_with fail
    exact HR.out _ _ ⟨rfl, HB.out.1.alloc HB.out.2 _⟩

set_option maxRecDepth 100000 in
theorem queueLittle_lifted (os : Os) (started : os.Started) (H : Type) (enc : TypeId × Value → H) :
    ReturnsInHanded {} Try.checked os 5 .any (Rows.queueLittleSpec.pre6 enc Try.prog Try.f5 Rows.queueLittleRow.domain false) (Rows.queueLittleSpec.post enc Try.prog Try.f5 false true false false) := by
  refine returnsInHanded_of_change (C := Try.checked) own_knob started (by kernel_rfl) Try.func5
    (ChangeSpec.witness6 (enc := enc) (C := Try.checked) false ⟨#[], #[.agg #[.int .i64 0, .int .i64 0, .int .i64 0, .int .i64 0, .int .i64 0, .int .i64 0]], []⟩ 8 (by kernel_rfl) (by kernel_rfl) (by kernel_rfl) (by kernel_rfl)) ?_
  intro W base args ds gs before hval0 hW hcnd _
  have hval : ∀ (j : Nat) t v, Try.f5.params[j]? = some t → args[j]? = some v → Value.okWide Try.prog W .any base t v := hval0
  have hW' := hW
  obtain ⟨p, q, hA0, hV, rfl, hfz, hnd⟩ := hW
  have hA : DataW.TrodAll enc Try.prog W 0 (fun _ => true) true Try.f5.params.toList args.toList ds p := hA0
  rw [Try.params5] at hA hval
  obtain ⟨v0, d0, rfl, rfl, h0⟩ := trodAll_one hA
  obtain ⟨rfl, rfl⟩ := trodVars_none hV
  obtain ⟨ar, se, sv, cp, rfl⟩ := open_queue (hval 0 25 v0 rfl rfl) h0
  simp only [List.append_nil] at hW'
  refine (lawLittle_any ar se sv cp W).mono fun e W' ⟨he, hb⟩ => ?_
  subst he
  exact ⟨_, rfl, law_post (t := 4) hW' (by kernel_rfl) Try.underlying4 ⟨rfl, rfl, rfl⟩ rfl (trodAll_mk1 (Below.trod laid_out (by kernel_rfl) (of_decide_eq_true (by kernel_rfl)) h0 hb (fun x hx => hW'.lt x hx))) hb⟩

theorem queueLittle_holds : Rows.QueueLittleSaid :=
  OpenClaim.holds_of_wide 5 Try.f5 rfl rfl rfl rfl rfl rfl rfl ⟨rfl, rfl, rfl, rfl, rfl⟩ rfl rfl rfl rfl rfl (by kernel_rfl) Try.func5 (by kernel_rfl)
    (of_decide_eq_true (by kernel_rfl)) (by unfold Func.isWrapper; first | (rw [if_pos (by decide +kernel)]; kernel_rfl) | (rw [if_neg (by decide +kernel)]; exact ⟨rfl, rfl⟩))
    (fun os started H enc _ => queueLittle_lifted os started H enc)

#print axioms queueLittle_holds

end Go.Proofs.Ythlgkomhnhkooaa
