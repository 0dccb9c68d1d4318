/-
  QueueMore, for every queue and fraction: more servers never lose more, and the loss that Servers finds is at most the one that is asked for. Conditions: none.
-/
import Derived.Test.YthlgkomhnhkooaaQMore
import Derived.Test.YthlgkomhnhkooaaQServ
import Derived.Test.YthlgkomhnhkooaaQLaw1
import Derived.Test.YthlgkomhnhkooaaRow
namespace Go.Proofs.Ythlgkomhnhkooaa
set_option linter.unusedSimpArgs false
set_option linter.unusedVariables false
open Go.ChangeShapes Go.WideShapes Go.ChangeAt Go.RowKit

theorem servS_cases {ar se loss : Fr} {cp : Nat} : ∀ (r k : Nat), ((servS ar se cp loss r k).2 ≠ 0 ∧ (servS ar se cp loss r k).1 = 0) ∨ ((servS ar se cp loss r k).2 = 0 ∧ ∃ (k' : Nat) (x : Fr), (servS ar se cp loss r k).1 = k' ∧ k ≤ k' ∧ k' < k + r ∧ lossQ ar se k' cp = some x ∧ cmpN x loss ≤ 0)
  | 0, k => .inl ⟨by show (10 : Int) ≠ 0; decide, rfl⟩
  | r + 1, k => by
    cases h : lossQ ar se k cp with
    | none => rw [servS_none h]; exact .inl ⟨by decide, rfl⟩
    | some x =>
      rw [servS_step h]
      by_cases hc : cmpN x loss ≤ 0
      · rw [if_pos hc]
        exact .inr ⟨rfl, k, x, rfl, Nat.le_refl _, by omega, h, hc⟩
      · rw [if_neg hc]
        rcases servS_cases r (k + 1) with h1 | ⟨h1, k', y, h2, h3, h4, h5⟩
        · exact .inl h1
        · exact .inr ⟨h1, k', y, h2, by omega, by omega, h5⟩
theorem servA_cases (ar se : Fr) (sv cp : Int) (loss : Fr) : ((servA ar se sv cp loss).2 ≠ 0 ∧ (servA ar se sv cp loss).1 = 0) ∨ ((servA ar se sv cp loss).2 = 0 ∧ ∃ x : Fr, meanA (lossQ ar se) ar se (servA ar se sv cp loss).1 cp = ⟨x.n, x.d, 0⟩ ∧ (x.okB && loss.okB) = true ∧ cmpN x loss ≤ 0) := by
  unfold servA
  cases hv : qokB ar se sv cp with
  | false => exact .inl ⟨by show (1 : Int) ≠ 0; decide, rfl⟩
  | true =>
    cases hl : loss.okB with
    | false => exact .inl ⟨by show (1 : Int) ≠ 0; decide, rfl⟩
    | true =>
      obtain ⟨s, c, rfl, rfl, hq⟩ := QOk.of_qokB hv
      simp only [Bool.and_self, if_true, Int.toNat_natCast]
      rcases servS_cases (ar := ar) (se := se) (loss := loss) (cp := c) (min c 8) 1 with h | ⟨h1, k, x, h2, h3, h4, h5, h6⟩
      · exact .inl h
      · right
        refine ⟨h1, x, ?_, ?_, h6⟩
        · have hq' := hq.with (k := k) h3 (by omega) (by omega)
          rw [h2, meanA_ok hq', h5]
          rfl
        · have hq' := hq.with (k := k) h3 (by omega) (by omega)
          rw [Fr.okB_of (lossQ_good hq' h5).1.1]
          rfl
theorem meanA_zero {o : Nat → Nat → Option Fr} {ar se : Fr} {sv cp : Int} (h : (meanA o ar se sv cp).e = 0) : ∃ (s c : Nat) (x : Fr), sv = s ∧ cp = c ∧ QOk ar se s c ∧ o s c = some x ∧ meanA o ar se sv cp = ⟨x.n, x.d, 0⟩ := by
  unfold meanA at h ⊢
  cases hv : qokB ar se sv cp with
  | false => rw [hv] at h; cases h
  | true =>
    obtain ⟨s, c, rfl, rfl, hq⟩ := QOk.of_qokB hv
    rw [hv] at h
    simp only [if_true, Int.toNat_natCast] at h ⊢
    cases ho : o s c with
    | none => rw [ho] at h; cases h
    | some x => exact ⟨s, c, x, rfl, rfl, hq, ho, rfl⟩
theorem more_cases {ar se : Fr} {sv sm cp : Int} (hm : sm = if sv < 8 then sv + 1 else sv) (h1 : (meanA (lossQ ar se) ar se sv cp).e = 0) (h2 : (meanA (lossQ ar se) ar se sm cp).e = 0) :
    ∃ a b : Fr, meanA (lossQ ar se) ar se sv cp = ⟨a.n, a.d, 0⟩ ∧ meanA (lossQ ar se) ar se sm cp = ⟨b.n, b.d, 0⟩ ∧ (b.okB && a.okB) = true ∧ cmpN b a ≤ 0 := by
  obtain ⟨s, c, x, rfl, rfl, hq, ho, he⟩ := meanA_zero h1
  obtain ⟨s', c', x', hs', hc', hq', ho', he'⟩ := meanA_zero h2
  obtain rfl : c = c' := by omega
  have g1 := lossQ_good hq ho
  have g2 := lossQ_good hq' ho'
  refine ⟨x, x', he, he', by rw [Fr.okB_of g1.1.1, Fr.okB_of g2.1.1]; rfl, ?_⟩
  rw [cmpN_le g2.1.1 g1.1.1]
  have hv2 := hq.v2
  by_cases h8 : s < 8
  · rw [if_pos (by omega)] at hm
    obtain rfl : s' = s + 1 := by omega
    exact more_servers hq hq' ho ho'
  · rw [if_neg (by omega)] at hm
    obtain rfl : s = s' := by omega
    rw [ho] at ho'
    injection ho' with ho'
    subst ho'
    exact Rat.le_refl

set_option maxRecDepth 100000 in
set_option maxHeartbeats 8000000 in
theorem lawMore_any (ar se : Fr) (sv cp : Int) (loss : Fr) (w : World) (hsv : -9223372036854775808 ≤ sv) :
    Calls Try.prog 8 #[.agg #[.int .i64 ar.n, .int .i64 ar.d, .int .i64 se.n, .int .i64 se.d, .int .i64 sv, .int .i64 cp], .agg #[.int .i64 (loss).n, .int .i64 (loss).d]] w fun e w' => e = .returned (.bool true) ∧ Below w.heap.size w w' := by
  refine calls_cps fun R hR => ?_
  have HR := Lib.hid hR
  clear hR
  go_enter Try.func8, Try.ntmps8
  go_wp2_with fail
  have q0 := K6.alloc (K6.new w (.int .i64 ar.n) (.int .i64 ar.d) (.int .i64 se.n) (.int .i64 se.d) (.int .i64 sv) (.int .i64 cp) 25) (.cells #[.int .i64 loss.n, .int .i64 loss.d] 23)
  have l0 := K2.new (w.alloc (.cells #[.int .i64 ar.n, .int .i64 ar.d, .int .i64 se.n, .int .i64 se.d, .int .i64 sv, .int .i64 cp] 25)) (.int .i64 loss.n) (.int .i64 loss.d) 23
  simp only [World.size_alloc] at l0
  have M0 : Mem [Loc.k2 (w.heap.size + 1) (.int .i64 loss.n) (.int .i64 loss.d), Loc.k6 w.heap.size (.int .i64 ar.n) (.int .i64 ar.d) (.int .i64 se.n) (.int .i64 se.d) (.int .i64 sv) (.int .i64 cp), Loc.bl w.heap.size w] _ := ⟨l0, q0, ⟨((Below.refl _ w).alloc (Nat.le_refl _) (.cells #[.int .i64 ar.n, .int .i64 ar.d, .int .i64 se.n, .int .i64 se.d, .int .i64 sv, .int .i64 cp] 25)).alloc (by simp) _, by simp; omega⟩, True.intro⟩
  refine (awake_any _).mono ?_
  rintro e w1 ⟨rfl, hb1⟩
  have hz1 := hb1.size
  simp at hz1
  replace M0 := M0.below hb1
  clear hb1 l0 q0
  have q0 := M0.2.1
  go_wp2_with fail
  refine (LossA_any ar se sv cp _).mono ?_
  rintro e w2 ⟨rfl, hb2⟩
  have hz2 := hb2.size
  obtain ⟨sm, hsm⟩ : ∃ sm : Int, sm = if sv < 8 then sv + 1 else sv := ⟨_, rfl⟩
  have HMC := Lib.hid (more_cases (ar := ar) (se := se) (cp := cp) hsm)
  generalize hE1 : meanA (lossQ ar se) ar se sv cp = E1 at *
  have H1 := Lib.hid hE1
  generalize hE2 : meanA (lossQ ar se) ar se sm cp = E2 at *
  have H2 := Lib.hid hE2
  have HSM := Lib.hid hsm
  clear hE1 hE2 hsm
  replace M0 := (M0.below hb2).alloc (.cells #[.int .i64 E1.n, .int .i64 E1.d] 23)
  have M1 : Mem [Loc.k2 w2.heap.size (.int .i64 E1.n) (.int .i64 E1.d), Loc.k2 (w.heap.size + 1) (.int .i64 loss.n) (.int .i64 loss.d), Loc.k6 w.heap.size (.int .i64 ar.n) (.int .i64 ar.d) (.int .i64 se.n) (.int .i64 se.d) (.int .i64 sv) (.int .i64 cp), Loc.bl w.heap.size w] _ := ⟨K2.new _ _ _ _, M0⟩
  clear hb2 M0 q0
  have q0 := M1.2.2.1
  have lt1 : w.heap.size < w2.heap.size + 1 := by omega
  have lt2 : w.heap.size ≤ w2.heap.size := by omega
  have lt3 : w.heap.size < w2.heap.size + 1 + 1 := by omega
  go_upto_if 28 with (fail)
  have m0 := K6w.new (w2.alloc (.cells #[.int .i64 E1.n, .int .i64 E1.d] 23)) (.int .i64 ar.n) (.int .i64 ar.d) (.int .i64 se.n) (.int .i64 se.d) (.int .i64 sv) (.int .i64 cp) 25
  simp only [World.size_alloc] at m0
  replace M1 := M1.alloc (.cells #[.int .i64 ar.n, .int .i64 ar.d, .int .i64 se.n, .int .i64 se.d, .int .i64 sv, .int .i64 cp] 25)
  generalize (w2.alloc (.cells #[.int .i64 E1.n, .int .i64 E1.d] 23)).alloc (.cells #[.int .i64 ar.n, .int .i64 ar.d, .int .i64 se.n, .int .i64 se.d, .int .i64 sv, .int .i64 cp] 25) = V at *
  go_cut [31] (fun _ wx => K6w wx (w2.heap.size + 1) (.int .i64 ar.n) (.int .i64 ar.d) (.int .i64 se.n) (.int .i64 se.d) (.int .i64 sm) (.int .i64 cp) ∧ Mem [Loc.k2 w2.heap.size (.int .i64 E1.n) (.int .i64 E1.d), Loc.k2 (w.heap.size + 1) (.int .i64 loss.n) (.int .i64 loss.d), Loc.k6 w.heap.size (.int .i64 ar.n) (.int .i64 ar.d) (.int .i64 se.n) (.int .i64 se.d) (.int .i64 sv) (.int .i64 cp), Loc.bl w.heap.size w] wx)
  case first =>
    by_cases h8 : sv < 8
    · have hs : sm = sv + 1 := by rw [HSM.out, if_pos h8]
      subst hs
      have HQ := Lib.hid (K6w.set m0 (.int .i64 (sv + 1)))
      have HM := Lib.hid (M1.set (g := w2.heap.size + 1) (i := 4) (u := .int .i64 (sv + 1)) (by (repeat' (first | exact True.intro | refine And.intro (fun k hk e => ?_) ?_)) <;> (first | exact e | ((try dsimp only [Loc.c1, Loc.c2, Loc.k1, Loc.k2, Loc.k6, Loc.rdF, Loc.rdFF, Loc.all2, Loc.fr, Loc.bl, Loc.own, Loc.sz] at hk e) <;> omega))))
      clear M1
      go_wp2_with fail
      go_meet
      exact ⟨HQ.out, HM.out⟩
    · have hs : sm = sv := by rw [HSM.out, if_neg h8]
      subst hs
      go_wp2_with fail
      go_meet
      exact ⟨m0, M1⟩
  case rest =>
    clear M1 m0 q0
    obtain ⟨m1, M1⟩ := hcut
    go_wp2_with fail
    refine (LossA_any ar se sm cp _).mono ?_
    rintro e w3 ⟨rfl, hb3⟩
    rw [H2.out]
    replace M1 := (M1.below hb3).alloc (.cells #[.int .i64 E2.n, .int .i64 E2.d] 23)
    replace m1 := K6w.alloc (K6w.aft hb3 m1) (.cells #[.int .i64 E2.n, .int .i64 E2.d] 23)
    have b1 := K2.new w3 (.int .i64 E2.n) (.int .i64 E2.d) 23
    clear hb3
    obtain ⟨z, hz⟩ : ∃ z, ((E1.e == 0) && (E2.e == 0)) = z := ⟨_, rfl⟩
    have HZ := Lib.hid hz
    clear hz
    go_upto_region 8 with (fail)
    generalize hW : w3.alloc (.cells #[.int .i64 E2.n, .int .i64 E2.d] 23) = W at *
    clear hW
    go_cut [43] (fun s43 wx => s43 = .bool z ∧ W = wx)
    case first =>
      cases h1 : (E1.e == 0) <;> cases h2 : (E2.e == 0)
      all_goals
        have HH : Hid (z = _) := Lib.hid (by rw [← HZ.out, h1, h2])
        go_wp2_with fail
        go_meet
        exact ⟨congrArg Value.bool HH.out.symm, rfl⟩
    case rest =>
      obtain ⟨rfl, rfl⟩ := hcut
      go_upto_if 43 with (fail)
      go_cut [55] (fun _ wx => K6w wx (w2.heap.size + 1) (.int .i64 ar.n) (.int .i64 ar.d) (.int .i64 se.n) (.int .i64 se.d) (.int .i64 sm) (.int .i64 cp) ∧ Mem [Loc.k2 w2.heap.size (.int .i64 E1.n) (.int .i64 E1.d), Loc.k2 (w.heap.size + 1) (.int .i64 loss.n) (.int .i64 loss.d), Loc.k6 w.heap.size (.int .i64 ar.n) (.int .i64 ar.d) (.int .i64 se.n) (.int .i64 se.d) (.int .i64 sv) (.int .i64 cp), Loc.bl w.heap.size w] wx)
      case first =>
        cases z with
        | false =>
          go_wp2_with fail
          go_meet
          exact ⟨m1, M1⟩
        | true =>
          have hzz : E1.e = 0 ∧ E2.e = 0 := by have := HZ.out; simpa using this
          obtain ⟨a, b, h1, h2, h3, h4⟩ := HMC.out hzz.1 hzz.2
          have HA := Lib.hid h3
          subst h1 h2
          have a1 := M1.1
          clear h3 hzz HMC HZ
          go_wp2_with fail
          refine (cmp_any b a _).mono ?_
          rintro e w5 ⟨rfl, hb5⟩
          rw [if_pos HA.out, if_pos HA.out]
          have HM5 := Lib.hid (M1.below hb5)
          have HQ5 := Lib.hid (K6w.aft hb5 m1)
          generalize cmpN b a = cm at *
          clear hb5 M1 m1 a1 b1
          go_wp2_with fail
          go_meet
          exact ⟨HQ5.out, HM5.out⟩
      case rest =>
        clear M1 m1 b1
        obtain ⟨m1, M1⟩ := hcut
        have q1 := M1.2.2.1
        have l1 := M1.2.1
        go_wp2_with fail
        refine (Servers_any ar se sv cp loss _).mono ?_
        rintro e w6 ⟨rfl, hb6⟩
        have HSC := Lib.hid (servA_cases ar se sv cp loss)
        generalize servA ar se sv cp loss = S at *
        obtain ⟨S1, S2⟩ := S
        replace M1 := M1.below hb6
        replace m1 := K6w.aft hb6 m1
        clear hb6 q1 l1
        rcases HSC.out with ⟨h1, h2⟩ | ⟨h1, x, h2, h3, h4⟩
        · simp only at h1 h2
          have hd : (S2 != 0) = true := by simpa using h1
          subst h2
          have HM := Lib.hid M1
          clear M1 HSC h1
          go_wp2_with fail
          exact HR.out _ _ ⟨rfl, HM.out.2.2.2.1.1⟩
        · simp only at h1 h2
          subst h1
          have HX := Lib.hid h2
          have HO := Lib.hid h3
          clear h2 h3 HSC
          have m2 := K6w.set m1 (.int .i64 S1)
          have M2 := M1.set (g := w2.heap.size + 1) (i := 4) (u := .int .i64 S1) (by (repeat' (first | exact True.intro | refine And.intro (fun k hk e => ?_) ?_)) <;> (first | exact e | ((try dsimp only [Loc.c1, Loc.c2, Loc.k1, Loc.k2, Loc.k6, Loc.rdF, Loc.rdFF, Loc.all2, Loc.fr, Loc.bl, Loc.own, Loc.sz] at hk e) <;> omega)))
          clear M1
          go_wp2_with fail
          refine (LossA_any ar se S1 cp _).mono ?_
          rintro e w7 ⟨rfl, hb7⟩
          rw [HX.out]
          replace M2 := (M2.below hb7).alloc (.cells #[.int .i64 x.n, .int .i64 x.d] 23)
          have x1 := K2.new w7 (.int .i64 x.n) (.int .i64 x.d) 23
          have l1 := M2.2.1
          clear hb7 m1 m2
          go_wp2_with fail
          refine (cmp_any x loss _).mono ?_
          rintro e w8 ⟨rfl, hb8⟩
          rw [if_pos HO.out, if_pos HO.out]
          have HM := Lib.hid (M2.below hb8)
          generalize cmpN x loss = cm at *
          clear hb8 M2 x1 l1
          go_wp2_with fail
          exact HR.out _ _ ⟨by first | rfl | simp [h4], HM.out.2.2.2.1.1⟩

theorem wf_lo {n : Int} (h : (Lit.int .i64 n).wf = true) : -9223372036854775808 ≤ n := by
  have hx : -9223372036854775808 ≤ n ∧ n ≤ 9223372036854775807 := by simpa [Lit.wf, IntKind.min, IntKind.max, IntKind.signed, IntKind.bits] using h
  exact hx.1
set_option maxRecDepth 100000 in
theorem open_queue_lo {H : Type} {enc : TypeId × Value → H} {w : World} {base b0 : Nat} {r : Reach} {sp : Nat → Bool} {held : Bool} {v : Value} {d : DataW H} {p : List MemPlace} (hv : Value.okWide Try.prog w r b0 25 v) (h : DataW.Trod enc Try.prog w base sp held 25 v d p) : ∃ (ar se : Fr) (sv cp : Int), v = .agg #[.int .i64 ar.n, .int .i64 ar.d, .int .i64 se.n, .int .i64 se.d, .int .i64 sv, .int .i64 cp] ∧ -9223372036854775808 ≤ sv := by
  obtain ⟨cs, rfl, hsz⟩ := okWide_struct Try.underlying25 hv
  obtain ⟨l⟩ := cs
  have hc : Try.prog.cellsOf 25 = 6 := by kernel_rfl
  have hfc : Try.prog.cellsOf 23 = 2 := by kernel_rfl
  have hi : Try.prog.cellsOf 3 = 1 := by kernel_rfl
  obtain ⟨fuel, hf⟩ := h
  obtain ⟨xs, n, _, _, _, hl, hg⟩ := DataW.trod_struct Try.underlying25 hf
  match l, hsz.trans hc, xs, hl with
  | [c0, c1, c2, c3, c4, c5], _, [x0, x1, x2, x3], _ =>
    have g0 := hg 0 _ rfl
    have g1 := hg 1 _ rfl
    have g2 := hg 2 _ rfl
    have g3 := hg 3 _ rfl
    simp [Value.cells, hi, hfc] at g0 g1 g2 g3
    obtain ⟨ar, e0⟩ := frac_cells g0
    obtain ⟨se, e1⟩ := frac_cells g1
    obtain ⟨sv, e2, _, hw⟩ := DataW.trod_int Try.underlying3 g2
    obtain ⟨cp, e3, _⟩ := DataW.trod_int Try.underlying3 g3
    simp at e0 e1 e2 e3
    obtain ⟨rfl, rfl⟩ := e0
    obtain ⟨rfl, rfl⟩ := e1
    subst e2 e3
    exact ⟨ar, se, sv, cp, rfl, wf_lo hw⟩

set_option maxRecDepth 100000 in
theorem queueMore_lifted (os : Os) (started : os.Started) (H : Type) (enc : TypeId × Value → H) :
    ReturnsInHanded {} Try.checked os 8 .any (Rows.queueMoreSpec.pre6 enc Try.prog Try.f8 Rows.queueMoreRow.domain false) (Rows.queueMoreSpec.post enc Try.prog Try.f8 false true false false) := by
  refine returnsInHanded_of_change (C := Try.checked) own_knob started (by kernel_rfl) Try.func8
    (ChangeSpec.witness6 (enc := enc) (C := Try.checked) false ⟨#[], #[.agg #[.int .i64 0, .int .i64 0, .int .i64 0, .int .i64 0, .int .i64 0, .int .i64 0], .agg #[.int .i64 0, .int .i64 0]], []⟩ 8 (by kernel_rfl) (by kernel_rfl) (by kernel_rfl) (by kernel_rfl)) ?_
  intro W base args ds gs before hval0 hW hcnd _
  have hval : ∀ (j : Nat) t v, Try.f8.params[j]? = some t → args[j]? = some v → Value.okWide Try.prog W .any base t v := hval0
  have hW' := hW
  obtain ⟨p, q, hA0, hV, rfl, hfz, hnd⟩ := hW
  have hA : DataW.TrodAll enc Try.prog W 0 (fun _ => true) true Try.f8.params.toList args.toList ds p := hA0
  rw [Try.params8] at hA hval
  obtain ⟨v0, v1, d0, d1, p0, p1, rfl, rfl, rfl, h0, h1⟩ := trodAll_two hA
  obtain ⟨rfl, rfl⟩ := trodVars_none hV
  obtain ⟨ar, se, sv, cp, rfl, hlo⟩ := open_queue_lo (hval 0 25 v0 rfl rfl) h0
  obtain ⟨loss, rfl⟩ := open_frac (hval 1 23 v1 rfl rfl) h1
  simp only [List.append_nil] at hW'
  refine (lawMore_any ar se sv cp loss W hlo).mono fun e W' ⟨he, hb⟩ => ?_
  subst he
  exact ⟨_, rfl, law_post (t := 4) hW' (by kernel_rfl) Try.underlying4 ⟨rfl, rfl, rfl⟩ rfl (trodAll_mk2 (Below.trod laid_out (by kernel_rfl) (of_decide_eq_true (by kernel_rfl)) h0 hb (fun x hx => hW'.lt x (List.mem_append_left _ hx))) (Below.trod laid_out (by kernel_rfl) (of_decide_eq_true (by kernel_rfl)) h1 hb (fun x hx => hW'.lt x (List.mem_append_right _ hx)))) hb⟩

theorem queueMore_holds : Rows.QueueMoreSaid :=
  OpenClaim.holds_of_wide 8 Try.f8 rfl rfl rfl rfl rfl rfl rfl ⟨rfl, rfl, rfl, rfl, rfl⟩ rfl rfl rfl rfl rfl (by kernel_rfl) Try.func8 (by kernel_rfl)
    (of_decide_eq_true (by kernel_rfl)) (by unfold Func.isWrapper; first | (rw [if_pos (by decide +kernel)]; kernel_rfl) | (rw [if_neg (by decide +kernel)]; exact ⟨rfl, rfl⟩))
    (fun os started H enc _ => queueMore_lifted os started H enc)

#print axioms queueMore_holds

end Go.Proofs.Ythlgkomhnhkooaa
