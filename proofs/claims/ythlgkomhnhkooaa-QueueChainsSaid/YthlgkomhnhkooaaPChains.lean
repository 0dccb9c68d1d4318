/-
  QueueChains, for every queue: Valid says which queues are valid, and Chain returns the chain of the reference, or the specified errors. Conditions: none.
-/
import Derived.Test.YthlgkomhnhkooaaQLaw1
import Derived.Test.YthlgkomhnhkooaaRow
namespace Go.Proofs.Ythlgkomhnhkooaa
set_option linter.unusedSimpArgs false
set_option linter.unusedVariables false
open Go.ChangeShapes Go.WideShapes Go.ChangeAt Go.RowKit

theorem qok_true {ar se : Fr} {s c : Nat} (hq : QOk ar se s c) : qokB ar se s c = true := by
  simp only [qokB, wiB, Bool.and_eq_true, decide_eq_true_eq, Fr.okB_iff]
  exact ⟨⟨⟨⟨⟨⟨⟨hq.oa, hq.a1⟩, hq.a2⟩, ⟨hq.os, hq.s1⟩, hq.s2⟩, by have := hq.v1; omega⟩, by have := hq.v2; omega⟩, by have := hq.c1; omega⟩, by have := hq.c2; omega⟩
theorem rd_nil2 (w : World) (lo hi : Nat) : RdFF w lo hi (.slice none 0 0) [] := ⟨[], ⟨rfl, none, 0, rfl, Nat.le_refl _, by simp, fun h => by simp at h⟩, rfl, fun i u l h => by simp at h⟩

set_option maxHeartbeats 4000000 in
theorem Chain_any (ar se : Fr) (sv cp : Int) (w : World) :
    Calls Try.prog 25 #[.agg #[.int .i64 ar.n, .int .i64 ar.d, .int .i64 se.n, .int .i64 se.d, .int .i64 sv, .int .i64 cp]] w fun e w' => ∃ v ll x, e = .returned (.tuple #[.agg #[v], .int .i64 x]) ∧ Below w.heap.size w w' ∧ RdFF w' w.heap.size w'.heap.size v ll ∧
      ((qokB ar se sv cp = false ∧ ll = [] ∧ x = 1) ∨ (∃ s c : Nat, sv = s ∧ cp = c ∧ QOk ar se s c ∧ ((x = 0 ∧ chainL ar se s c (c + 1) = some ll) ∨ (x = 6 ∧ ll = [] ∧ chainL ar se s c (c + 1) = none)))) := by
  refine calls_cps fun R hR => ?_
  have HR := Lib.hid hR
  clear hR
  go_enter Try.func25, Try.ntmps25
  go_wp2_with fail
  have M0 : Mem [Loc.k6 w.heap.size (.int .i64 ar.n) (.int .i64 ar.d) (.int .i64 se.n) (.int .i64 se.d) (.int .i64 sv) (.int .i64 cp), Loc.bl w.heap.size w] (w.alloc (.cells #[.int .i64 ar.n, .int .i64 ar.d, .int .i64 se.n, .int .i64 se.d, .int .i64 sv, .int .i64 cp] 25)) := ⟨K6.new w _ _ _ _ _ _ _, ⟨(Below.refl _ _).alloc (Nat.le_refl _) _, by simp⟩, True.intro⟩
  have r0 := K1.new (w.alloc (.cells #[.int .i64 ar.n, .int .i64 ar.d, .int .i64 se.n, .int .i64 se.d, .int .i64 sv, .int .i64 cp] 25)) (.slice none 0 0) 42
  simp only [World.size_alloc] at r0
  have M1 : Mem [Loc.k1 (w.heap.size + 1) (.slice none 0 0), Loc.k6 w.heap.size (.int .i64 ar.n) (.int .i64 ar.d) (.int .i64 se.n) (.int .i64 se.d) (.int .i64 sv) (.int .i64 cp), Loc.bl w.heap.size w] _ := ⟨r0, M0.alloc _⟩
  refine (qvalid_any ar se sv cp _).mono ?_
  rintro e w1 ⟨rfl, hb1⟩
  replace M1 := M1.below hb1
  have hz1 := hb1.size
  simp at hz1
  clear hb1 M0 r0
  cases hv : qokB ar se sv cp with
  | false =>
    have r1 := M1.1
    have HB := Lib.hid M1.2.2.1.1
    have HV := Lib.hid hv
    clear M1 hv
    go_wp2_with fail
    refine ret_B1_tmp (x := .slice none 0 0) (z := .int .i64 1) rfl rfl rfl rfl (K1.set r1 _) (HR.out _ _ ⟨_, [], 1, rfl, ?_, rd_nil2 _ _ _, .inl ⟨HV.out, rfl, rfl⟩⟩)
    have := HB.out
    (repeat (first | exact Below.refl _ _ | assumption | refine Below.setCell ?_ (by first | omega | (simp; done) | (simp; omega)) _ | refine Below.alloc ?_ (by first | omega | (simp; done) | (simp; omega)) _ | refine Below.drew ?_ | refine below_drewN ?_ _))
  | true =>
    obtain ⟨s, c, rfl, rfl, hq⟩ := QOk.of_qokB hv
    clear hv
    have q1 := M1.2.1
    go_wp2_with fail
    have k0 := K1.new w1 (.int .i64 0) 62
    replace M1 := M1.alloc (.cells #[.int .i64 0] 62)
    refine (chain_any ar se s c w1.heap.size _ k0 hq.oa hq.os ⟨hq.v1, hq.v2⟩ ⟨hq.c1, hq.c2⟩).mono ?_
    rintro e w2 ⟨v, bV, ll, b, x, rfl, c2, ho2, rr, rb, hE⟩
    replace M1 := M1.off ho2 (by (repeat' (first | exact True.intro | refine And.intro (fun k hk e => ?_) ?_)) <;> (first | exact e | ((try dsimp only [Loc.c1, Loc.c2, Loc.k1, Loc.k2, Loc.k6, Loc.rdF, Loc.rdFF, Loc.all2, Loc.fr, Loc.bl, Loc.own, Loc.sz] at hk e) <;> omega)))
    have hz2 := ho2.size
    simp at hz2 rr
    have hx : (x = 0 ∧ chainL ar se s c (c + 1) = some ll) ∨ (x = 6 ∧ chainL ar se s c (c + 1) = none) := by
      rw [chainQ_L ar se hq.c1]
      rcases hE.2.2.2.2 with ⟨h1, h2⟩ | ⟨h1, h2⟩
      · exact .inl ⟨h1, by rw [h2]; rfl⟩
      · exact .inr ⟨h1, by rw [h2]; rfl⟩
    obtain ⟨A, cc, rfl, _, _⟩ := rr.form
    have HX := Lib.hid hx
    have HQ := Lib.hid hq
    have RR := Lib.hid rr
    have r1 := M1.1
    have HM := Lib.hid M1
    clear hE hx hq rr rb ho2 k0 q1 M1
    by_cases h0 : x = 0
    · subst h0
      have hs : chainL ar se s c (c + 1) = some ll := by
        rcases HX.out with ⟨_, h⟩ | ⟨h, _⟩
        · exact h
        · cases h
      have HS := Lib.hid hs
      clear hs
      go_wp2_with fail
      refine ret_B1_tmp (x := .slice A ll.length cc) (z := .int .i64 0) rfl rfl rfl rfl (K1.set r1 _) (HR.out _ _ ⟨_, ll, 0, rfl, ?_, ?_, .inr ⟨s, c, rfl, rfl, HQ.out, .inl ⟨rfl, HS.out⟩⟩⟩)
      · have := HM.out.2.2.1.1
        (repeat (first | exact Below.refl _ _ | assumption | refine Below.setCell ?_ (by first | omega | (simp; done) | (simp; omega)) _ | refine Below.alloc ?_ (by first | omega | (simp; done) | (simp; omega)) _ | refine Below.drew ?_ | refine below_drewN ?_ _))
      · refine RdFF.mono (lo := w1.heap.size + 1) (hi := w2.heap.size) ?_ (by omega) (by rw [size_setCell]; exact Nat.le_refl _)
        exact RR.out.off ((Off.refl (w.heap.size + 1) _ w2).setCell (p := ⟨w.heap.size + 1, 0, none⟩) (Or.inr rfl) _) (by omega)
    · have hx6 : x = 6 ∧ chainL ar se s c (c + 1) = none := by
        rcases HX.out with ⟨h, _⟩ | h
        · exact absurd h h0
        · exact h
      obtain ⟨rfl, hno⟩ := hx6
      have HNO := Lib.hid hno
      clear hno h0
      go_wp2_with fail
      go_region
      all_goals
        go_wp2_with fail
        refine ret_B1_tmp (x := .slice none 0 0) (z := .int .i64 6) rfl rfl rfl rfl (K1.set r1 _) (HR.out _ _ ⟨_, [], 6, rfl, ?_, rd_nil2 _ _ _, .inr ⟨s, c, rfl, rfl, HQ.out, .inr ⟨rfl, rfl, HNO.out⟩⟩⟩)
        have := HM.out.2.2.1.1
        (repeat (first | exact Below.refl _ _ | assumption | refine Below.setCell ?_ (by first | omega | (simp; done) | (simp; omega)) _ | refine Below.alloc ?_ (by first | omega | (simp; done) | (simp; omega)) _ | refine Below.drew ?_ | refine below_drewN ?_ _))

set_option maxHeartbeats 400000 in
theorem closure_eq (l : List Fr) (lo hi lo2 hi2 : Nat) (v1 v2 : Value) (w : World) (h1 : RdF w lo hi v1 l) (h2 : RdF w lo2 hi2 v2 l) :
    Calls Try.prog 28 #[v1, v2] w fun e w' => e = .returned (.bool true) ∧ Below w.heap.size w w' := by
  have H1 := Lib.hid h1
  have H2 := Lib.hid h2
  clear h1 h2
  refine calls_cps fun R hR => ?_
  have HR := Lib.hid hR
  clear hR
  go_enter Try.func28, Try.ntmps28
  go_wp2_with fail
  refine (same_eq l _ _ _ _ _ _ _ H1.out H2.out).mono ?_
  rintro e w1 ⟨rfl, hb1⟩
  have HB := Lib.hid hb1
  clear hb1
  go_wp2_with fail
  exact HR.out _ _ ⟨rfl, HB.out⟩
theorem ent_closure : Ent 28 := ent_of Try.func28 (by kernel_rfl) rfl

set_option maxHeartbeats 4000000 in
theorem equalFunc_eq (ll : List (List Fr)) (lo hi lo2 hi2 : Nat) (v1 v2 : Value) (w : World) (h1 : RdFF w lo hi v1 ll) (h2 : RdFF w lo2 hi2 v2 ll) :
    Calls Try.prog 27 #[v1, v2, .func (.func 28) #[] #[]] w fun e w' => e = .returned (.bool true) ∧ Below w.heap.size w w' := by
  have hent := ent_closure
  unfold Ent at hent
  obtain ⟨A1, c1, rfl, hc1, hm1⟩ := h1.form
  obtain ⟨A2, c2, rfl, hc2, hm2⟩ := h2.form
  have M0 : Mem [Loc.rdFF lo hi (.slice A1 ll.length c1) ll, Loc.rdFF lo2 hi2 (.slice A2 ll.length c2) ll, Loc.bl w.heap.size w] w := ⟨h1, h2, ⟨Below.refl _ _, Nat.le_refl _⟩, True.intro⟩
  clear h1 h2
  have HM0 := Lib.hid M0
  clear M0
  refine calls_cps fun R hR => ?_
  have HR := Lib.hid hR
  clear hR
  go_enter Try.func27, Try.ntmps27
  go_wp2
  go_loopw [17] (fun v17 wr => ∃ (k : Nat), k ≤ ll.length ∧ v17 = .int .i64 k ∧ Mem [Loc.rdFF lo hi (.slice A1 ll.length c1) ll, Loc.rdFF lo2 hi2 (.slice A2 ll.length c2) ll, Loc.bl w.heap.size w] wr) (fun v17 _ => ll.length - (intOf v17).toNat)
  case atStart => exact ⟨0, by omega, rfl, HM0.out⟩
  case round =>
    clear HM0
    obtain ⟨k, hk, rfl, M⟩ := hrel
    by_cases hlt : k < ll.length
    · have hkd : decide ((k : Int) < (ll.length : Int)) = true := by simp; omega
      have hkb : (k : Int) < (ll.length : Int) := by omega
      obtain ⟨b1, o1, u1, rfl, _, f1, g1⟩ := RdFF.at_ M.1 (rw_get hlt)
      obtain ⟨b2, o2, u2, rfl, _, f2, g2⟩ := RdFF.at_ M.2.1 (rw_get hlt)
      obtain ⟨B1, d1, rfl, _, _⟩ := g1.form
      obtain ⟨B2, d2, rfl, _, _⟩ := g2.form
      have G1 := Lib.hid g1
      have G2 := Lib.hid g2
      clear g1 g2
      go_wp2_with fail
      refine (closure_eq (rw' ll k) _ _ _ _ _ _ _ G1.out G2.out).mono ?_
      rintro e w1 ⟨rfl, hb1⟩
      have HM := Lib.hid (M.below hb1)
      clear hb1 M f1 f2
      go_wp2_with fail
      go_roundw
      case rel => exact ⟨k + 1, by omega, by go_num, HM.out⟩
      case measure => simp [intOf]; omega
    · have hkd : decide ((k : Int) < (ll.length : Int)) = false := by simp; omega
      have HM := Lib.hid M
      clear M
      go_wp2_with fail
      exact HR.out _ _ ⟨rfl, HM.out.2.2.1.1⟩

set_option maxHeartbeats 8000000 in
theorem lawChains_any (ar se : Fr) (sv cp : Int) (w : World) :
    Calls Try.prog 6 #[.agg #[.int .i64 ar.n, .int .i64 ar.d, .int .i64 se.n, .int .i64 se.d, .int .i64 sv, .int .i64 cp]] w fun e w' => e = .returned (.bool true) ∧ Below w.heap.size w w' := by
  refine calls_cps fun R hR => ?_
  have HR := Lib.hid hR
  clear hR
  obtain ⟨z, hz⟩ : ∃ z, qokB ar se sv cp = z := ⟨_, rfl⟩
  have HZ := Lib.hid hz
  clear hz
  go_enter Try.func6, Try.ntmps6
  go_upto_region 1 with (fail)
  have M0 : Mem [Loc.k6 w.heap.size (.int .i64 ar.n) (.int .i64 ar.d) (.int .i64 se.n) (.int .i64 se.d) (.int .i64 sv) (.int .i64 cp), Loc.bl w.heap.size w] (w.alloc (.cells #[.int .i64 ar.n, .int .i64 ar.d, .int .i64 se.n, .int .i64 se.d, .int .i64 sv, .int .i64 cp] 25)) := ⟨K6.new w _ _ _ _ _ _ _, ⟨(Below.refl _ _).alloc (Nat.le_refl _) _, by simp⟩, True.intro⟩
  go_cut [15] (fun s15 wx => s15 = .bool false ∧ Mem [Loc.k6 w.heap.size (.int .i64 ar.n) (.int .i64 ar.d) (.int .i64 se.n) (.int .i64 se.d) (.int .i64 sv) (.int .i64 cp), Loc.bl w.heap.size w] wx)
  case first =>
    have q0 := M0.1
    go_region_held3 (fun W => K6 W w.heap.size (.int .i64 ar.n) (.int .i64 ar.d) (.int .i64 se.n) (.int .i64 se.d) (.int .i64 sv) (.int .i64 cp)) (exact q0) (first
      | (go_at_call 10; refine (awake_any _).mono ?_; rintro e w1 ⟨rfl, hb1⟩; replace M0 := Mem.below (by first | exact M0 | exact M0.drew) hb1; replace q0 := M0.1; clear hb1)
      | (go_at_call 24; refine (qvalid_any ar se sv cp _).mono ?_; rintro e w1 ⟨rfl, hb1⟩; rw [HZ.out]; replace M0 := Mem.below (by first | exact M0 | exact M0.drew) hb1; replace q0 := M0.1; clear hb1)
      | (go_at_call 12; refine (rqvalid_any ar se sv cp _).mono ?_; rintro e w1 ⟨rfl, hb1⟩; rw [HZ.out]; replace M0 := Mem.below (by first | exact M0 | exact M0.drew) hb1; replace q0 := M0.1; clear hb1))
    all_goals
      go_wp2_with fail
      go_meet
      exact ⟨by first | rfl | simp, M0⟩
  case rest =>
    clear M0
    obtain ⟨rfl, M0⟩ := hcut
    have q0 := M0.1
    go_wp2_with fail
    refine (Chain_any ar se sv cp _).mono ?_
    rintro e w2 ⟨v, ll, x, rfl, hb2, rr, hE⟩
    have HE := Lib.hid hE
    obtain ⟨A, c, rfl, hlc, hlm⟩ := rr.form
    have RR := Lib.hid rr
    replace M0 := (M0.below hb2).alloc (.cells #[.slice A ll.length c] 42)
    have M1 : Mem [Loc.k1 w2.heap.size (.slice A ll.length c), Loc.rdFF wc.heap.size w2.heap.size (.slice A ll.length c) ll, Loc.k6 w.heap.size (.int .i64 ar.n) (.int .i64 ar.d) (.int .i64 se.n) (.int .i64 se.d) (.int .i64 sv) (.int .i64 cp), Loc.bl w.heap.size w] _ := ⟨K1.new _ _ _, RR.out.after ((Below.refl _ _).alloc (Nat.le_refl _) _), M0⟩
    clear hb2 rr hE M0 q0 RR
    have q0 := M1.2.2.1
    go_wp2_with fail
    refine (rqvalid_any ar se sv cp _).mono ?_
    rintro e w3 ⟨rfl, hb3⟩
    rw [HZ.out]
    replace M1 := M1.below hb3
    have p1 := M1.1
    clear hb3 q0
    cases z with
    | false =>
      have hxr : ll = [] ∧ x = 1 := by
        rcases HE.out with ⟨_, h1, h2⟩ | ⟨s, c, rfl, rfl, hq, _⟩
        · exact ⟨h1, h2⟩
        · have : qokB ar se s c = true := qok_true hq
          rw [this] at HZ
          exact absurd HZ.out (by simp)
      obtain ⟨rfl, rfl⟩ := hxr
      have HM := Lib.hid M1
      clear M1
      go_wp2_with fail
      exact HR.out _ _ ⟨rfl, HM.out.2.2.2.1.1⟩
    | true =>
      obtain ⟨s, c0, rfl, rfl, hq⟩ := QOk.of_qokB HZ.out
      have hxr : (x = 0 ∧ chainL ar se s c0 (c0 + 1) = some ll) ∨ (x = 6 ∧ ll = [] ∧ chainL ar se s c0 (c0 + 1) = none) := by
        rcases HE.out with ⟨h, _⟩ | ⟨s', c', hs, hc, _, h⟩
        · rw [h] at HZ; exact absurd HZ.out (by simp)
        · obtain rfl : s = s' := by omega
          obtain rfl : c0 = c' := by omega
          exact h
      have HXR := Lib.hid hxr
      clear hxr
      have q1 := M1.2.2.1
      go_wp2_with fail
      refine (rChain_any ar se s c0 _ hq).mono ?_
      rintro e w4 ⟨v', y, ll', rfl, hb4, rr4, hE4⟩
      obtain ⟨A', c', rfl, _, _⟩ := rr4.form
      replace M1 := (M1.below hb4).alloc (.cells #[.slice A' ll'.length c'] 42)
      have p4 := K1.new w4 (.slice A' ll'.length c') 42
      have RR4 := Lib.hid (rr4.after ((Below.refl _ w4).alloc (Nat.le_refl _) (.cells #[.slice A' ll'.length c'] 42)))
      have p3 := M1.1
      have HM := Lib.hid M1
      clear M1 hb4 q1 rr4 p1
      cases y with
      | false =>
        have hn : chainL ar se s c0 (c0 + 1) = none := by
          rcases hE4 with ⟨h, _⟩ | ⟨_, _, h⟩
          · cases h
          · exact h
        have hx2 : x = 6 ∧ ll = [] := by
          rcases HXR.out with ⟨_, h⟩ | ⟨h1, h2, _⟩
          · rw [hn] at h; cases h
          · exact ⟨h1, h2⟩
        obtain ⟨rfl, rfl⟩ := hx2
        clear hE4 hn
        go_wp2_with fail
        exact HR.out _ _ ⟨rfl, HM.out.2.2.2.1.1⟩
      | true =>
        have hn : chainL ar se s c0 (c0 + 1) = some ll' := by
          rcases hE4 with ⟨_, h⟩ | ⟨h, _⟩
          · exact h
          · cases h
        have hx2 : x = 0 ∧ ll' = ll := by
          rcases HXR.out with ⟨h1, h2⟩ | ⟨_, _, h⟩
          · rw [hn] at h2; injection h2 with h2; exact ⟨h1, h2⟩
          · rw [h] at hn; cases hn
        obtain ⟨rfl, rfl⟩ := hx2
        clear hE4 hn
        go_wp2_with fail
        refine (equalFunc_eq ll' _ _ _ _ _ _ _ HM.out.2.1 RR4.out).mono ?_
        rintro e w5 ⟨rfl, hb5⟩
        have HM5 := Lib.hid (HM.out.below hb5)
        clear hb5
        go_wp2_with fail
        exact HR.out _ _ ⟨rfl, HM5.out.2.2.2.1.1⟩

set_option maxRecDepth 100000 in
theorem queueChains_lifted (os : Os) (started : os.Started) (H : Type) (enc : TypeId × Value → H) :
    ReturnsInHanded {} Try.checked os 6 .any (Rows.queueChainsSpec.pre6 enc Try.prog Try.f6 Rows.queueChainsRow.domain false) (Rows.queueChainsSpec.post enc Try.prog Try.f6 false true false false) := by
  refine returnsInHanded_of_change (C := Try.checked) own_knob started (by kernel_rfl) Try.func6
    (ChangeSpec.witness6 (enc := enc) (C := Try.checked) false ⟨#[], #[.agg #[.int .i64 0, .int .i64 0, .int .i64 0, .int .i64 0, .int .i64 0, .int .i64 0]], []⟩ 8 (by kernel_rfl) (by kernel_rfl) (by kernel_rfl) (by kernel_rfl)) ?_
  intro W base args ds gs before hval0 hW hcnd _
  have hval : ∀ (j : Nat) t v, Try.f6.params[j]? = some t → args[j]? = some v → Value.okWide Try.prog W .any base t v := hval0
  have hW' := hW
  obtain ⟨p, q, hA0, hV, rfl, hfz, hnd⟩ := hW
  have hA : DataW.TrodAll enc Try.prog W 0 (fun _ => true) true Try.f6.params.toList args.toList ds p := hA0
  rw [Try.params6] at hA hval
  obtain ⟨v0, d0, rfl, rfl, h0⟩ := trodAll_one hA
  obtain ⟨rfl, rfl⟩ := trodVars_none hV
  obtain ⟨ar, se, sv, cp, rfl⟩ := open_queue (hval 0 25 v0 rfl rfl) h0
  simp only [List.append_nil] at hW'
  refine (lawChains_any ar se sv cp W).mono fun e W' ⟨he, hb⟩ => ?_
  subst he
  exact ⟨_, rfl, law_post (t := 4) hW' (by kernel_rfl) Try.underlying4 ⟨rfl, rfl, rfl⟩ rfl (trodAll_mk1 (Below.trod laid_out (by kernel_rfl) (of_decide_eq_true (by kernel_rfl)) h0 hb (fun x hx => hW'.lt x hx))) hb⟩

theorem queueChains_holds : Rows.QueueChainsSaid :=
  OpenClaim.holds_of_wide 6 Try.f6 rfl rfl rfl rfl rfl rfl rfl ⟨rfl, rfl, rfl, rfl, rfl⟩ rfl rfl rfl rfl rfl (by kernel_rfl) Try.func6 (by kernel_rfl)
    (of_decide_eq_true (by kernel_rfl)) (by unfold Func.isWrapper; first | (rw [if_pos (by decide +kernel)]; kernel_rfl) | (rw [if_neg (by decide +kernel)]; exact ⟨rfl, rfl⟩))
    (fun os started H enc _ => queueChains_lifted os started H enc)

#print axioms queueChains_holds

end Go.Proofs.Ythlgkomhnhkooaa
