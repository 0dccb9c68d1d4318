/-
  petri.Workflow reports whether a net is a workflow net. Conditions: none.
-/
import Derived.Test.YtmhbfoaecebobaaWf
namespace Go.Proofs.Ytmhbfoaecebobaa
set_option linter.unusedSimpArgs false
set_option linter.unusedVariables false
open Go.RowKit

def Good (n : Net) (back : Bool) : Prop := (∀ p : Nat, p < n.places.toNat → Rch n back (endOf n back) p) ∧ ∀ i, i < n.trans.length → RchT n back (endOf n back) i
theorem RF.good {n : Net} {back : Bool} {pl tl : List Bool} (h : RF n back (endOf n back) pl tl) : Good n back ↔ (false ∉ pl ∧ false ∉ tl) := by
  constructor
  · rintro ⟨h1, h2⟩
    refine ⟨any_true fun i hi => ?_, any_true fun i hi => ?_⟩
    · rw [h.lenp] at hi; exact (h.p i hi).2 (h1 i hi)
    · rw [h.lent] at hi; exact (h.t i hi).2 (h2 i hi)
  · rintro ⟨h1, h2⟩
    exact ⟨fun p hp => (h.p p hp).1 (any_false h1 (by rw [h.lenp]; exact hp)), fun i hi => (h.t i hi).1 (any_false h2 (by rw [h.lent]; exact hi))⟩
theorem wf_iff {n : Net} : Wf n ↔ validB n = true ∧ n.source ≠ n.sink ∧ (∀ i, i < n.trans.length → n.source ∉ (gti n.trans i).out ∧ n.sink ∉ (gti n.trans i).inn) ∧ Good n false ∧ Good n true := by
  constructor
  · intro h
    exact ⟨h.valid, h.ne, h.no, ⟨h.places false, h.trans false⟩, ⟨h.places true, h.trans true⟩⟩
  · rintro ⟨h1, h2, h3, h4, h5⟩
    exact ⟨h1, h2, h3, fun b => by cases b; exact h4.1; exact h5.1, fun b => by cases b; exact h4.2; exact h5.2⟩
theorem valid_is' {n : Net} {b : Bool} (hb : validB n = b) (vt : Value) (lo hi : Nat) (w : World) (hv : RdT w lo hi vt n.trans) :
    Calls Try.prog 54 #[netV n vt] w fun e w' => e = .returned (.bool b) ∧ Below w.heap.size w w' := hb ▸ valid_any n vt lo hi w hv
theorem containsO_is {x : Bool} {l : List Bool} {z : Bool} (hz : decide (x ∈ l) = z) (lo hi : Nat) (v : Value) (w : World) (hv : RdO w lo hi v l) :
    Calls Try.prog 68 #[v, .bool x] w fun e w' => e = .returned (.bool z) ∧ Below w.heap.size w w' := hz ▸ containsO_any x l lo hi v w hv
theorem containsI_is {x : Int} {l : List Int} {z : Bool} (hz : decide (x ∈ l) = z) (lo hi : Nat) (v : Value) (w : World) (hv : RdI w lo hi v l) :
    Calls Try.prog 66 #[v, .int .i64 x] w fun e w' => e = .returned (.bool z) ∧ Below w.heap.size w w' := hz ▸ containsI_any x l lo hi v w hv
set_option maxRecDepth 100000 in
set_option maxHeartbeats 4000000 in
theorem workflow_any (n : Net) (vt : Value) (lo hi : Nat) (w : World) (hv : RdT w lo hi vt n.trans) :
    Calls Try.prog 27 #[netV n vt] w fun e w' => e = .returned (.bool (wfB n)) ∧ Below w.heap.size w w' := by
  obtain ⟨A, c, rfl, hc, hmm⟩ := hv.form
  have HV := Lib.hid hv
  clear hv
  cases hvb : validB n with
  | false =>
    have HW : Hid (wfB n = false) := Lib.hid (wfB_false (fun h => by rw [h.valid] at hvb; cases hvb))
    have HVB := Lib.hid hvb
    clear hvb
    refine calls_cps fun R hR => ?_
    have HR := Lib.hid hR
    clear hR
    go_enter Try.func27, Try.ntmps27
    have M : Hid (Mem [Loc.k4 w.heap.size (.int .i64 n.places) (.slice A n.trans.length c) (.int .i64 n.source) (.int .i64 n.sink), Loc.bl w.heap.size w] (w.alloc (.cells #[.int .i64 n.places, .slice A n.trans.length c, .int .i64 n.source, .int .i64 n.sink] 24))) := Lib.hid ⟨K4.new w _ _ _ _ _, ⟨(Below.refl _ _).alloc (Nat.le_refl _) _, by simp⟩, True.intro⟩
    have hk4 := M.out.1
    go_wp2_with (go_at_call 54; refine (valid_is' HVB.out _ lo hi _ (HV.out.after M.out.2.1.1)).mono ?_; rintro e w1 ⟨rfl, hb1⟩; replace M := Lib.hid (M.out.below hb1); clear hb1; replace hk4 := M.out.1)
    all_goals exact HR.out _ _ ⟨by rw [HW.out]; rfl, M.out.2.1.1⟩
  | true =>
    have HVB := Lib.hid hvb
    have hss := validB_ends hvb
    have HIF := Lib.hid (wf_iff (n := n))
    clear hvb
    by_cases hne : n.source = n.sink
    · have HW : Hid (wfB n = false) := Lib.hid (wfB_false (fun h => h.ne hne))
      have hnb : (n.source == n.sink) = true := by simpa using hne
      clear hne
      refine calls_cps fun R hR => ?_
      have HR := Lib.hid hR
      clear hR
      go_enter Try.func27, Try.ntmps27
      have M : Hid (Mem [Loc.k4 w.heap.size (.int .i64 n.places) (.slice A n.trans.length c) (.int .i64 n.source) (.int .i64 n.sink), Loc.bl w.heap.size w] (w.alloc (.cells #[.int .i64 n.places, .slice A n.trans.length c, .int .i64 n.source, .int .i64 n.sink] 24))) := Lib.hid ⟨K4.new w _ _ _ _ _, ⟨(Below.refl _ _).alloc (Nat.le_refl _) _, by simp⟩, True.intro⟩
      have hk4 := M.out.1
      go_wp2_with (go_at_call 54; refine (valid_is' HVB.out _ lo hi _ (HV.out.after M.out.2.1.1)).mono ?_; rintro e w1 ⟨rfl, hb1⟩; replace M := Lib.hid (M.out.below hb1); clear hb1; replace hk4 := M.out.1)
      all_goals exact HR.out _ _ ⟨by rw [HW.out]; rfl, M.out.2.1.1⟩
    · have hnb : (n.source == n.sink) = false := by simpa using hne
      have HNE := Lib.hid hne
      clear hne
      refine calls_cps fun R hR => ?_
      have HR := Lib.hid hR
      clear hR
      go_enter Try.func27, Try.ntmps27
      have M : Hid (Mem [Loc.k4 w.heap.size (.int .i64 n.places) (.slice A n.trans.length c) (.int .i64 n.source) (.int .i64 n.sink), Loc.bl w.heap.size w] (w.alloc (.cells #[.int .i64 n.places, .slice A n.trans.length c, .int .i64 n.source, .int .i64 n.sink] 24))) := Lib.hid ⟨K4.new w _ _ _ _ _, ⟨(Below.refl _ _).alloc (Nat.le_refl _) _, by simp⟩, True.intro⟩
      have hk4 := M.out.1
      go_wp2_with (go_at_call 54; refine (valid_is' HVB.out _ lo hi _ (HV.out.after M.out.2.1.1)).mono ?_; rintro e w1 ⟨rfl, hb1⟩; replace M := Lib.hid (M.out.below hb1); clear hb1; replace hk4 := M.out.1)
      go_loopw [23, 4] (fun v23 _ wr => ∃ i : Nat, i ≤ n.trans.length ∧ v23 = .int .i64 i ∧ Hid (∀ j, j < i → n.source ∉ (gti n.trans j).out ∧ n.sink ∉ (gti n.trans j).inn) ∧ Hid (Mem [Loc.k4 w.heap.size (.int .i64 n.places) (.slice A n.trans.length c) (.int .i64 n.source) (.int .i64 n.sink), Loc.bl w.heap.size w] wr)) (fun v23 _ _ => n.trans.length - (intOf v23).toNat)
      case atStart => exact ⟨0, Nat.zero_le _, rfl, Lib.hid (fun j hj => absurd hj (by omega)), M⟩
      case round =>
        clear M hk4
        obtain ⟨i, hil, rfl, HN, M⟩ := hrel
        have hk4 := M.out.1
        by_cases hlt : i < n.trans.length
        · obtain ⟨b4, off4, vi, vo, rfl, _, _, hct0, hri, hro⟩ := RdT.at3 HV.out hlt
          have hct := C3.aft3 M.out.2.1.1 hct0
          clear hct0
          obtain ⟨x, hx⟩ : ∃ x, gti n.trans i = x := ⟨_, rfl⟩
          have HX := Lib.hid hx
          rw [hx] at hct hri hro
          clear hx
          obtain ⟨Ai, ci, rfl, hci, hmi⟩ := hri.form
          obtain ⟨Ao, co, rfl, hco, hmo⟩ := hro.form
          have HRI := Lib.hid hri
          have HRO := Lib.hid hro
          clear hri hro
          have M2 := Lib.hid (Mem.cons (a := Loc.k3 wr.heap.size _ _ _) (K3.new wr (.string x.label) (.slice Ai x.inn.length ci) (.slice Ao x.out.length co) 46) (M.out.alloc (.cells #[.string x.label, .slice Ai x.inn.length ci, .slice Ao x.out.length co] 46)))
          have hkt := M2.out.1
          clear M
          obtain ⟨z1, hz1⟩ : ∃ z, decide (n.source ∈ x.out) = z := ⟨_, rfl⟩
          obtain ⟨z2, hz2⟩ : ∃ z, decide (n.sink ∈ x.inn) = z := ⟨_, rfl⟩
          have HZ1 := Lib.hid hz1
          have HZ2 := Lib.hid hz2
          clear hz1 hz2
          cases z1 with
          | true =>
            have HW : Hid (wfB n = false) := Lib.hid (wfB_false (fun h => (h.no i hlt).1 (by rw [HX.out]; exact of_decide_eq_true HZ1.out)))
            go_wp2_with (go_at_call 66; refine (containsI_is HZ1.out lo hi _ _ (HRO.out.after M2.out.2.2.1.1)).mono ?_; rintro e w5 ⟨rfl, hb⟩; replace M2 := Lib.hid (M2.out.below hb); clear hb; replace hkt := M2.out.1; replace hk4 := M2.out.2.1)
            exact HR.out _ _ ⟨by rw [HW.out]; rfl, M2.out.2.2.1.1⟩
          | false =>
            have tok1 : True := trivial
            cases z2 with
            | true =>
              have HW : Hid (wfB n = false) := Lib.hid (wfB_false (fun h => (h.no i hlt).2 (by rw [HX.out]; exact of_decide_eq_true HZ2.out)))
              go_wp2_with (first | (have _t := tok1; (go_at_call 66; refine (containsI_is HZ1.out lo hi _ _ (HRO.out.after M2.out.2.2.1.1)).mono ?_; rintro e w5 ⟨rfl, hb⟩; replace M2 := Lib.hid (M2.out.below hb); clear hb; replace hkt := M2.out.1; replace hk4 := M2.out.2.1); clear tok1) | (go_at_call 66; refine (containsI_is HZ2.out lo hi _ _ (HRI.out.after M2.out.2.2.1.1)).mono ?_; rintro e w5 ⟨rfl, hb⟩; replace M2 := Lib.hid (M2.out.below hb); clear hb; replace hkt := M2.out.1; replace hk4 := M2.out.2.1))
              exact HR.out _ _ ⟨by rw [HW.out]; rfl, M2.out.2.2.1.1⟩
            | false =>
              go_wp2_with (first | (have _t := tok1; (go_at_call 66; refine (containsI_is HZ1.out lo hi _ _ (HRO.out.after M2.out.2.2.1.1)).mono ?_; rintro e w5 ⟨rfl, hb⟩; replace M2 := Lib.hid (M2.out.below hb); clear hb; replace hkt := M2.out.1; replace hk4 := M2.out.2.1); clear tok1) | (go_at_call 66; refine (containsI_is HZ2.out lo hi _ _ (HRI.out.after M2.out.2.2.1.1)).mono ?_; rintro e w5 ⟨rfl, hb⟩; replace M2 := Lib.hid (M2.out.below hb); clear hb; replace hkt := M2.out.1; replace hk4 := M2.out.2.1))
              exact ⟨⟨i + 1, by omega, by go_num, Lib.hid (fun j hj => by
                rcases Nat.lt_succ_iff_lt_or_eq.1 hj with h | rfl
                · exact HN.out j h
                · rw [HX.out]; exact ⟨of_decide_eq_false HZ1.out, of_decide_eq_false HZ2.out⟩), Lib.hid M2.out.2⟩, by simp [intOf]; omega⟩
        · obtain rfl : i = n.trans.length := by omega
          obtain ⟨gb, hgb⟩ : ∃ gb, gb = wr.heap.size := ⟨_, rfl⟩
          have M3 : Hid (Mem [Loc.c2 gb 0 (.bool false) (.bool true), Loc.k4 w.heap.size (.int .i64 n.places) (.slice A n.trans.length c) (.int .i64 n.source) (.int .i64 n.sink), Loc.bl w.heap.size w] (wr.alloc (.cells #[.bool false, .bool true] 4))) := Lib.hid ⟨by rw [hgb]; simp [C2, go_sem], M.out.alloc _⟩
          have HGB0 := Lib.hid hgb
          clear hgb
          go_wp2_with fail
          rw [← HGB0.out]
          go_loopw [42, 6, 7, 8, 9] (fun v42 _ _ _ _ wr => ∃ k : Nat, k ≤ 2 ∧ v42 = .int .i64 k ∧ Hid ((0 < k → Good n false) ∧ (1 < k → Good n true)) ∧ Hid (Mem [Loc.c2 gb 0 (.bool false) (.bool true), Loc.k4 w.heap.size (.int .i64 n.places) (.slice A n.trans.length c) (.int .i64 n.source) (.int .i64 n.sink), Loc.bl w.heap.size w] wr)) (fun v42 _ _ _ _ _ => 2 - (intOf v42).toNat)
          case atStart => exact ⟨0, by omega, rfl, Lib.hid ⟨fun h => absurd h (by omega), fun h => absurd h (by omega)⟩, M3⟩
          case round =>
            clear M M3 hk4 HGB0
            obtain ⟨k, hk, rfl, HGB, M⟩ := hrel
            have hk4 := M.out.2.1
            have hc2 := M.out.1
            obtain rfl | rfl | rfl : k = 0 ∨ k = 1 ∨ k = 2 := by omega
            · go_upto_region 16 with (go_at_call 67; refine (reached_any n n.source false _ lo hi _ (HV.out.after M.out.2.2.1.1) HVB.out hss.1.1 hss.1.2).mono ?_; rintro e w5 ⟨pl, tl, A5, c5, B5, d5, rfl, hp, ht, hrf, hb⟩; have HP1 := Lib.hid hp; have HP2 := Lib.hid ht; have HRF := Lib.hid hrf; clear hp ht hrf; replace M := Lib.hid (M.out.below hb); clear hb)
              have HG : Hid (Good n false ↔ (false ∉ pl ∧ false ∉ tl)) := Lib.hid (RF.good (back := false) HRF.out)
              obtain ⟨z1, hz1⟩ : ∃ z, decide (false ∈ pl) = z := ⟨_, rfl⟩
              obtain ⟨z2, hz2⟩ : ∃ z, decide (false ∈ tl) = z := ⟨_, rfl⟩
              have HZ1 := Lib.hid hz1
              have HZ2 := Lib.hid hz2
              clear hz1 hz2
              have tok1 : True := trivial
              cases z1 with
              | true =>
                have HW : Hid (wfB n = false) := Lib.hid (wfB_false (fun h => (HG.out.1 (HIF.out.1 h).2.2.2.1).1 (of_decide_eq_true HZ1.out)))
                go_wp2_with (go_at_call 68; refine (containsO_is HZ1.out _ _ _ _ HP1.out).mono ?_; rintro e w6 ⟨rfl, hb⟩; replace M := Lib.hid (M.out.below hb); replace HP2 := Lib.hid (Rd.after HP2.out hb); clear hb)
                exact HR.out _ _ ⟨by rw [HW.out]; rfl, M.out.2.2.1.1⟩
              | false =>
                cases z2 with
                | true =>
                  have HW : Hid (wfB n = false) := Lib.hid (wfB_false (fun h => (HG.out.1 (HIF.out.1 h).2.2.2.1).2 (of_decide_eq_true HZ2.out)))
                  go_wp2_with (first | (have _t := tok1; (go_at_call 68; refine (containsO_is HZ1.out _ _ _ _ HP1.out).mono ?_; rintro e w6 ⟨rfl, hb⟩; replace M := Lib.hid (M.out.below hb); replace HP2 := Lib.hid (Rd.after HP2.out hb); clear hb); clear tok1) | (go_at_call 68; refine (containsO_is HZ2.out _ _ _ _ HP2.out).mono ?_; rintro e w6 ⟨rfl, hb⟩; replace M := Lib.hid (M.out.below hb); clear hb))
                  exact HR.out _ _ ⟨by rw [HW.out]; rfl, M.out.2.2.1.1⟩
                | false =>
                  have HGD := Lib.hid (HG.out.2 ⟨of_decide_eq_false HZ1.out, of_decide_eq_false HZ2.out⟩)
                  go_wp2_with (first | (have _t := tok1; (go_at_call 68; refine (containsO_is HZ1.out _ _ _ _ HP1.out).mono ?_; rintro e w6 ⟨rfl, hb⟩; replace M := Lib.hid (M.out.below hb); replace HP2 := Lib.hid (Rd.after HP2.out hb); clear hb); clear tok1) | (go_at_call 68; refine (containsO_is HZ2.out _ _ _ _ HP2.out).mono ?_; rintro e w6 ⟨rfl, hb⟩; replace M := Lib.hid (M.out.below hb); clear hb))
                  exact ⟨⟨1, by omega, rfl, Lib.hid ⟨fun _ => HGD.out, fun h => absurd h (by omega)⟩, M⟩, by simp [intOf]⟩
            · go_upto_region 16 with (go_at_call 67; refine (reached_any n n.sink true _ lo hi _ (HV.out.after M.out.2.2.1.1) HVB.out hss.2.1 hss.2.2).mono ?_; rintro e w5 ⟨pl, tl, A5, c5, B5, d5, rfl, hp, ht, hrf, hb⟩; have HP1 := Lib.hid hp; have HP2 := Lib.hid ht; have HRF := Lib.hid hrf; clear hp ht hrf; replace M := Lib.hid (M.out.below hb); clear hb)
              have HG : Hid (Good n true ↔ (false ∉ pl ∧ false ∉ tl)) := Lib.hid (RF.good (back := true) HRF.out)
              obtain ⟨z1, hz1⟩ : ∃ z, decide (false ∈ pl) = z := ⟨_, rfl⟩
              obtain ⟨z2, hz2⟩ : ∃ z, decide (false ∈ tl) = z := ⟨_, rfl⟩
              have HZ1 := Lib.hid hz1
              have HZ2 := Lib.hid hz2
              clear hz1 hz2
              have tok1 : True := trivial
              cases z1 with
              | true =>
                have HW : Hid (wfB n = false) := Lib.hid (wfB_false (fun h => (HG.out.1 (HIF.out.1 h).2.2.2.2).1 (of_decide_eq_true HZ1.out)))
                go_wp2_with (go_at_call 68; refine (containsO_is HZ1.out _ _ _ _ HP1.out).mono ?_; rintro e w6 ⟨rfl, hb⟩; replace M := Lib.hid (M.out.below hb); replace HP2 := Lib.hid (Rd.after HP2.out hb); clear hb)
                exact HR.out _ _ ⟨by rw [HW.out]; rfl, M.out.2.2.1.1⟩
              | false =>
                cases z2 with
                | true =>
                  have HW : Hid (wfB n = false) := Lib.hid (wfB_false (fun h => (HG.out.1 (HIF.out.1 h).2.2.2.2).2 (of_decide_eq_true HZ2.out)))
                  go_wp2_with (first | (have _t := tok1; (go_at_call 68; refine (containsO_is HZ1.out _ _ _ _ HP1.out).mono ?_; rintro e w6 ⟨rfl, hb⟩; replace M := Lib.hid (M.out.below hb); replace HP2 := Lib.hid (Rd.after HP2.out hb); clear hb); clear tok1) | (go_at_call 68; refine (containsO_is HZ2.out _ _ _ _ HP2.out).mono ?_; rintro e w6 ⟨rfl, hb⟩; replace M := Lib.hid (M.out.below hb); clear hb))
                  exact HR.out _ _ ⟨by rw [HW.out]; rfl, M.out.2.2.1.1⟩
                | false =>
                  have HGD := Lib.hid (HG.out.2 ⟨of_decide_eq_false HZ1.out, of_decide_eq_false HZ2.out⟩)
                  go_wp2_with (first | (have _t := tok1; (go_at_call 68; refine (containsO_is HZ1.out _ _ _ _ HP1.out).mono ?_; rintro e w6 ⟨rfl, hb⟩; replace M := Lib.hid (M.out.below hb); replace HP2 := Lib.hid (Rd.after HP2.out hb); clear hb); clear tok1) | (go_at_call 68; refine (containsO_is HZ2.out _ _ _ _ HP2.out).mono ?_; rintro e w6 ⟨rfl, hb⟩; replace M := Lib.hid (M.out.below hb); clear hb))
                  exact ⟨⟨2, by omega, rfl, Lib.hid ⟨fun _ => HGB.out.1 (by omega), fun _ => HGD.out⟩, M⟩, by simp [intOf]⟩
            · go_wp2_with fail
              exact HR.out _ _ ⟨by rw [wfB_true (HIF.out.2 ⟨HVB.out, HNE.out, HN.out, HGB.out.1 (by omega), HGB.out.2 (by omega)⟩)], M.out.2.2.1.1⟩
end Go.Proofs.Ytmhbfoaecebobaa
