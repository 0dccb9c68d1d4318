/-
  Walks of casebook/casebookref01: Valid, Of, Neg, Add, Sub, Mul, Div, Cmp. Conditions: none.
-/
import Derived.Test.YthlgkomhnhkooaaRef01a
namespace Go.Proofs.Ythlgkomhnhkooaa
set_option linter.unusedSimpArgs false
set_option linter.unusedVariables false
open Go.RowKit

theorem makeE_ok {a : Fr} (h : a.ok) : makeE a.n a.d = ⟨a.n, a.d, 0⟩ := by
  unfold makeE
  rw [if_neg (by have := h.2.2.1; omega), mkF_of_ok h]
  rfl
theorem makeE_not {an ad : Int} (h3 : 1 ≤ ad) (hg : Int.gcd an ad ≠ 1) : (makeE an ad).d ≠ ad := by
  unfold makeE
  rw [if_neg (by omega)]
  have hgp : 0 < Int.gcd an ad := Int.gcd_pos_iff.2 (Or.inr (by omega))
  unfold mkF
  split
  · simp only [FE.of, nf]
    obtain ⟨c, hc⟩ : (Int.gcd an ad : Int) ∣ ad := Int.gcd_dvd_right ..
    rw [Int.natAbs_of_nonneg (by omega)]
    generalize (Int.gcd an ad : Nat) = g at *
    subst hc
    rw [Int.mul_ediv_cancel_left _ (by omega)]
    intro e
    have hc0 : 0 < c := Int.pos_of_mul_pos_right (by omega) (show (0:Int) < g by omega)
    have h2 : 2 * c ≤ (g : Int) * c := Int.mul_le_mul_of_nonneg_right (by omega) (by omega)
    omega
  · simp only [FE.of]; omega

set_option maxHeartbeats 1000000 in
theorem rvalid_any (a : Fr) (w : World) :
    Calls Try.prog 62 #[.agg #[.int .i64 (a).n, .int .i64 (a).d]] w fun e w' => e = .returned (.bool a.okB) ∧ Below w.heap.size w w' := by
  obtain ⟨an, ad⟩ := a
  refine calls_cps fun R hR => ?_
  have HR := Lib.hid hR
  clear hR
  by_cases hr : -1073741824 ≤ an ∧ an ≤ 1073741824 ∧ 1 ≤ ad ∧ ad ≤ 1073741824
  · obtain ⟨h1, h2, h3, h4⟩ := hr
    by_cases hg : Int.gcd an ad = 1
    · have hok : (Fr.mk an ad).ok := ⟨h1, h2, h3, h4, hg⟩
      have HO := Lib.hid (Fr.okB_of hok)
      have HM := Lib.hid (makeE_ok hok)
      clear hok hg
      go_enter Try.func62, Try.ntmps62
      go_wp2_with (go_at_call 77; refine (make_any _ _ _ (by omega) (by omega)).mono ?_; rintro e w1 ⟨rfl, hb1⟩; obtain ⟨p1, p2, p3, p4, p5⟩ := B2.after (g := w.heap.size) (x := .int .i64 an) (y := .int .i64 ad) hb1 (by simp [B2, go_sem]) (by first | omega | (simp; done) | (simp; omega)); have HB := Lib.hid (Below.step ((Below.refl w.heap.size w).alloc (Nat.le_refl _) _) hb1 (by simp)); clear hb1; rw [HM.out])
      refine HR.out _ _ ⟨by rw [HO.out]; rfl, ?_⟩
      have := HB.out
      have := this.size
      (repeat (first | exact Below.refl _ _ | assumption | refine Below.setCell ?_ (by first | omega | (simp; done) | (simp; omega)) _ | refine Below.alloc ?_ (by first | omega | (simp; done) | (simp; omega)) _ | refine Below.drew ?_ | refine below_drewN ?_ _))
    · have HO := Lib.hid (Fr.okB_not (a := ⟨an, ad⟩) (fun h => hg h.2.2.2.2))
      have hne := makeE_not h3 hg
      have hne2 : ((makeE an ad).d == ad) = false := by simpa using hne
      clear hg
      go_enter Try.func62, Try.ntmps62
      go_wp2_with (go_at_call 77; refine (make_any _ _ _ (by omega) (by omega)).mono ?_; rintro e w1 ⟨rfl, hb1⟩; obtain ⟨p1, p2, p3, p4, p5⟩ := B2.after (g := w.heap.size) (x := .int .i64 an) (y := .int .i64 ad) hb1 (by simp [B2, go_sem]) (by first | omega | (simp; done) | (simp; omega)); have HB := Lib.hid (Below.step ((Below.refl w.heap.size w).alloc (Nat.le_refl _) _) hb1 (by simp)); clear hb1)
      all_goals
        refine HR.out _ _ ⟨by rw [HO.out]; rfl, ?_⟩
        have := HB.out
        have := this.size
        (repeat (first | exact Below.refl _ _ | assumption | refine Below.setCell ?_ (by first | omega | (simp; done) | (simp; omega)) _ | refine Below.alloc ?_ (by first | omega | (simp; done) | (simp; omega)) _ | refine Below.drew ?_ | refine below_drewN ?_ _))
  · have HO := Lib.hid (Fr.okB_not (a := ⟨an, ad⟩) (fun h => hr ⟨h.1, h.2.1, h.2.2.1, h.2.2.2.1⟩))
    go_enter Try.func62, Try.ntmps62
    go_wp2_with fail
    all_goals
      refine HR.out _ _ ⟨(by first | (rw [HO.out]; done) | (rw [HO.out]; rfl)), ?_⟩
      (repeat (first | exact Below.refl _ _ | assumption | refine Below.setCell ?_ (by first | omega | (simp; done) | (simp; omega)) _ | refine Below.alloc ?_ (by first | omega | (simp; done) | (simp; omega)) _ | refine Below.drew ?_ | refine below_drewN ?_ _))

set_option maxHeartbeats 400000 in
theorem rof_any (n : Int) (w : World) :
    Calls Try.prog 51 #[.int .i64 n] w fun e w' => e = .returned (.agg #[.int .i64 n, .int .i64 1]) ∧ Below w.heap.size w w' := by
  refine calls_cps fun R hR => ?_
  have HR := Lib.hid hR
  clear hR
  go_enter Try.func51, Try.ntmps51
  go_wp2
  refine bodyPost_ret (v := .agg #[.int .i64 n, .int .i64 1]) (by simp [results, Try.results51, go_sem]) rfl (HR.out _ _ ⟨rfl, ?_⟩)
  (repeat (first | exact Below.refl _ _ | assumption | refine Below.setCell ?_ (by first | omega | (simp; done) | (simp; omega)) _ | refine Below.alloc ?_ (by first | omega | (simp; done) | (simp; omega)) _ | refine Below.drew ?_ | refine below_drewN ?_ _))

set_option maxHeartbeats 400000 in
theorem rneg_any (a : Fr) (w : World) (h : -1073741824 ≤ a.n ∧ a.n ≤ 1073741824) :
    Calls Try.prog 82 #[.agg #[.int .i64 (a).n, .int .i64 (a).d]] w fun e w' => e = .returned (.agg #[.int .i64 (fneg a).n, .int .i64 (fneg a).d]) ∧ Below w.heap.size w w' := by
  refine calls_cps fun R hR => ?_
  have HR := Lib.hid hR
  clear hR
  go_enter Try.func82, Try.ntmps82
  go_wp2
  refine bodyPost_ret (v := .agg #[.int .i64 (fneg a).n, .int .i64 (fneg a).d]) (by simp [results, Try.results82, go_sem, fneg]) rfl (HR.out _ _ ⟨rfl, ?_⟩)
  (repeat (first | exact Below.refl _ _ | assumption | refine Below.setCell ?_ (by first | omega | (simp; done) | (simp; omega)) _ | refine Below.alloc ?_ (by first | omega | (simp; done) | (simp; omega)) _ | refine Below.drew ?_ | refine below_drewN ?_ _))

set_option maxHeartbeats 2000000 in
theorem radd_any (a b : Fr) (w : World) :
    Calls Try.prog 71 #[.agg #[.int .i64 (a).n, .int .i64 (a).d], .agg #[.int .i64 (b).n, .int .i64 (b).d]] w fun e w' =>
      e = .returned (.tuple #[.agg #[.int .i64 (addE a b).n, .int .i64 (addE a b).d], .int .i64 (addE a b).e]) ∧ Below w.heap.size w w' := by
  refine calls_cps fun R hR => ?_
  have HR := Lib.hid hR
  clear hR
  go_enter Try.func71, Try.ntmps71
  go_wp2_with fail
  refine (rvalid_any a _).mono ?_
  rintro e w1 ⟨rfl, hb1⟩
  obtain ⟨p1, p2, p3, p4, p5⟩ := B2.after (g := w.heap.size) (x := .int .i64 a.n) (y := .int .i64 a.d) hb1 (by simp [B2, go_sem]) (by first | omega | (simp; done) | (simp; omega))
  obtain ⟨q1, q2, q3, q4, q5⟩ := B2.after (g := w.heap.size + 1) (x := .int .i64 b.n) (y := .int .i64 b.d) hb1 (by simp [B2, go_sem]) (by first | omega | (simp; done) | (simp; omega))
  obtain ⟨k1, k2, k3, k4, k5⟩ := B2.after (g := w.heap.size + 1 + 1) (x := .int .i64 0) (y := .int .i64 0) hb1 (by simp [B2, go_sem]) (by first | omega | (simp; done) | (simp; omega))
  have HB : Hid (Below w.heap.size w w1) := Lib.hid (by refine Below.step ?_ hb1 (by first | omega | (simp; done) | (simp; omega)); (repeat (first | exact Below.refl _ _ | assumption | refine Below.setCell ?_ (by first | omega | (simp; done) | (simp; omega)) _ | refine Below.alloc ?_ (by first | omega | (simp; done) | (simp; omega)) _ | refine Below.drew ?_ | refine below_drewN ?_ _)))
  clear hb1
  cases hva : a.okB with
  | false =>
    have HV := Lib.hid hva
    clear hva
    go_wp2
    refine bodyPost_ret (v := .tuple #[.agg #[.int .i64 0, .int .i64 0], .int .i64 1]) (by simp [results, Try.results71, go_sem, k1, k2]) rfl (HR.out _ _ ⟨?_, ?_⟩)
    · simp [addE, HV.out, FE.err]
    · have := HB.out; (repeat (first | exact Below.refl _ _ | assumption | refine Below.setCell ?_ (by first | omega | (simp; done) | (simp; omega)) _ | refine Below.alloc ?_ (by first | omega | (simp; done) | (simp; omega)) _ | refine Below.drew ?_ | refine below_drewN ?_ _))
  | true =>
    go_wp2_with fail
    refine (rvalid_any b _).mono ?_
    rintro e w2 ⟨rfl, hb2⟩
    obtain ⟨p1', p2', p3', p4', p5'⟩ := B2.after hb2 (g := w.heap.size) ⟨p1, p2, p3, p4, p5⟩ (by first | omega | (simp; done) | (simp; omega))
    obtain ⟨q1', q2', q3', q4', q5'⟩ := B2.after hb2 (g := w.heap.size + 1) ⟨q1, q2, q3, q4, q5⟩ (by first | omega | (simp; done) | (simp; omega))
    obtain ⟨k1', k2', k3', k4', k5'⟩ := B2.after hb2 (g := w.heap.size + 1 + 1) ⟨k1, k2, k3, k4, k5⟩ (by first | omega | (simp; done) | (simp; omega))
    have HB2 : Hid (Below w.heap.size w w2) := Lib.hid (Below.step HB.out hb2 (by omega))
    clear hb2 HB p1 p2 p3 p4 p5 q1 q2 q3 q4 q5 k1 k2 k3 k4 k5
    cases hvb : b.okB with
    | false =>
      have HV := Lib.hid hvb
      clear hvb
      go_wp2
      refine bodyPost_ret (v := .tuple #[.agg #[.int .i64 0, .int .i64 0], .int .i64 1]) (by simp [results, Try.results71, go_sem, k1', k2']) rfl (HR.out _ _ ⟨?_, ?_⟩)
      · simp [addE, HV.out, FE.err]
      · have := HB2.out; (repeat (first | exact Below.refl _ _ | assumption | refine Below.setCell ?_ (by first | omega | (simp; done) | (simp; omega)) _ | refine Below.alloc ?_ (by first | omega | (simp; done) | (simp; omega)) _ | refine Below.drew ?_ | refine below_drewN ?_ _))
    | true =>
      have HVA := Lib.hid hva
      have HVB := Lib.hid hvb
      have hoka := (Fr.okB_iff a).1 hva
      have hokb := (Fr.okB_iff b).1 hvb
      have ⟨a1, a2, a3, a4, _⟩ := hoka
      have ⟨b1, b2, b3, b4, _⟩ := hokb
      have bx := mul_bd a.n b.d a1 a2 (by omega) (by omega)
      have bY := mul_bd b.n a.d b1 b2 (by omega) (by omega)
      have bz := mul_bd a.d b.d (by omega) a4 (by omega) b4
      have bz2 : 0 < a.d * b.d := Int.mul_pos (by omega) (by omega)
      have HE : Hid (makeE (a.n * b.d + b.n * a.d) (a.d * b.d) = addE a b) := Lib.hid (by unfold makeE addE; rw [if_neg (by omega), HVA.out, HVB.out]; rfl)
      clear hva hvb hoka hokb
      go_wp2_with fail
      refine (make_any (a.n * b.d + b.n * a.d) (a.d * b.d) _ (by omega) (by omega)).mono ?_
      rintro e w4 ⟨rfl, hb4⟩
      obtain ⟨g1, g2, g3, g4, g5⟩ := B2.after (g := w.heap.size + 1 + 1) (x := .int .i64 0) (y := .int .i64 0) hb4 ⟨k1', k2', k3', k4', k5'⟩ (by first | omega | (simp; done) | (simp; omega))
      have HB4 : Hid (Below w.heap.size w w4) := Lib.hid (Below.step HB2.out hb4 (by omega))
      clear hb4
      go_wp2
      refine bodyPost_ret (v := .tuple #[.agg #[.int .i64 (makeE (a.n * b.d + b.n * a.d) (a.d * b.d)).n, .int .i64 (makeE (a.n * b.d + b.n * a.d) (a.d * b.d)).d], .int .i64 (makeE (a.n * b.d + b.n * a.d) (a.d * b.d)).e]) (by simp [results, Try.results71, go_sem, g1, g2]) rfl (HR.out _ _ ⟨?_, ?_⟩)
      · rw [HE.out]
      · have := HB4.out; (repeat (first | exact Below.refl _ _ | assumption | refine Below.setCell ?_ (by first | omega | (simp; done) | (simp; omega)) _ | refine Below.alloc ?_ (by first | omega | (simp; done) | (simp; omega)) _ | refine Below.drew ?_ | refine below_drewN ?_ _))

set_option maxHeartbeats 2000000 in
theorem rsub_any (a b : Fr) (w : World) :
    Calls Try.prog 74 #[.agg #[.int .i64 (a).n, .int .i64 (a).d], .agg #[.int .i64 (b).n, .int .i64 (b).d]] w fun e w' =>
      e = .returned (.tuple #[.agg #[.int .i64 (subE a b).n, .int .i64 (subE a b).d], .int .i64 (subE a b).e]) ∧ Below w.heap.size w w' := by
  refine calls_cps fun R hR => ?_
  have HR := Lib.hid hR
  clear hR
  go_enter Try.func74, Try.ntmps74
  go_wp2_with fail
  refine (rvalid_any a _).mono ?_
  rintro e w1 ⟨rfl, hb1⟩
  obtain ⟨p1, p2, p3, p4, p5⟩ := B2.after (g := w.heap.size) (x := .int .i64 a.n) (y := .int .i64 a.d) hb1 (by simp [B2, go_sem]) (by first | omega | (simp; done) | (simp; omega))
  obtain ⟨q1, q2, q3, q4, q5⟩ := B2.after (g := w.heap.size + 1) (x := .int .i64 b.n) (y := .int .i64 b.d) hb1 (by simp [B2, go_sem]) (by first | omega | (simp; done) | (simp; omega))
  obtain ⟨k1, k2, k3, k4, k5⟩ := B2.after (g := w.heap.size + 1 + 1) (x := .int .i64 0) (y := .int .i64 0) hb1 (by simp [B2, go_sem]) (by first | omega | (simp; done) | (simp; omega))
  have HB : Hid (Below w.heap.size w w1) := Lib.hid (by refine Below.step ?_ hb1 (by first | omega | (simp; done) | (simp; omega)); (repeat (first | exact Below.refl _ _ | assumption | refine Below.setCell ?_ (by first | omega | (simp; done) | (simp; omega)) _ | refine Below.alloc ?_ (by first | omega | (simp; done) | (simp; omega)) _ | refine Below.drew ?_ | refine below_drewN ?_ _)))
  clear hb1
  cases hva : a.okB with
  | false =>
    have HV := Lib.hid hva
    clear hva
    go_wp2
    refine bodyPost_ret (v := .tuple #[.agg #[.int .i64 0, .int .i64 0], .int .i64 1]) (by simp [results, Try.results74, go_sem, k1, k2]) rfl (HR.out _ _ ⟨?_, ?_⟩)
    · simp [subE, HV.out, FE.err]
    · have := HB.out; (repeat (first | exact Below.refl _ _ | assumption | refine Below.setCell ?_ (by first | omega | (simp; done) | (simp; omega)) _ | refine Below.alloc ?_ (by first | omega | (simp; done) | (simp; omega)) _ | refine Below.drew ?_ | refine below_drewN ?_ _))
  | true =>
    go_wp2_with fail
    refine (rvalid_any b _).mono ?_
    rintro e w2 ⟨rfl, hb2⟩
    obtain ⟨p1', p2', p3', p4', p5'⟩ := B2.after hb2 (g := w.heap.size) ⟨p1, p2, p3, p4, p5⟩ (by first | omega | (simp; done) | (simp; omega))
    obtain ⟨q1', q2', q3', q4', q5'⟩ := B2.after hb2 (g := w.heap.size + 1) ⟨q1, q2, q3, q4, q5⟩ (by first | omega | (simp; done) | (simp; omega))
    obtain ⟨k1', k2', k3', k4', k5'⟩ := B2.after hb2 (g := w.heap.size + 1 + 1) ⟨k1, k2, k3, k4, k5⟩ (by first | omega | (simp; done) | (simp; omega))
    have HB2 : Hid (Below w.heap.size w w2) := Lib.hid (Below.step HB.out hb2 (by omega))
    clear hb2 HB p1 p2 p3 p4 p5 q1 q2 q3 q4 q5 k1 k2 k3 k4 k5
    cases hvb : b.okB with
    | false =>
      have HV := Lib.hid hvb
      clear hvb
      go_wp2
      refine bodyPost_ret (v := .tuple #[.agg #[.int .i64 0, .int .i64 0], .int .i64 1]) (by simp [results, Try.results74, go_sem, k1', k2']) rfl (HR.out _ _ ⟨?_, ?_⟩)
      · simp [subE, HV.out, FE.err]
      · have := HB2.out; (repeat (first | exact Below.refl _ _ | assumption | refine Below.setCell ?_ (by first | omega | (simp; done) | (simp; omega)) _ | refine Below.alloc ?_ (by first | omega | (simp; done) | (simp; omega)) _ | refine Below.drew ?_ | refine below_drewN ?_ _))
    | true =>
      have HVA := Lib.hid hva
      have HVB := Lib.hid hvb
      have hoka := (Fr.okB_iff a).1 hva
      have hokb := (Fr.okB_iff b).1 hvb
      have ⟨a1, a2, a3, a4, _⟩ := hoka
      have ⟨b1, b2, b3, b4, _⟩ := hokb
      have HE : Hid (addE a (fneg b) = subE a b) := Lib.hid (by simp [addE, subE, fsub, HVA.out, HVB.out, Fr.okB_of (fneg_ok hokb)])
      clear hva hvb hoka hokb
      go_wp2_with fail
      go_region_held3 (fun W => W.cell? ⟨w.heap.size, 0, none⟩ = some (.int .i64 a.n) ∧ W.cell? ⟨w.heap.size, 1, none⟩ = some (.int .i64 a.d) ∧ W.cell? ⟨w.heap.size + 1, 0, none⟩ = some (.int .i64 b.n) ∧ W.cell? ⟨w.heap.size + 1, 1, none⟩ = some (.int .i64 b.d)) (first | exact ⟨p1', p2', q1', q2'⟩ | exact ⟨p1, p2, q1, q2⟩ | exact ⟨x1, x2, y1, y2⟩ | exact ⟨cell_set2 x1 (by omega), cell_set2 x2 (by omega), cell_set2 y1 (by omega), cell_set2 y2 (by omega)⟩)
        (first | (go_at_call 82; refine (rneg_any b _ ⟨b1, b2⟩).mono ?_; rintro e w3 ⟨rfl, hb3⟩; obtain ⟨p1, p2, p3, p4, p5⟩ := B2.after hb3 (g := w.heap.size) ⟨p1', p2', p3', p4', p5'⟩ (by first | omega | (simp; done) | (simp; omega)); obtain ⟨q1, q2, q3, q4, q5⟩ := B2.after hb3 (g := w.heap.size + 1) ⟨q1', q2', q3', q4', q5'⟩ (by first | omega | (simp; done) | (simp; omega)); obtain ⟨k1, k2, k3, k4, k5⟩ := B2.after hb3 (g := w.heap.size + 1 + 1) ⟨k1', k2', k3', k4', k5'⟩ (by first | omega | (simp; done) | (simp; omega)); have HB3 := Lib.hid (Below.step HB2.out.drew hb3 (by simp; omega)); clear hb3) | (go_at_call 71; refine (radd_any a (fneg b) _).mono ?_; rintro e w4 ⟨rfl, hb4⟩; obtain ⟨x1, x2, x3, x4, x5⟩ := B2.after hb4 (g := w.heap.size) ⟨p1, p2, p3, p4, p5⟩ (by first | omega | (simp; done) | (simp; omega)); obtain ⟨y1, y2, y3, y4, y5⟩ := B2.after hb4 (g := w.heap.size + 1) ⟨q1, q2, q3, q4, q5⟩ (by first | omega | (simp; done) | (simp; omega)); obtain ⟨g1, g2, g3, g4, g5⟩ := B2.after hb4 (g := w.heap.size + 1 + 1) ⟨k1, k2, k3, k4, k5⟩ (by first | omega | (simp; done) | (simp; omega)); have HB4 := Lib.hid (Below.step HB3.out hb4 (by omega)); clear hb4))
      go_wp2
      refine bodyPost_ret (v := .tuple #[.agg #[.int .i64 (addE a (fneg b)).n, .int .i64 (addE a (fneg b)).d], .int .i64 (addE a (fneg b)).e]) (by simp [results, Try.results74, go_sem, g1, g2]) rfl (HR.out _ _ ⟨?_, ?_⟩)
      · rw [HE.out]
      · have := HB4.out; (repeat (first | exact Below.refl _ _ | assumption | refine Below.setCell ?_ (by first | omega | (simp; done) | (simp; omega)) _ | refine Below.alloc ?_ (by first | omega | (simp; done) | (simp; omega)) _ | refine Below.drew ?_ | refine below_drewN ?_ _))

set_option maxHeartbeats 2000000 in
theorem rmul_any (a b : Fr) (w : World) :
    Calls Try.prog 73 #[.agg #[.int .i64 (a).n, .int .i64 (a).d], .agg #[.int .i64 (b).n, .int .i64 (b).d]] w fun e w' =>
      e = .returned (.tuple #[.agg #[.int .i64 (mulE a b).n, .int .i64 (mulE a b).d], .int .i64 (mulE a b).e]) ∧ Below w.heap.size w w' := by
  refine calls_cps fun R hR => ?_
  have HR := Lib.hid hR
  clear hR
  go_enter Try.func73, Try.ntmps73
  go_wp2_with fail
  refine (rvalid_any a _).mono ?_
  rintro e w1 ⟨rfl, hb1⟩
  obtain ⟨p1, p2, p3, p4, p5⟩ := B2.after (g := w.heap.size) (x := .int .i64 a.n) (y := .int .i64 a.d) hb1 (by simp [B2, go_sem]) (by first | omega | (simp; done) | (simp; omega))
  obtain ⟨q1, q2, q3, q4, q5⟩ := B2.after (g := w.heap.size + 1) (x := .int .i64 b.n) (y := .int .i64 b.d) hb1 (by simp [B2, go_sem]) (by first | omega | (simp; done) | (simp; omega))
  obtain ⟨k1, k2, k3, k4, k5⟩ := B2.after (g := w.heap.size + 1 + 1) (x := .int .i64 0) (y := .int .i64 0) hb1 (by simp [B2, go_sem]) (by first | omega | (simp; done) | (simp; omega))
  have HB : Hid (Below w.heap.size w w1) := Lib.hid (by refine Below.step ?_ hb1 (by first | omega | (simp; done) | (simp; omega)); (repeat (first | exact Below.refl _ _ | assumption | refine Below.setCell ?_ (by first | omega | (simp; done) | (simp; omega)) _ | refine Below.alloc ?_ (by first | omega | (simp; done) | (simp; omega)) _ | refine Below.drew ?_ | refine below_drewN ?_ _)))
  clear hb1
  cases hva : a.okB with
  | false =>
    have HV := Lib.hid hva
    clear hva
    go_wp2
    refine bodyPost_ret (v := .tuple #[.agg #[.int .i64 0, .int .i64 0], .int .i64 1]) (by simp [results, Try.results73, go_sem, k1, k2]) rfl (HR.out _ _ ⟨?_, ?_⟩)
    · simp [mulE, HV.out, FE.err]
    · have := HB.out; (repeat (first | exact Below.refl _ _ | assumption | refine Below.setCell ?_ (by first | omega | (simp; done) | (simp; omega)) _ | refine Below.alloc ?_ (by first | omega | (simp; done) | (simp; omega)) _ | refine Below.drew ?_ | refine below_drewN ?_ _))
  | true =>
    go_wp2_with fail
    refine (rvalid_any b _).mono ?_
    rintro e w2 ⟨rfl, hb2⟩
    obtain ⟨p1', p2', p3', p4', p5'⟩ := B2.after hb2 (g := w.heap.size) ⟨p1, p2, p3, p4, p5⟩ (by first | omega | (simp; done) | (simp; omega))
    obtain ⟨q1', q2', q3', q4', q5'⟩ := B2.after hb2 (g := w.heap.size + 1) ⟨q1, q2, q3, q4, q5⟩ (by first | omega | (simp; done) | (simp; omega))
    obtain ⟨k1', k2', k3', k4', k5'⟩ := B2.after hb2 (g := w.heap.size + 1 + 1) ⟨k1, k2, k3, k4, k5⟩ (by first | omega | (simp; done) | (simp; omega))
    have HB2 : Hid (Below w.heap.size w w2) := Lib.hid (Below.step HB.out hb2 (by omega))
    clear hb2 HB p1 p2 p3 p4 p5 q1 q2 q3 q4 q5 k1 k2 k3 k4 k5
    cases hvb : b.okB with
    | false =>
      have HV := Lib.hid hvb
      clear hvb
      go_wp2
      refine bodyPost_ret (v := .tuple #[.agg #[.int .i64 0, .int .i64 0], .int .i64 1]) (by simp [results, Try.results73, go_sem, k1', k2']) rfl (HR.out _ _ ⟨?_, ?_⟩)
      · simp [mulE, HV.out, FE.err]
      · have := HB2.out; (repeat (first | exact Below.refl _ _ | assumption | refine Below.setCell ?_ (by first | omega | (simp; done) | (simp; omega)) _ | refine Below.alloc ?_ (by first | omega | (simp; done) | (simp; omega)) _ | refine Below.drew ?_ | refine below_drewN ?_ _))
    | true =>
      have HVA := Lib.hid hva
      have HVB := Lib.hid hvb
      have hoka := (Fr.okB_iff a).1 hva
      have hokb := (Fr.okB_iff b).1 hvb
      have ⟨a1, a2, a3, a4, _⟩ := hoka
      have ⟨b1, b2, b3, b4, _⟩ := hokb
      have bx := mul_bd' a.n b.n a1 a2 b1 b2
      have bz := mul_bd a.d b.d (by omega) a4 (by omega) b4
      have bz2 : 0 < a.d * b.d := Int.mul_pos (by omega) (by omega)
      have HE : Hid (makeE (a.n * b.n) (a.d * b.d) = mulE a b) := Lib.hid (by unfold makeE mulE; rw [if_neg (by omega), HVA.out, HVB.out]; rfl)
      clear hva hvb hoka hokb
      go_wp2_with fail
      refine (make_any (a.n * b.n) (a.d * b.d) _ (by omega) (by omega)).mono ?_
      rintro e w4 ⟨rfl, hb4⟩
      obtain ⟨g1, g2, g3, g4, g5⟩ := B2.after (g := w.heap.size + 1 + 1) (x := .int .i64 0) (y := .int .i64 0) hb4 ⟨k1', k2', k3', k4', k5'⟩ (by first | omega | (simp; done) | (simp; omega))
      have HB4 : Hid (Below w.heap.size w w4) := Lib.hid (Below.step HB2.out hb4 (by omega))
      clear hb4
      go_wp2
      refine bodyPost_ret (v := .tuple #[.agg #[.int .i64 (makeE (a.n * b.n) (a.d * b.d)).n, .int .i64 (makeE (a.n * b.n) (a.d * b.d)).d], .int .i64 (makeE (a.n * b.n) (a.d * b.d)).e]) (by simp [results, Try.results73, go_sem, g1, g2]) rfl (HR.out _ _ ⟨?_, ?_⟩)
      · rw [HE.out]
      · have := HB4.out; (repeat (first | exact Below.refl _ _ | assumption | refine Below.setCell ?_ (by first | omega | (simp; done) | (simp; omega)) _ | refine Below.alloc ?_ (by first | omega | (simp; done) | (simp; omega)) _ | refine Below.drew ?_ | refine below_drewN ?_ _))

set_option maxHeartbeats 2000000 in
theorem rdiv_any (a b : Fr) (w : World) :
    Calls Try.prog 72 #[.agg #[.int .i64 (a).n, .int .i64 (a).d], .agg #[.int .i64 (b).n, .int .i64 (b).d]] w fun e w' =>
      e = .returned (.tuple #[.agg #[.int .i64 (divE a b).n, .int .i64 (divE a b).d], .int .i64 (divE a b).e]) ∧ Below w.heap.size w w' := by
  refine calls_cps fun R hR => ?_
  have HR := Lib.hid hR
  clear hR
  go_enter Try.func72, Try.ntmps72
  go_wp2_with fail
  refine (rvalid_any a _).mono ?_
  rintro e w1 ⟨rfl, hb1⟩
  obtain ⟨p1, p2, p3, p4, p5⟩ := B2.after (g := w.heap.size) (x := .int .i64 a.n) (y := .int .i64 a.d) hb1 (by simp [B2, go_sem]) (by first | omega | (simp; done) | (simp; omega))
  obtain ⟨q1, q2, q3, q4, q5⟩ := B2.after (g := w.heap.size + 1) (x := .int .i64 b.n) (y := .int .i64 b.d) hb1 (by simp [B2, go_sem]) (by first | omega | (simp; done) | (simp; omega))
  obtain ⟨k1, k2, k3, k4, k5⟩ := B2.after (g := w.heap.size + 1 + 1) (x := .int .i64 0) (y := .int .i64 0) hb1 (by simp [B2, go_sem]) (by first | omega | (simp; done) | (simp; omega))
  have HB : Hid (Below w.heap.size w w1) := Lib.hid (by refine Below.step ?_ hb1 (by first | omega | (simp; done) | (simp; omega)); (repeat (first | exact Below.refl _ _ | assumption | refine Below.setCell ?_ (by first | omega | (simp; done) | (simp; omega)) _ | refine Below.alloc ?_ (by first | omega | (simp; done) | (simp; omega)) _ | refine Below.drew ?_ | refine below_drewN ?_ _)))
  clear hb1
  cases hva : a.okB with
  | false =>
    have HV := Lib.hid hva
    clear hva
    go_wp2
    refine bodyPost_ret (v := .tuple #[.agg #[.int .i64 0, .int .i64 0], .int .i64 1]) (by simp [results, Try.results72, go_sem, k1, k2]) rfl (HR.out _ _ ⟨?_, ?_⟩)
    · simp [divE, HV.out, FE.err]
    · have := HB.out; (repeat (first | exact Below.refl _ _ | assumption | refine Below.setCell ?_ (by first | omega | (simp; done) | (simp; omega)) _ | refine Below.alloc ?_ (by first | omega | (simp; done) | (simp; omega)) _ | refine Below.drew ?_ | refine below_drewN ?_ _))
  | true =>
    go_wp2_with fail
    refine (rvalid_any b _).mono ?_
    rintro e w2 ⟨rfl, hb2⟩
    obtain ⟨p1', p2', p3', p4', p5'⟩ := B2.after hb2 (g := w.heap.size) ⟨p1, p2, p3, p4, p5⟩ (by first | omega | (simp; done) | (simp; omega))
    obtain ⟨q1', q2', q3', q4', q5'⟩ := B2.after hb2 (g := w.heap.size + 1) ⟨q1, q2, q3, q4, q5⟩ (by first | omega | (simp; done) | (simp; omega))
    obtain ⟨k1', k2', k3', k4', k5'⟩ := B2.after hb2 (g := w.heap.size + 1 + 1) ⟨k1, k2, k3, k4, k5⟩ (by first | omega | (simp; done) | (simp; omega))
    have HB2 : Hid (Below w.heap.size w w2) := Lib.hid (Below.step HB.out hb2 (by omega))
    clear hb2 HB p1 p2 p3 p4 p5 q1 q2 q3 q4 q5 k1 k2 k3 k4 k5
    cases hvb : b.okB with
    | false =>
      have HV := Lib.hid hvb
      clear hvb
      go_wp2
      refine bodyPost_ret (v := .tuple #[.agg #[.int .i64 0, .int .i64 0], .int .i64 1]) (by simp [results, Try.results72, go_sem, k1', k2']) rfl (HR.out _ _ ⟨?_, ?_⟩)
      · simp [divE, HV.out, FE.err]
      · have := HB2.out; (repeat (first | exact Below.refl _ _ | assumption | refine Below.setCell ?_ (by first | omega | (simp; done) | (simp; omega)) _ | refine Below.alloc ?_ (by first | omega | (simp; done) | (simp; omega)) _ | refine Below.drew ?_ | refine below_drewN ?_ _))
    | true =>
      have HVA := Lib.hid hva
      have HVB := Lib.hid hvb
      have hoka := (Fr.okB_iff a).1 hva
      have hokb := (Fr.okB_iff b).1 hvb
      have ⟨a1, a2, a3, a4, _⟩ := hoka
      have ⟨b1, b2, b3, b4, _⟩ := hokb
      have bx := mul_bd a.n b.d a1 a2 (by omega) (by omega)
      have bz := mul_bd' a.d b.n (by omega) a4 b1 b2
      have HE : Hid (makeE (a.n * b.d) (a.d * b.n) = divE a b) := Lib.hid (by
        unfold makeE divE; rw [HVA.out, HVB.out]
        by_cases h0 : b.n = 0
        · simp [h0]
        · rw [if_neg (by intro e; rcases Int.mul_eq_zero.1 e with h | h <;> omega)]; simp [h0, fdiv])
      clear hva hvb hoka hokb
      go_wp2_with fail
      refine (make_any (a.n * b.d) (a.d * b.n) _ (by omega) (by omega)).mono ?_
      rintro e w4 ⟨rfl, hb4⟩
      obtain ⟨g1, g2, g3, g4, g5⟩ := B2.after (g := w.heap.size + 1 + 1) (x := .int .i64 0) (y := .int .i64 0) hb4 ⟨k1', k2', k3', k4', k5'⟩ (by first | omega | (simp; done) | (simp; omega))
      have HB4 : Hid (Below w.heap.size w w4) := Lib.hid (Below.step HB2.out hb4 (by omega))
      clear hb4
      go_wp2
      refine bodyPost_ret (v := .tuple #[.agg #[.int .i64 (makeE (a.n * b.d) (a.d * b.n)).n, .int .i64 (makeE (a.n * b.d) (a.d * b.n)).d], .int .i64 (makeE (a.n * b.d) (a.d * b.n)).e]) (by simp [results, Try.results72, go_sem, g1, g2]) rfl (HR.out _ _ ⟨?_, ?_⟩)
      · rw [HE.out]
      · have := HB4.out; (repeat (first | exact Below.refl _ _ | assumption | refine Below.setCell ?_ (by first | omega | (simp; done) | (simp; omega)) _ | refine Below.alloc ?_ (by first | omega | (simp; done) | (simp; omega)) _ | refine Below.drew ?_ | refine below_drewN ?_ _))

set_option maxHeartbeats 400000 in
theorem rcmp_any (a b : Fr) (w : World) (ha : a.ok) (hb : b.ok) :
    Calls Try.prog 63 #[.agg #[.int .i64 (a).n, .int .i64 (a).d], .agg #[.int .i64 (b).n, .int .i64 (b).d]] w fun e w' => e = .returned (.int .i64 (cmpN a b)) ∧ Below w.heap.size w w' := by
  refine calls_cps fun R hR => ?_
  have HR := Lib.hid hR
  clear hR
  have ⟨a1, a2, a3, a4, _⟩ := ha
  have ⟨b1, b2, b3, b4, _⟩ := hb
  have bx := mul_bd a.n b.d a1 a2 (by omega) (by omega)
  have bY := mul_bd b.n a.d b1 b2 (by omega) (by omega)
  have HC : Hid (cmpN a b = if a.n * b.d < b.n * a.d then -1 else if a.n * b.d > b.n * a.d then 1 else 0) := Lib.hid rfl
  obtain ⟨x, hx⟩ : ∃ x, a.n * b.d = x := ⟨_, rfl⟩
  obtain ⟨y, hy⟩ : ∃ y, b.n * a.d = y := ⟨_, rfl⟩
  rw [hx] at bx HC
  rw [hy] at bY HC
  clear ha hb
  rcases Int.lt_trichotomy x y with h | h | h
  · have HCV : Hid (cmpN a b = -1) := Lib.hid (by rw [HC.out, if_pos h])
    go_enter Try.func63, Try.ntmps63
    go_wp2
    refine HR.out _ _ ⟨by rw [HCV.out]; rfl, ?_⟩
    (repeat (first | exact Below.refl _ _ | assumption | refine Below.setCell ?_ (by first | omega | (simp; done) | (simp; omega)) _ | refine Below.alloc ?_ (by first | omega | (simp; done) | (simp; omega)) _ | refine Below.drew ?_ | refine below_drewN ?_ _))
  · have HCV : Hid (cmpN a b = 0) := Lib.hid (by rw [HC.out, if_neg (by omega), if_neg (by omega)])
    subst h
    go_enter Try.func63, Try.ntmps63
    go_wp2
    refine HR.out _ _ ⟨by rw [HCV.out]; rfl, ?_⟩
    (repeat (first | exact Below.refl _ _ | assumption | refine Below.setCell ?_ (by first | omega | (simp; done) | (simp; omega)) _ | refine Below.alloc ?_ (by first | omega | (simp; done) | (simp; omega)) _ | refine Below.drew ?_ | refine below_drewN ?_ _))
  · have HCV : Hid (cmpN a b = 1) := Lib.hid (by rw [HC.out, if_neg (by omega), if_pos h])
    go_enter Try.func63, Try.ntmps63
    go_wp2
    refine HR.out _ _ ⟨by rw [HCV.out]; rfl, ?_⟩
    (repeat (first | exact Below.refl _ _ | assumption | refine Below.setCell ?_ (by first | omega | (simp; done) | (simp; omega)) _ | refine Below.alloc ?_ (by first | omega | (simp; done) | (simp; omega)) _ | refine Below.drew ?_ | refine below_drewN ?_ _))

end Go.Proofs.Ythlgkomhnhkooaa
