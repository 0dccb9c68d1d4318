/-
  Walks of casebook/frac: Sub, Mul, Div, Cmp. Conditions: none.
-/
import Derived.Test.YthlgkomhnhkooaaFrac3
namespace Go.Proofs.Ythlgkomhnhkooaa
set_option linter.unusedSimpArgs false
set_option linter.unusedVariables false
open Go.RowKit

set_option maxHeartbeats 2000000 in
theorem sub_any (a b : Fr) (w : World) :
    Calls Try.prog 22 #[.agg #[.int .i64 (a).n, .int .i64 (a).d], .agg #[.int .i64 (b).n, .int .i64 (b).d]] w fun e w' =>
      e = .returned (.tuple #[.agg #[.int .i64 (subE a b).n, .int .i64 (subE a b).d], .int .i64 (subE a b).e]) ∧ Below w.heap.size w w' := by
  refine calls_cps fun R hR => ?_
  have HR := Lib.hid hR
  clear hR
  go_enter Try.func22, Try.ntmps22
  go_wp2_with fail
  refine (valid_any [a, b] _ _ (RdB_two (by simp [go_sem]) (by simp [go_sem]) (by simp [go_sem]) (by simp [go_sem]) (by simp))).mono ?_
  rintro e w1 ⟨rfl, hb1⟩
  obtain ⟨p1, p2, p3, p4, p5⟩ := B2.after (g := w.heap.size) (x := .int .i64 a.n) (y := .int .i64 a.d) hb1 (by simp [B2, go_sem]) (by first | omega | (simp; done) | (simp; omega))
  obtain ⟨q1, q2, q3, q4, q5⟩ := B2.after (g := w.heap.size + 1) (x := .int .i64 b.n) (y := .int .i64 b.d) hb1 (by simp [B2, go_sem]) (by first | omega | (simp; done) | (simp; omega))
  obtain ⟨k1, k2, k3, k4, k5⟩ := B2.after (g := w.heap.size + 1 + 1) (x := .int .i64 0) (y := .int .i64 0) hb1 (by simp [B2, go_sem]) (by first | omega | (simp; done) | (simp; omega))
  have HB : Hid (Below w.heap.size w w1) := Lib.hid (by refine Below.step ?_ hb1 (by first | omega | (simp; done) | (simp; omega)); (repeat (first | exact Below.refl _ _ | assumption | refine Below.setCell ?_ (by first | omega | (simp; done) | (simp; omega)) _ | refine Below.alloc ?_ (by first | omega | (simp; done) | (simp; omega)) _ | refine Below.drew ?_ | refine below_drewN ?_ _)))
  clear hb1
  cases hv : a.okB && b.okB with
  | false =>
    have hv' : [a, b].all Fr.okB = false := by simpa using hv
    have HV := Lib.hid hv
    clear hv
    go_wp2
    refine bodyPost_ret (v := .tuple #[.agg #[.int .i64 0, .int .i64 0], .int .i64 1]) (by simp [results, Try.results22, go_sem, k1, k2]) rfl (HR.out _ _ ⟨?_, ?_⟩)
    · simp [subE, HV.out, FE.err]
    · have := HB.out; (repeat (first | exact Below.refl _ _ | assumption | refine Below.setCell ?_ (by first | omega | (simp; done) | (simp; omega)) _ | refine Below.alloc ?_ (by first | omega | (simp; done) | (simp; omega)) _ | refine Below.drew ?_ | refine below_drewN ?_ _))
  | true =>
    have hv' : [a, b].all Fr.okB = true := by simpa using hv
    have HV := Lib.hid hv
    have hv2 : a.ok ∧ b.ok := by simpa [Fr.okB] using hv
    obtain ⟨hva, hvb⟩ := hv2
    have ⟨a1, a2, a3, a4, _⟩ := hva
    have ⟨b1, b2, b3, b4, _⟩ := hvb
    clear hv
    have HS : Hid (addE a (fneg b) = subE a b) := Lib.hid (by simp [addE, subE, fsub, Fr.okB_of hva, Fr.okB_of hvb, Fr.okB_of (fneg_ok hvb)])
    clear hva hvb
    go_wp2_with fail
    refine (add_any a (fneg b) _).mono ?_
    rintro e w3 ⟨rfl, hb3⟩
    obtain ⟨g1, g2, g3, g4, g5⟩ := B2.after (g := w.heap.size + 1 + 1) (x := .int .i64 0) (y := .int .i64 0) hb3 (by simp [B2, go_sem, k1, k2, k3, k4, k5]) (by first | omega | (simp; done) | (simp; omega))
    have HB3 : Hid (Below w.heap.size w w3) := Lib.hid (by refine Below.step ?_ hb3 (by simp; omega); have := HB.out; (repeat (first | exact Below.refl _ _ | assumption | refine Below.setCell ?_ (by first | omega | (simp; done) | (simp; omega)) _ | refine Below.alloc ?_ (by first | omega | (simp; done) | (simp; omega)) _ | refine Below.drew ?_ | refine below_drewN ?_ _)))
    clear hb3
    go_wp2
    refine bodyPost_ret (v := .tuple #[.agg #[.int .i64 (addE a (fneg b)).n, .int .i64 (addE a (fneg b)).d], .int .i64 (addE a (fneg b)).e]) (by simp [results, Try.results22, go_sem, g1, g2]) rfl (HR.out _ _ ⟨?_, ?_⟩)
    · rw [HS.out]
    · have := HB3.out; (repeat (first | exact Below.refl _ _ | assumption | refine Below.setCell ?_ (by first | omega | (simp; done) | (simp; omega)) _ | refine Below.alloc ?_ (by first | omega | (simp; done) | (simp; omega)) _ | refine Below.drew ?_ | refine below_drewN ?_ _))

set_option maxHeartbeats 4000000 in
theorem mul_any (a b : Fr) (w : World) :
    Calls Try.prog 23 #[.agg #[.int .i64 (a).n, .int .i64 (a).d], .agg #[.int .i64 (b).n, .int .i64 (b).d]] w fun e w' =>
      e = .returned (.tuple #[.agg #[.int .i64 (mulE a b).n, .int .i64 (mulE a b).d], .int .i64 (mulE a b).e]) ∧ Below w.heap.size w w' := by
  refine calls_cps fun R hR => ?_
  have HR := Lib.hid hR
  clear hR
  go_enter Try.func23, Try.ntmps23
  go_wp2_with fail
  refine (valid_any [a, b] _ _ (RdB_two (by simp [go_sem]) (by simp [go_sem]) (by simp [go_sem]) (by simp [go_sem]) (by simp))).mono ?_
  rintro e w1 ⟨rfl, hb1⟩
  obtain ⟨p1, p2, p3, p4, p5⟩ := B2.after (g := w.heap.size) (x := .int .i64 a.n) (y := .int .i64 a.d) hb1 (by simp [B2, go_sem]) (by first | omega | (simp; done) | (simp; omega))
  obtain ⟨q1, q2, q3, q4, q5⟩ := B2.after (g := w.heap.size + 1) (x := .int .i64 b.n) (y := .int .i64 b.d) hb1 (by simp [B2, go_sem]) (by first | omega | (simp; done) | (simp; omega))
  obtain ⟨k1, k2, k3, k4, k5⟩ := B2.after (g := w.heap.size + 1 + 1) (x := .int .i64 0) (y := .int .i64 0) hb1 (by simp [B2, go_sem]) (by first | omega | (simp; done) | (simp; omega))
  have HB : Hid (Below w.heap.size w w1) := Lib.hid (by refine Below.step ?_ hb1 (by first | omega | (simp; done) | (simp; omega)); (repeat (first | exact Below.refl _ _ | assumption | refine Below.setCell ?_ (by first | omega | (simp; done) | (simp; omega)) _ | refine Below.alloc ?_ (by first | omega | (simp; done) | (simp; omega)) _ | refine Below.drew ?_ | refine below_drewN ?_ _)))
  clear hb1
  cases hv : a.okB && b.okB with
  | false =>
    have hv' : [a, b].all Fr.okB = false := by simpa using hv
    have HV := Lib.hid hv
    clear hv
    go_wp2
    refine bodyPost_ret (v := .tuple #[.agg #[.int .i64 0, .int .i64 0], .int .i64 1]) (by simp [results, Try.results23, go_sem, k1, k2]) rfl (HR.out _ _ ⟨?_, ?_⟩)
    · simp [mulE, HV.out, FE.err]
    · have := HB.out; (repeat (first | exact Below.refl _ _ | assumption | refine Below.setCell ?_ (by first | omega | (simp; done) | (simp; omega)) _ | refine Below.alloc ?_ (by first | omega | (simp; done) | (simp; omega)) _ | refine Below.drew ?_ | refine below_drewN ?_ _))
  | true =>
    have hv' : [a, b].all Fr.okB = true := by simpa using hv
    have HV := Lib.hid hv
    have hv2 : a.ok ∧ b.ok := by simpa [Fr.okB] using hv
    obtain ⟨hva, hvb⟩ := hv2
    have ⟨a1, a2, a3, a4, _⟩ := hva
    have ⟨b1, b2, b3, b4, _⟩ := hvb
    clear hv
    have bm := mul_bd (a.n.natAbs : Int) (b.n.natAbs : Int) (by omega) (by omega) (by omega) (by omega)
    have bm0 : 0 ≤ (a.n.natAbs : Int) * (b.n.natAbs : Int) := Int.mul_nonneg (by omega) (by omega)
    have bz := mul_bd a.d b.d (by omega) a4 (by omega) b4
    have bz2 : 0 < a.d * b.d := Int.mul_pos (by omega) (by omega)
    have HM : Hid ((if (decide (a.n < 0) != decide (b.n < 0)) then -((a.n.natAbs : Int) * (b.n.natAbs : Int)) else (a.n.natAbs : Int) * (b.n.natAbs : Int)) = a.n * b.n) := Lib.hid (sign_mul a.n b.n)
    obtain ⟨m, hm⟩ : ∃ m, (a.n.natAbs : Int) * (b.n.natAbs : Int) = m := ⟨_, rfl⟩
    obtain ⟨z, hz⟩ : ∃ z, a.d * b.d = z := ⟨_, rfl⟩
    rw [hm] at bm bm0 HM
    rw [hz] at bz bz2
    have wm : IntKind.u64.wrap ((a.n.natAbs : Int) * (b.n.natAbs : Int)) = m := by rw [hm, IntKind.wrap_u64]; omega
    have wz : IntKind.u64.wrap (a.d * b.d) = z := by rw [hz, IntKind.wrap_u64]; omega
    have wa : IntKind.u64.wrap a.d = a.d := by rw [IntKind.wrap_u64]; omega
    have wb : IntKind.u64.wrap b.d = b.d := by rw [IntKind.wrap_u64]; omega
    have HZ := Lib.hid hz
    clear hm hz hva hvb
    go_wp2
    go_region_held3 (fun W => W.cell? ⟨w.heap.size, 0, none⟩ = some (.int .i64 a.n) ∧ W.cell? ⟨w.heap.size, 1, none⟩ = some (.int .i64 a.d) ∧ W.cell? ⟨w.heap.size + 1, 0, none⟩ = some (.int .i64 b.n) ∧ W.cell? ⟨w.heap.size + 1, 1, none⟩ = some (.int .i64 b.d)) (first | exact ⟨p1, p2, q1, q2⟩ | assumption | exact ⟨x1, x2, y1, y2⟩ | exact ⟨cell_set2 x1 (by omega), cell_set2 x2 (by omega), cell_set2 y1 (by omega), cell_set2 y2 (by omega)⟩)
      (first | (go_at_call 59; refine (abs_any _ _ (by omega) (by omega)).mono ?_; rintro e w' ⟨rfl, rfl⟩) | (go_at_call 58; refine (fit_int _ _ _ (a.n * b.n) _ (by omega) (by omega) (by omega) (by omega) HM.out).mono ?_; rintro e w3 ⟨rfl, hb3⟩; obtain ⟨x1, x2, x3, x4, x5⟩ := B2.after hb3 (g := w.heap.size) ⟨p1, p2, p3, p4, p5⟩ (by simp; omega); obtain ⟨y1, y2, y3, y4, y5⟩ := B2.after hb3 (g := w.heap.size + 1) ⟨q1, q2, q3, q4, q5⟩ (by simp; omega); obtain ⟨z1, z2, z3, z4, z5⟩ := B2.after hb3 (g := w.heap.size + 1 + 1) ⟨k1, k2, k3, k4, k5⟩ (by simp; omega); have HB3 := Lib.hid (Below.step HB.out.drew hb3 (by simp; omega)); clear hb3))
    go_wp2
    refine bodyPost_ret (v := .tuple #[.agg #[.int .i64 (FE.of (mkF (a.n * b.n) z)).n, .int .i64 (FE.of (mkF (a.n * b.n) z)).d], .int .i64 (FE.of (mkF (a.n * b.n) z)).e]) (by simp [results, Try.results23, go_sem, z1, z2]) rfl (HR.out _ _ ⟨?_, ?_⟩)
    · simp [mulE, HV.out, fmul, HZ.out]
    · have := HB3.out; (repeat (first | exact Below.refl _ _ | assumption | refine Below.setCell ?_ (by first | omega | (simp; done) | (simp; omega)) _ | refine Below.alloc ?_ (by first | omega | (simp; done) | (simp; omega)) _ | refine Below.drew ?_ | refine below_drewN ?_ _))

set_option maxHeartbeats 4000000 in
theorem div_any (a b : Fr) (w : World) :
    Calls Try.prog 54 #[.agg #[.int .i64 (a).n, .int .i64 (a).d], .agg #[.int .i64 (b).n, .int .i64 (b).d]] w fun e w' =>
      e = .returned (.tuple #[.agg #[.int .i64 (divE a b).n, .int .i64 (divE a b).d], .int .i64 (divE a b).e]) ∧ Below w.heap.size w w' := by
  refine calls_cps fun R hR => ?_
  have HR := Lib.hid hR
  clear hR
  go_enter Try.func54, Try.ntmps54
  go_wp2_with fail
  refine (valid_any [a, b] _ _ (RdB_two (by simp [go_sem]) (by simp [go_sem]) (by simp [go_sem]) (by simp [go_sem]) (by simp))).mono ?_
  rintro e w1 ⟨rfl, hb1⟩
  obtain ⟨p1, p2, p3, p4, p5⟩ := B2.after (g := w.heap.size) (x := .int .i64 a.n) (y := .int .i64 a.d) hb1 (by simp [B2, go_sem]) (by first | omega | (simp; done) | (simp; omega))
  obtain ⟨q1, q2, q3, q4, q5⟩ := B2.after (g := w.heap.size + 1) (x := .int .i64 b.n) (y := .int .i64 b.d) hb1 (by simp [B2, go_sem]) (by first | omega | (simp; done) | (simp; omega))
  obtain ⟨k1, k2, k3, k4, k5⟩ := B2.after (g := w.heap.size + 1 + 1) (x := .int .i64 0) (y := .int .i64 0) hb1 (by simp [B2, go_sem]) (by first | omega | (simp; done) | (simp; omega))
  have HB : Hid (Below w.heap.size w w1) := Lib.hid (by refine Below.step ?_ hb1 (by first | omega | (simp; done) | (simp; omega)); (repeat (first | exact Below.refl _ _ | assumption | refine Below.setCell ?_ (by first | omega | (simp; done) | (simp; omega)) _ | refine Below.alloc ?_ (by first | omega | (simp; done) | (simp; omega)) _ | refine Below.drew ?_ | refine below_drewN ?_ _)))
  clear hb1
  cases hv : a.okB && b.okB with
  | false =>
    have hv' : [a, b].all Fr.okB = false := by simpa using hv
    have HV := Lib.hid hv
    clear hv
    go_wp2
    refine bodyPost_ret (v := .tuple #[.agg #[.int .i64 0, .int .i64 0], .int .i64 1]) (by simp [results, Try.results54, go_sem, k1, k2]) rfl (HR.out _ _ ⟨?_, ?_⟩)
    · simp [divE, HV.out, FE.err]
    · have := HB.out; (repeat (first | exact Below.refl _ _ | assumption | refine Below.setCell ?_ (by first | omega | (simp; done) | (simp; omega)) _ | refine Below.alloc ?_ (by first | omega | (simp; done) | (simp; omega)) _ | refine Below.drew ?_ | refine below_drewN ?_ _))
  | true =>
    have hv' : [a, b].all Fr.okB = true := by simpa using hv
    have HV := Lib.hid hv
    have hv2 : a.ok ∧ b.ok := by simpa [Fr.okB] using hv
    obtain ⟨hva, hvb⟩ := hv2
    have ⟨a1, a2, a3, a4, _⟩ := hva
    have ⟨b1, b2, b3, b4, _⟩ := hvb
    clear hv
    by_cases hz0 : b.n = 0
    · have hz1 : (b.n == 0) = true := by simpa using hz0
      have HZ0 := Lib.hid hz0
      clear hz0
      go_wp2
      refine bodyPost_ret (v := .tuple #[.agg #[.int .i64 0, .int .i64 0], .int .i64 7]) (by simp [results, Try.results54, go_sem, k1, k2]) rfl (HR.out _ _ ⟨?_, ?_⟩)
      · simp [divE, HV.out, FE.err, HZ0.out]
      · have := HB.out; (repeat (first | exact Below.refl _ _ | assumption | refine Below.setCell ?_ (by first | omega | (simp; done) | (simp; omega)) _ | refine Below.alloc ?_ (by first | omega | (simp; done) | (simp; omega)) _ | refine Below.drew ?_ | refine below_drewN ?_ _))
    have hz1 : (b.n == 0) = false := by simpa using hz0
    have bm := mul_bd (a.n.natAbs : Int) b.d (by omega) (by omega) (by omega) (by omega)
    have bm0 : 0 ≤ (a.n.natAbs : Int) * b.d := Int.mul_nonneg (by omega) (by omega)
    have bz := mul_bd a.d (b.n.natAbs : Int) (by omega) a4 (by omega) (by omega)
    have bz2 : 0 < a.d * (b.n.natAbs : Int) := Int.mul_pos (by omega) (by omega)
    obtain ⟨nn, hnn⟩ : ∃ nn, (if (decide (a.n < 0) != decide (b.n < 0)) then -((a.n.natAbs : Int) * b.d) else (a.n.natAbs : Int) * b.d) = nn := ⟨_, rfl⟩
    have HD := Lib.hid (fdiv_sign a b nn hnn)
    have HM := Lib.hid hnn
    obtain ⟨m, hm⟩ : ∃ m, (a.n.natAbs : Int) * b.d = m := ⟨_, rfl⟩
    obtain ⟨z, hz⟩ : ∃ z, a.d * (b.n.natAbs : Int) = z := ⟨_, rfl⟩
    rw [hm] at bm bm0 HM
    rw [hz] at bz bz2 HD
    have wm : IntKind.u64.wrap ((a.n.natAbs : Int) * b.d) = m := by rw [hm, IntKind.wrap_u64]; omega
    have wz : IntKind.u64.wrap (a.d * (b.n.natAbs : Int)) = z := by rw [hz, IntKind.wrap_u64]; omega
    have wa : IntKind.u64.wrap a.d = a.d := by rw [IntKind.wrap_u64]; omega
    have wb : IntKind.u64.wrap b.d = b.d := by rw [IntKind.wrap_u64]; omega
    have HZ0 := Lib.hid hz0
    clear hm hz hva hvb hnn hz0
    go_wp2
    go_region_held3 (fun W => W.cell? ⟨w.heap.size, 0, none⟩ = some (.int .i64 a.n) ∧ W.cell? ⟨w.heap.size, 1, none⟩ = some (.int .i64 a.d) ∧ W.cell? ⟨w.heap.size + 1, 0, none⟩ = some (.int .i64 b.n) ∧ W.cell? ⟨w.heap.size + 1, 1, none⟩ = some (.int .i64 b.d)) (first | exact ⟨p1, p2, q1, q2⟩ | assumption | exact ⟨x1, x2, y1, y2⟩ | exact ⟨cell_set2 x1 (by omega), cell_set2 x2 (by omega), cell_set2 y1 (by omega), cell_set2 y2 (by omega)⟩)
      (first | (go_at_call 59; refine (abs_any _ _ (by omega) (by omega)).mono ?_; rintro e w' ⟨rfl, rfl⟩) | (go_at_call 58; refine (fit_int _ _ _ (nn) _ (by omega) (by omega) (by omega) (by omega) HM.out).mono ?_; rintro e w3 ⟨rfl, hb3⟩; obtain ⟨x1, x2, x3, x4, x5⟩ := B2.after hb3 (g := w.heap.size) ⟨p1, p2, p3, p4, p5⟩ (by simp; omega); obtain ⟨y1, y2, y3, y4, y5⟩ := B2.after hb3 (g := w.heap.size + 1) ⟨q1, q2, q3, q4, q5⟩ (by simp; omega); obtain ⟨z1, z2, z3, z4, z5⟩ := B2.after hb3 (g := w.heap.size + 1 + 1) ⟨k1, k2, k3, k4, k5⟩ (by simp; omega); have HB3 := Lib.hid (Below.step HB.out.drew hb3 (by simp; omega)); clear hb3))
    go_wp2
    refine bodyPost_ret (v := .tuple #[.agg #[.int .i64 (FE.of (mkF (nn) z)).n, .int .i64 (FE.of (mkF (nn) z)).d], .int .i64 (FE.of (mkF (nn) z)).e]) (by simp [results, Try.results54, go_sem, z1, z2]) rfl (HR.out _ _ ⟨?_, ?_⟩)
    · simp [divE, HV.out, HD.out, HZ0.out]
    · have := HB3.out; (repeat (first | exact Below.refl _ _ | assumption | refine Below.setCell ?_ (by first | omega | (simp; done) | (simp; omega)) _ | refine Below.alloc ?_ (by first | omega | (simp; done) | (simp; omega)) _ | refine Below.drew ?_ | refine below_drewN ?_ _))

set_option maxHeartbeats 4000000 in
theorem cmp_any (a b : Fr) (w : World) :
    Calls Try.prog 31 #[.agg #[.int .i64 (a).n, .int .i64 (a).d], .agg #[.int .i64 (b).n, .int .i64 (b).d]] w fun e w' =>
      e = .returned (.tuple #[.int .i64 (if a.okB && b.okB then cmpN a b else 0), .int .i64 (if a.okB && b.okB then 0 else 1)]) ∧ Below w.heap.size w w' := by
  refine calls_cps fun R hR => ?_
  have HR := Lib.hid hR
  clear hR
  go_enter Try.func31, Try.ntmps31
  go_wp2_with fail
  refine (valid_any [a, b] _ _ (RdB_two (by simp [go_sem]) (by simp [go_sem]) (by simp [go_sem]) (by simp [go_sem]) (by simp))).mono ?_
  rintro e w1 ⟨rfl, hb1⟩
  obtain ⟨p1, p2, p3, p4, p5⟩ := B2.after (g := w.heap.size) (x := .int .i64 a.n) (y := .int .i64 a.d) hb1 (by simp [B2, go_sem]) (by first | omega | (simp; done) | (simp; omega))
  obtain ⟨q1, q2, q3, q4, q5⟩ := B2.after (g := w.heap.size + 1) (x := .int .i64 b.n) (y := .int .i64 b.d) hb1 (by simp [B2, go_sem]) (by first | omega | (simp; done) | (simp; omega))
  have HB : Hid (Below w.heap.size w w1) := Lib.hid (by refine Below.step ?_ hb1 (by first | omega | (simp; done) | (simp; omega)); (repeat (first | exact Below.refl _ _ | assumption | refine Below.setCell ?_ (by first | omega | (simp; done) | (simp; omega)) _ | refine Below.alloc ?_ (by first | omega | (simp; done) | (simp; omega)) _ | refine Below.drew ?_ | refine below_drewN ?_ _)))
  clear hb1
  cases hv : a.okB && b.okB with
  | false =>
    have hv' : [a, b].all Fr.okB = false := by simpa using hv
    have HV := Lib.hid hv
    clear hv
    go_wp2
    refine HR.out _ _ ⟨?_, HB.out⟩
    simp [HV.out]
  | true =>
    have hv' : [a, b].all Fr.okB = true := by simpa using hv
    have HV := Lib.hid hv
    have hv2 : a.ok ∧ b.ok := by simpa [Fr.okB] using hv
    obtain ⟨hva, hvb⟩ := hv2
    have ⟨a1, a2, a3, a4, _⟩ := hva
    have ⟨b1, b2, b3, b4, _⟩ := hvb
    clear hv
    have bx := mul_bd a.n b.d a1 a2 (by omega) (by omega)
    have bY := mul_bd b.n a.d b1 b2 (by omega) (by omega)
    have HC : Hid (cmpN a b = if a.n * b.d < b.n * a.d then -1 else if a.n * b.d > b.n * a.d then 1 else 0) := Lib.hid rfl
    obtain ⟨x, hx⟩ : ∃ x, a.n * b.d = x := ⟨_, rfl⟩
    obtain ⟨y, hy⟩ : ∃ y, b.n * a.d = y := ⟨_, rfl⟩
    rw [hx] at bx HC
    rw [hy] at bY HC
    clear hva hvb
    go_wp2
    go_quiet (fail)
    clear hx hy
    rcases Int.lt_trichotomy x y with h | h | h
    · have HCV : Hid (cmpN a b = -1) := Lib.hid (by rw [HC.out, if_pos h])
      go_wp2
      exact HR.out _ _ ⟨by rw [HCV.out, HV.out]; rfl, below_drewN HB.out _⟩
    · subst h
      have HCV : Hid (cmpN a b = 0) := Lib.hid (by rw [HC.out, if_neg (by omega), if_neg (by omega)])
      go_wp2
      exact HR.out _ _ ⟨by rw [HCV.out, HV.out]; rfl, below_drewN HB.out _⟩
    · have HCV : Hid (cmpN a b = 1) := Lib.hid (by rw [HC.out, if_neg (by omega), if_pos h])
      go_wp2
      exact HR.out _ _ ⟨by rw [HCV.out, HV.out]; rfl, below_drewN HB.out _⟩

end Go.Proofs.Ythlgkomhnhkooaa
