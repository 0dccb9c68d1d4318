/-
  Texts joined: Frac4, Ref01a, Ref01b, FrA, AwW. Conditions: none.
-/
import Derived.Test.YtcpnffjnagbkoaaJP4
import Derived.Test.YtcpnffjnagbkoaaJP1
import Derived.Test.YtcpnffjnagbkoaaJP3
section
namespace Go.Proofs.Ytcpnffjnagbkoaa
set_option linter.unusedSimpArgs false
set_option linter.unusedVariables false
open Go.RowKit

set_option maxHeartbeats 2000000 in
theorem sub_any (a b : Fr) (w : World) :
    Calls Try.prog 86 #[.agg #[.int .i64 (a).n, .int .i64 (a).d], .agg #[.int .i64 (b).n, .int .i64 (b).d]] w fun e w' =>
      e = .returned (.tuple #[.agg #[.int .i64 (subE a b).n, .int .i64 (subE a b).d], .int .i64 (subE a b).e]) ∧ Below w.heap.size w w' := by
  refine calls_cps fun R hR => ?_
  have HR := Lib.hid hR
  clear hR
  go_enter Try.func86, Try.ntmps86
  go_wp2_with fail
  refine (valid_any [a, b] _ _ (RdB_two (by simp [go_sem]) (by simp [go_sem]) (by simp [go_sem]) (by simp [go_sem]) (by simp))).mono ?_
  rintro e w1 ⟨rfl, hb1⟩
  obtain ⟨p1, p2, p3, p4, p5⟩ := B2.after (g := w.heap.size) (x := .int .i64 a.n) (y := .int .i64 a.d) hb1 (by simp [B2, go_sem]) (by first | omega | (simp; done) | (simp; omega))
  obtain ⟨q1, q2, q3, q4, q5⟩ := B2.after (g := w.heap.size + 1) (x := .int .i64 b.n) (y := .int .i64 b.d) hb1 (by simp [B2, go_sem]) (by first | omega | (simp; done) | (simp; omega))
  obtain ⟨k1, k2, k3, k4, k5⟩ := B2.after (g := w.heap.size + 1 + 1) (x := .int .i64 0) (y := .int .i64 0) hb1 (by simp [B2, go_sem]) (by first | omega | (simp; done) | (simp; omega))
  have HB : Hid (Below w.heap.size w w1) := Lib.hid (by refine Below.step ?_ hb1 (by first | omega | (simp; done) | (simp; omega)); (repeat (first | exact Below.refl _ _ | assumption | refine Below.setCell ?_ (by first | omega | (simp; done) | (simp; omega)) _ | refine Below.alloc ?_ (by first | omega | (simp; done) | (simp; omega)) _ | refine Below.drew ?_ | refine below_drewN ?_ _)))
  clear hb1
  cases hv : a.okB && b.okB with
  | false =>
    have hv' : [a, b].all Fr.okB = false := by simpa using hv
    have HV := Lib.hid hv
    clear hv
    go_wp2
    refine bodyPost_ret (v := .tuple #[.agg #[.int .i64 0, .int .i64 0], .int .i64 1]) (by simp [results, Try.results86, go_sem, k1, k2]) rfl (HR.out _ _ ⟨?_, ?_⟩)
    · simp [subE, HV.out, FE.err]
    · have := HB.out; (repeat (first | exact Below.refl _ _ | assumption | refine Below.setCell ?_ (by first | omega | (simp; done) | (simp; omega)) _ | refine Below.alloc ?_ (by first | omega | (simp; done) | (simp; omega)) _ | refine Below.drew ?_ | refine below_drewN ?_ _))
  | true =>
    have hv' : [a, b].all Fr.okB = true := by simpa using hv
    have HV := Lib.hid hv
    have hv2 : a.ok ∧ b.ok := by simpa [Fr.okB] using hv
    obtain ⟨hva, hvb⟩ := hv2
    have ⟨a1, a2, a3, a4, _⟩ := hva
    have ⟨b1, b2, b3, b4, _⟩ := hvb
    clear hv
    have HS : Hid (addE a (fneg b) = subE a b) := Lib.hid (by simp [addE, subE, fsub, Fr.okB_of hva, Fr.okB_of hvb, Fr.okB_of (fneg_ok hvb)])
    clear hva hvb
    go_wp2_with fail
    refine (add_any a (fneg b) _).mono ?_
    rintro e w3 ⟨rfl, hb3⟩
    obtain ⟨g1, g2, g3, g4, g5⟩ := B2.after (g := w.heap.size + 1 + 1) (x := .int .i64 0) (y := .int .i64 0) hb3 (by simp [B2, go_sem, k1, k2, k3, k4, k5]) (by first | omega | (simp; done) | (simp; omega))
    have HB3 : Hid (Below w.heap.size w w3) := Lib.hid (by refine Below.step ?_ hb3 (by simp; omega); have := HB.out; (repeat (first | exact Below.refl _ _ | assumption | refine Below.setCell ?_ (by first | omega | (simp; done) | (simp; omega)) _ | refine Below.alloc ?_ (by first | omega | (simp; done) | (simp; omega)) _ | refine Below.drew ?_ | refine below_drewN ?_ _)))
    clear hb3
    go_wp2
    refine bodyPost_ret (v := .tuple #[.agg #[.int .i64 (addE a (fneg b)).n, .int .i64 (addE a (fneg b)).d], .int .i64 (addE a (fneg b)).e]) (by simp [results, Try.results86, go_sem, g1, g2]) rfl (HR.out _ _ ⟨?_, ?_⟩)
    · rw [HS.out]
    · have := HB3.out; (repeat (first | exact Below.refl _ _ | assumption | refine Below.setCell ?_ (by first | omega | (simp; done) | (simp; omega)) _ | refine Below.alloc ?_ (by first | omega | (simp; done) | (simp; omega)) _ | refine Below.drew ?_ | refine below_drewN ?_ _))

set_option maxHeartbeats 4000000 in
theorem mul_any (a b : Fr) (w : World) :
    Calls Try.prog 51 #[.agg #[.int .i64 (a).n, .int .i64 (a).d], .agg #[.int .i64 (b).n, .int .i64 (b).d]] w fun e w' =>
      e = .returned (.tuple #[.agg #[.int .i64 (mulE a b).n, .int .i64 (mulE a b).d], .int .i64 (mulE a b).e]) ∧ Below w.heap.size w w' := by
  refine calls_cps fun R hR => ?_
  have HR := Lib.hid hR
  clear hR
  go_enter Try.func51, Try.ntmps51
  go_wp2_with fail
  refine (valid_any [a, b] _ _ (RdB_two (by simp [go_sem]) (by simp [go_sem]) (by simp [go_sem]) (by simp [go_sem]) (by simp))).mono ?_
  rintro e w1 ⟨rfl, hb1⟩
  obtain ⟨p1, p2, p3, p4, p5⟩ := B2.after (g := w.heap.size) (x := .int .i64 a.n) (y := .int .i64 a.d) hb1 (by simp [B2, go_sem]) (by first | omega | (simp; done) | (simp; omega))
  obtain ⟨q1, q2, q3, q4, q5⟩ := B2.after (g := w.heap.size + 1) (x := .int .i64 b.n) (y := .int .i64 b.d) hb1 (by simp [B2, go_sem]) (by first | omega | (simp; done) | (simp; omega))
  obtain ⟨k1, k2, k3, k4, k5⟩ := B2.after (g := w.heap.size + 1 + 1) (x := .int .i64 0) (y := .int .i64 0) hb1 (by simp [B2, go_sem]) (by first | omega | (simp; done) | (simp; omega))
  have HB : Hid (Below w.heap.size w w1) := Lib.hid (by refine Below.step ?_ hb1 (by first | omega | (simp; done) | (simp; omega)); (repeat (first | exact Below.refl _ _ | assumption | refine Below.setCell ?_ (by first | omega | (simp; done) | (simp; omega)) _ | refine Below.alloc ?_ (by first | omega | (simp; done) | (simp; omega)) _ | refine Below.drew ?_ | refine below_drewN ?_ _)))
  clear hb1
  cases hv : a.okB && b.okB with
  | false =>
    have hv' : [a, b].all Fr.okB = false := by simpa using hv
    have HV := Lib.hid hv
    clear hv
    go_wp2
    refine bodyPost_ret (v := .tuple #[.agg #[.int .i64 0, .int .i64 0], .int .i64 1]) (by simp [results, Try.results51, go_sem, k1, k2]) rfl (HR.out _ _ ⟨?_, ?_⟩)
    · simp [mulE, HV.out, FE.err]
    · have := HB.out; (repeat (first | exact Below.refl _ _ | assumption | refine Below.setCell ?_ (by first | omega | (simp; done) | (simp; omega)) _ | refine Below.alloc ?_ (by first | omega | (simp; done) | (simp; omega)) _ | refine Below.drew ?_ | refine below_drewN ?_ _))
  | true =>
    have hv' : [a, b].all Fr.okB = true := by simpa using hv
    have HV := Lib.hid hv
    have hv2 : a.ok ∧ b.ok := by simpa [Fr.okB] using hv
    obtain ⟨hva, hvb⟩ := hv2
    have ⟨a1, a2, a3, a4, _⟩ := hva
    have ⟨b1, b2, b3, b4, _⟩ := hvb
    clear hv
    have bm := mul_bd (a.n.natAbs : Int) (b.n.natAbs : Int) (by omega) (by omega) (by omega) (by omega)
    have bm0 : 0 ≤ (a.n.natAbs : Int) * (b.n.natAbs : Int) := Int.mul_nonneg (by omega) (by omega)
    have bz := mul_bd a.d b.d (by omega) a4 (by omega) b4
    have bz2 : 0 < a.d * b.d := Int.mul_pos (by omega) (by omega)
    have HM : Hid ((if (decide (a.n < 0) != decide (b.n < 0)) then -((a.n.natAbs : Int) * (b.n.natAbs : Int)) else (a.n.natAbs : Int) * (b.n.natAbs : Int)) = a.n * b.n) := Lib.hid (sign_mul a.n b.n)
    obtain ⟨m, hm⟩ : ∃ m, (a.n.natAbs : Int) * (b.n.natAbs : Int) = m := ⟨_, rfl⟩
    obtain ⟨z, hz⟩ : ∃ z, a.d * b.d = z := ⟨_, rfl⟩
    rw [hm] at bm bm0 HM
    rw [hz] at bz bz2
    have wm : IntKind.u64.wrap ((a.n.natAbs : Int) * (b.n.natAbs : Int)) = m := by rw [hm, IntKind.wrap_u64]; omega
    have wz : IntKind.u64.wrap (a.d * b.d) = z := by rw [hz, IntKind.wrap_u64]; omega
    have wa : IntKind.u64.wrap a.d = a.d := by rw [IntKind.wrap_u64]; omega
    have wb : IntKind.u64.wrap b.d = b.d := by rw [IntKind.wrap_u64]; omega
    have HZ := Lib.hid hz
    clear hm hz hva hvb
    go_wp2
    go_region_held3 (fun W => W.cell? ⟨w.heap.size, 0, none⟩ = some (.int .i64 a.n) ∧ W.cell? ⟨w.heap.size, 1, none⟩ = some (.int .i64 a.d) ∧ W.cell? ⟨w.heap.size + 1, 0, none⟩ = some (.int .i64 b.n) ∧ W.cell? ⟨w.heap.size + 1, 1, none⟩ = some (.int .i64 b.d)) (first | exact ⟨p1, p2, q1, q2⟩ | assumption | exact ⟨x1, x2, y1, y2⟩ | exact ⟨cell_set2 x1 (by omega), cell_set2 x2 (by omega), cell_set2 y1 (by omega), cell_set2 y2 (by omega)⟩)
      (first | (go_at_call 77; refine (abs_any _ _ (by omega) (by omega)).mono ?_; rintro e w' ⟨rfl, rfl⟩) | (go_at_call 76; refine (fit_int _ _ _ (a.n * b.n) _ (by omega) (by omega) (by omega) (by omega) HM.out).mono ?_; rintro e w3 ⟨rfl, hb3⟩; obtain ⟨x1, x2, x3, x4, x5⟩ := B2.after hb3 (g := w.heap.size) ⟨p1, p2, p3, p4, p5⟩ (by simp; omega); obtain ⟨y1, y2, y3, y4, y5⟩ := B2.after hb3 (g := w.heap.size + 1) ⟨q1, q2, q3, q4, q5⟩ (by simp; omega); obtain ⟨z1, z2, z3, z4, z5⟩ := B2.after hb3 (g := w.heap.size + 1 + 1) ⟨k1, k2, k3, k4, k5⟩ (by simp; omega); have HB3 := Lib.hid (Below.step HB.out.drew hb3 (by simp; omega)); clear hb3))
    go_wp2
    refine bodyPost_ret (v := .tuple #[.agg #[.int .i64 (FE.of (mkF (a.n * b.n) z)).n, .int .i64 (FE.of (mkF (a.n * b.n) z)).d], .int .i64 (FE.of (mkF (a.n * b.n) z)).e]) (by simp [results, Try.results51, go_sem, z1, z2]) rfl (HR.out _ _ ⟨?_, ?_⟩)
    · simp [mulE, HV.out, fmul, HZ.out]
    · have := HB3.out; (repeat (first | exact Below.refl _ _ | assumption | refine Below.setCell ?_ (by first | omega | (simp; done) | (simp; omega)) _ | refine Below.alloc ?_ (by first | omega | (simp; done) | (simp; omega)) _ | refine Below.drew ?_ | refine below_drewN ?_ _))

set_option maxHeartbeats 4000000 in
theorem div_any (a b : Fr) (w : World) :
    Calls Try.prog 87 #[.agg #[.int .i64 (a).n, .int .i64 (a).d], .agg #[.int .i64 (b).n, .int .i64 (b).d]] w fun e w' =>
      e = .returned (.tuple #[.agg #[.int .i64 (divE a b).n, .int .i64 (divE a b).d], .int .i64 (divE a b).e]) ∧ Below w.heap.size w w' := by
  refine calls_cps fun R hR => ?_
  have HR := Lib.hid hR
  clear hR
  go_enter Try.func87, Try.ntmps87
  go_wp2_with fail
  refine (valid_any [a, b] _ _ (RdB_two (by simp [go_sem]) (by simp [go_sem]) (by simp [go_sem]) (by simp [go_sem]) (by simp))).mono ?_
  rintro e w1 ⟨rfl, hb1⟩
  obtain ⟨p1, p2, p3, p4, p5⟩ := B2.after (g := w.heap.size) (x := .int .i64 a.n) (y := .int .i64 a.d) hb1 (by simp [B2, go_sem]) (by first | omega | (simp; done) | (simp; omega))
  obtain ⟨q1, q2, q3, q4, q5⟩ := B2.after (g := w.heap.size + 1) (x := .int .i64 b.n) (y := .int .i64 b.d) hb1 (by simp [B2, go_sem]) (by first | omega | (simp; done) | (simp; omega))
  obtain ⟨k1, k2, k3, k4, k5⟩ := B2.after (g := w.heap.size + 1 + 1) (x := .int .i64 0) (y := .int .i64 0) hb1 (by simp [B2, go_sem]) (by first | omega | (simp; done) | (simp; omega))
  have HB : Hid (Below w.heap.size w w1) := Lib.hid (by refine Below.step ?_ hb1 (by first | omega | (simp; done) | (simp; omega)); (repeat (first | exact Below.refl _ _ | assumption | refine Below.setCell ?_ (by first | omega | (simp; done) | (simp; omega)) _ | refine Below.alloc ?_ (by first | omega | (simp; done) | (simp; omega)) _ | refine Below.drew ?_ | refine below_drewN ?_ _)))
  clear hb1
  cases hv : a.okB && b.okB with
  | false =>
    have hv' : [a, b].all Fr.okB = false := by simpa using hv
    have HV := Lib.hid hv
    clear hv
    go_wp2
    refine bodyPost_ret (v := .tuple #[.agg #[.int .i64 0, .int .i64 0], .int .i64 1]) (by simp [results, Try.results87, go_sem, k1, k2]) rfl (HR.out _ _ ⟨?_, ?_⟩)
    · simp [divE, HV.out, FE.err]
    · have := HB.out; (repeat (first | exact Below.refl _ _ | assumption | refine Below.setCell ?_ (by first | omega | (simp; done) | (simp; omega)) _ | refine Below.alloc ?_ (by first | omega | (simp; done) | (simp; omega)) _ | refine Below.drew ?_ | refine below_drewN ?_ _))
  | true =>
    have hv' : [a, b].all Fr.okB = true := by simpa using hv
    have HV := Lib.hid hv
    have hv2 : a.ok ∧ b.ok := by simpa [Fr.okB] using hv
    obtain ⟨hva, hvb⟩ := hv2
    have ⟨a1, a2, a3, a4, _⟩ := hva
    have ⟨b1, b2, b3, b4, _⟩ := hvb
    clear hv
    by_cases hz0 : b.n = 0
    · have hz1 : (b.n == 0) = true := by simpa using hz0
      have HZ0 := Lib.hid hz0
      clear hz0
      go_wp2
      refine bodyPost_ret (v := .tuple #[.agg #[.int .i64 0, .int .i64 0], .int .i64 7]) (by simp [results, Try.results87, go_sem, k1, k2]) rfl (HR.out _ _ ⟨?_, ?_⟩)
      · simp [divE, HV.out, FE.err, HZ0.out]
      · have := HB.out; (repeat (first | exact Below.refl _ _ | assumption | refine Below.setCell ?_ (by first | omega | (simp; done) | (simp; omega)) _ | refine Below.alloc ?_ (by first | omega | (simp; done) | (simp; omega)) _ | refine Below.drew ?_ | refine below_drewN ?_ _))
    have hz1 : (b.n == 0) = false := by simpa using hz0
    have bm := mul_bd (a.n.natAbs : Int) b.d (by omega) (by omega) (by omega) (by omega)
    have bm0 : 0 ≤ (a.n.natAbs : Int) * b.d := Int.mul_nonneg (by omega) (by omega)
    have bz := mul_bd a.d (b.n.natAbs : Int) (by omega) a4 (by omega) (by omega)
    have bz2 : 0 < a.d * (b.n.natAbs : Int) := Int.mul_pos (by omega) (by omega)
    obtain ⟨nn, hnn⟩ : ∃ nn, (if (decide (a.n < 0) != decide (b.n < 0)) then -((a.n.natAbs : Int) * b.d) else (a.n.natAbs : Int) * b.d) = nn := ⟨_, rfl⟩
    have HD := Lib.hid (fdiv_sign a b nn hnn)
    have HM := Lib.hid hnn
    obtain ⟨m, hm⟩ : ∃ m, (a.n.natAbs : Int) * b.d = m := ⟨_, rfl⟩
    obtain ⟨z, hz⟩ : ∃ z, a.d * (b.n.natAbs : Int) = z := ⟨_, rfl⟩
    rw [hm] at bm bm0 HM
    rw [hz] at bz bz2 HD
    have wm : IntKind.u64.wrap ((a.n.natAbs : Int) * b.d) = m := by rw [hm, IntKind.wrap_u64]; omega
    have wz : IntKind.u64.wrap (a.d * (b.n.natAbs : Int)) = z := by rw [hz, IntKind.wrap_u64]; omega
    have wa : IntKind.u64.wrap a.d = a.d := by rw [IntKind.wrap_u64]; omega
    have wb : IntKind.u64.wrap b.d = b.d := by rw [IntKind.wrap_u64]; omega
    have HZ0 := Lib.hid hz0
    clear hm hz hva hvb hnn hz0
    go_wp2
    go_region_held3 (fun W => W.cell? ⟨w.heap.size, 0, none⟩ = some (.int .i64 a.n) ∧ W.cell? ⟨w.heap.size, 1, none⟩ = some (.int .i64 a.d) ∧ W.cell? ⟨w.heap.size + 1, 0, none⟩ = some (.int .i64 b.n) ∧ W.cell? ⟨w.heap.size + 1, 1, none⟩ = some (.int .i64 b.d)) (first | exact ⟨p1, p2, q1, q2⟩ | assumption | exact ⟨x1, x2, y1, y2⟩ | exact ⟨cell_set2 x1 (by omega), cell_set2 x2 (by omega), cell_set2 y1 (by omega), cell_set2 y2 (by omega)⟩)
      (first | (go_at_call 77; refine (abs_any _ _ (by omega) (by omega)).mono ?_; rintro e w' ⟨rfl, rfl⟩) | (go_at_call 76; refine (fit_int _ _ _ (nn) _ (by omega) (by omega) (by omega) (by omega) HM.out).mono ?_; rintro e w3 ⟨rfl, hb3⟩; obtain ⟨x1, x2, x3, x4, x5⟩ := B2.after hb3 (g := w.heap.size) ⟨p1, p2, p3, p4, p5⟩ (by simp; omega); obtain ⟨y1, y2, y3, y4, y5⟩ := B2.after hb3 (g := w.heap.size + 1) ⟨q1, q2, q3, q4, q5⟩ (by simp; omega); obtain ⟨z1, z2, z3, z4, z5⟩ := B2.after hb3 (g := w.heap.size + 1 + 1) ⟨k1, k2, k3, k4, k5⟩ (by simp; omega); have HB3 := Lib.hid (Below.step HB.out.drew hb3 (by simp; omega)); clear hb3))
    go_wp2
    refine bodyPost_ret (v := .tuple #[.agg #[.int .i64 (FE.of (mkF (nn) z)).n, .int .i64 (FE.of (mkF (nn) z)).d], .int .i64 (FE.of (mkF (nn) z)).e]) (by simp [results, Try.results87, go_sem, z1, z2]) rfl (HR.out _ _ ⟨?_, ?_⟩)
    · simp [divE, HV.out, HD.out, HZ0.out]
    · have := HB3.out; (repeat (first | exact Below.refl _ _ | assumption | refine Below.setCell ?_ (by first | omega | (simp; done) | (simp; omega)) _ | refine Below.alloc ?_ (by first | omega | (simp; done) | (simp; omega)) _ | refine Below.drew ?_ | refine below_drewN ?_ _))

set_option maxHeartbeats 4000000 in
theorem cmp_any (a b : Fr) (w : World) :
    Calls Try.prog 74 #[.agg #[.int .i64 (a).n, .int .i64 (a).d], .agg #[.int .i64 (b).n, .int .i64 (b).d]] w fun e w' =>
      e = .returned (.tuple #[.int .i64 (if a.okB && b.okB then cmpN a b else 0), .int .i64 (if a.okB && b.okB then 0 else 1)]) ∧ Below w.heap.size w w' := by
  refine calls_cps fun R hR => ?_
  have HR := Lib.hid hR
  clear hR
  go_enter Try.func74, Try.ntmps74
  go_wp2_with fail
  refine (valid_any [a, b] _ _ (RdB_two (by simp [go_sem]) (by simp [go_sem]) (by simp [go_sem]) (by simp [go_sem]) (by simp))).mono ?_
  rintro e w1 ⟨rfl, hb1⟩
  obtain ⟨p1, p2, p3, p4, p5⟩ := B2.after (g := w.heap.size) (x := .int .i64 a.n) (y := .int .i64 a.d) hb1 (by simp [B2, go_sem]) (by first | omega | (simp; done) | (simp; omega))
  obtain ⟨q1, q2, q3, q4, q5⟩ := B2.after (g := w.heap.size + 1) (x := .int .i64 b.n) (y := .int .i64 b.d) hb1 (by simp [B2, go_sem]) (by first | omega | (simp; done) | (simp; omega))
  have HB : Hid (Below w.heap.size w w1) := Lib.hid (by refine Below.step ?_ hb1 (by first | omega | (simp; done) | (simp; omega)); (repeat (first | exact Below.refl _ _ | assumption | refine Below.setCell ?_ (by first | omega | (simp; done) | (simp; omega)) _ | refine Below.alloc ?_ (by first | omega | (simp; done) | (simp; omega)) _ | refine Below.drew ?_ | refine below_drewN ?_ _)))
  clear hb1
  cases hv : a.okB && b.okB with
  | false =>
    have hv' : [a, b].all Fr.okB = false := by simpa using hv
    have HV := Lib.hid hv
    clear hv
    go_wp2
    refine HR.out _ _ ⟨?_, HB.out⟩
    simp [HV.out]
  | true =>
    have hv' : [a, b].all Fr.okB = true := by simpa using hv
    have HV := Lib.hid hv
    have hv2 : a.ok ∧ b.ok := by simpa [Fr.okB] using hv
    obtain ⟨hva, hvb⟩ := hv2
    have ⟨a1, a2, a3, a4, _⟩ := hva
    have ⟨b1, b2, b3, b4, _⟩ := hvb
    clear hv
    have bx := mul_bd a.n b.d a1 a2 (by omega) (by omega)
    have bY := mul_bd b.n a.d b1 b2 (by omega) (by omega)
    have HC : Hid (cmpN a b = if a.n * b.d < b.n * a.d then -1 else if a.n * b.d > b.n * a.d then 1 else 0) := Lib.hid rfl
    obtain ⟨x, hx⟩ : ∃ x, a.n * b.d = x := ⟨_, rfl⟩
    obtain ⟨y, hy⟩ : ∃ y, b.n * a.d = y := ⟨_, rfl⟩
    rw [hx] at bx HC
    rw [hy] at bY HC
    clear hva hvb
    go_wp2
    go_quiet (fail)
    clear hx hy
    rcases Int.lt_trichotomy x y with h | h | h
    · have HCV : Hid (cmpN a b = -1) := Lib.hid (by rw [HC.out, if_pos h])
      go_wp2
      exact HR.out _ _ ⟨by rw [HCV.out, HV.out]; rfl, below_drewN HB.out _⟩
    · subst h
      have HCV : Hid (cmpN a b = 0) := Lib.hid (by rw [HC.out, if_neg (by omega), if_neg (by omega)])
      go_wp2
      exact HR.out _ _ ⟨by rw [HCV.out, HV.out]; rfl, below_drewN HB.out _⟩
    · have HCV : Hid (cmpN a b = 1) := Lib.hid (by rw [HC.out, if_neg (by omega), if_pos h])
      go_wp2
      exact HR.out _ _ ⟨by rw [HCV.out, HV.out]; rfl, below_drewN HB.out _⟩

end Go.Proofs.Ytcpnffjnagbkoaa
end
section
namespace Go.Proofs.Ytcpnffjnagbkoaa
set_option linter.unusedSimpArgs false
set_option linter.unusedVariables false
open Go.RowKit

def makeE (n d : Int) : FE := if d = 0 then FE.err 7 else FE.of (mkF n d)

set_option maxHeartbeats 2000000 in
theorem make_any (n d : Int) (w : World) (hn : -4611686018427387904 ≤ n ∧ n ≤ 4611686018427387904) (hd : -4611686018427387904 ≤ d ∧ d ≤ 4611686018427387904) :
    Calls Try.prog 79 #[.int .i64 n, .int .i64 d] w fun e w' => e = .returned (.tuple #[.agg #[.int .i64 (makeE n d).n, .int .i64 (makeE n d).d], .int .i64 (makeE n d).e]) ∧ Below w.heap.size w w' := by
  refine calls_cps fun R hR => ?_
  have HR := Lib.hid hR
  clear hR
  by_cases h0 : d = 0
  · subst h0
    go_enter Try.func79, Try.ntmps79
    go_wp2
    refine bodyPost_ret (v := .tuple #[.agg #[.int .i64 0, .int .i64 0], .int .i64 7]) (by simp [results, Try.results79, go_sem]) rfl (HR.out _ _ ⟨?_, ?_⟩)
    · simp [makeE, FE.err]
    · (repeat (first | exact Below.refl _ _ | assumption | refine Below.setCell ?_ (by first | omega | (simp; done) | (simp; omega)) _ | refine Below.alloc ?_ (by first | omega | (simp; done) | (simp; omega)) _ | refine Below.drew ?_ | refine below_drewN ?_ _))
  · have hd0 : (d == 0) = false := by simpa using h0
    by_cases sn : 0 < n <;> by_cases sd : 0 < d
    all_goals
      go_enter Try.func79, Try.ntmps79
      go_wp2
      go_loopw [6, 7] (fun x y wr => ∃ p q : Nat, p ≤ 4611686018427387904 ∧ q ≤ 4611686018427387904 ∧ x = .int .i64 (-p) ∧ y = .int .i64 (-q) ∧ Nat.gcd p q = Int.gcd n d ∧ ∃ k, wr = (w.alloc (.cells #[.int .i64 0, .int .i64 0] 28)).drewN k) (fun _ y _ => (intOf y).natAbs)
      case atStart => exact ⟨n.natAbs, d.natAbs, by omega, by omega, congrArg _ (by omega), congrArg _ (by omega), rfl, 0, rfl⟩
      case round =>
        obtain ⟨p, q, hp, hq, rfl, rfl, hg, k, rfl⟩ := hrel
        by_cases hq0 : q = 0
        · subst hq0
          simp only [Nat.gcd_zero_right] at hg
          have hgp : 0 < Int.gcd n d := Int.gcd_pos_iff.2 (Or.inr h0)
          have hp0 : 0 < (p : Int) := by omega
          obtain ⟨x, hx, hnx, hxa⟩ := tdiv_exact n p hp0 (by rw [hg]; exact Int.gcd_dvd_left ..)
          obtain ⟨y, hy, hdy, hya⟩ := tdiv_exact d p hp0 (by rw [hg]; exact Int.gcd_dvd_right ..)
          have hx1 := natAbs_le_of_mul n p x hp0 hxa
          have hy1 := natAbs_le_of_mul d p y hp0 hya
          have hy0 : y ≠ 0 := by intro e; rw [e] at hdy; simp at hdy; exact h0 hdy
          have bx : -4611686018427387904 ≤ x ∧ x ≤ 4611686018427387904 := by omega
          have bY : -4611686018427387904 ≤ y ∧ y ≤ 4611686018427387904 := by omega
          have hpe : ((p : Int) == 0) = false := by simp; omega
          have hpe2 : (-(p : Int) == 0) = false := by simp; omega
          have hpe3 : ¬ p = 0 := by omega
          rcases Int.lt_or_lt_of_ne hy0 with hyn | hyp
          · have HM := Lib.hid (mkF_negd n d p x y hp0 (by omega) hnx hdy hyn)
            have HG := Lib.hid hg
            clear hg hnx hdy hxa hya hx1 hy1 hgp hy0
            by_cases hf : -1073741824 ≤ -x ∧ -x ≤ 1073741824 ∧ -y ≤ 1073741824
            · obtain ⟨f1, f2, f3⟩ := hf
              have HM2 : Hid (mkF n d = some ⟨-x, -y⟩) := Lib.hid (by rw [HM.out, if_pos ⟨f1, f2, f3⟩])
              go_wp2
              refine bodyPost_ret (v := .tuple #[.agg #[.int .i64 (-x), .int .i64 (-y)], .int .i64 0]) (by simp [results, Try.results79, go_sem]) rfl (HR.out _ _ ⟨?_, ?_⟩)
              · unfold makeE; rw [if_neg h0, HM2.out]; rfl
              · (repeat (first | exact Below.refl _ _ | assumption | refine Below.setCell ?_ (by first | omega | (simp; done) | (simp; omega)) _ | refine Below.alloc ?_ (by first | omega | (simp; done) | (simp; omega)) _ | refine Below.drew ?_ | refine below_drewN ?_ _))
            · have HM2 : Hid (mkF n d = none) := Lib.hid (by rw [HM.out, if_neg hf])
              go_wp2
              all_goals
                refine bodyPost_ret (v := .tuple #[.agg #[.int .i64 0, .int .i64 0], .int .i64 6]) (by simp [results, Try.results79, go_sem]) rfl (HR.out _ _ ⟨?_, ?_⟩)
                · unfold makeE; rw [if_neg h0, HM2.out]; rfl
                · (repeat (first | exact Below.refl _ _ | assumption | refine Below.setCell ?_ (by first | omega | (simp; done) | (simp; omega)) _ | refine Below.alloc ?_ (by first | omega | (simp; done) | (simp; omega)) _ | refine Below.drew ?_ | refine below_drewN ?_ _))
          · have HM := Lib.hid (mkF_pos n d p x y hp0 (by omega) hnx hdy hyp)
            have HG := Lib.hid hg
            clear hg hnx hdy hxa hya hx1 hy1 hgp hy0
            by_cases hf : -1073741824 ≤ x ∧ x ≤ 1073741824 ∧ y ≤ 1073741824
            · obtain ⟨f1, f2, f3⟩ := hf
              have HM2 : Hid (mkF n d = some ⟨x, y⟩) := Lib.hid (by rw [HM.out, if_pos ⟨f1, f2, f3⟩])
              go_wp2
              refine bodyPost_ret (v := .tuple #[.agg #[.int .i64 (x), .int .i64 (y)], .int .i64 0]) (by simp [results, Try.results79, go_sem]) rfl (HR.out _ _ ⟨?_, ?_⟩)
              · unfold makeE; rw [if_neg h0, HM2.out]; rfl
              · (repeat (first | exact Below.refl _ _ | assumption | refine Below.setCell ?_ (by first | omega | (simp; done) | (simp; omega)) _ | refine Below.alloc ?_ (by first | omega | (simp; done) | (simp; omega)) _ | refine Below.drew ?_ | refine below_drewN ?_ _))
            · have HM2 : Hid (mkF n d = none) := Lib.hid (by rw [HM.out, if_neg hf])
              go_wp2
              all_goals
                refine bodyPost_ret (v := .tuple #[.agg #[.int .i64 0, .int .i64 0], .int .i64 6]) (by simp [results, Try.results79, go_sem]) rfl (HR.out _ _ ⟨?_, ?_⟩)
                · unfold makeE; rw [if_neg h0, HM2.out]; rfl
                · (repeat (first | exact Below.refl _ _ | assumption | refine Below.setCell ?_ (by first | omega | (simp; done) | (simp; omega)) _ | refine Below.alloc ?_ (by first | omega | (simp; done) | (simp; omega)) _ | refine Below.drew ?_ | refine below_drewN ?_ _))
        · have HG := Lib.hid hg
          clear hg
          have b1 : (-(q : Int) != 0) = true := by simp; omega
          have b2 : (-(q : Int) == 0) = false := by simp; omega
          have ht := tmod_neg_neg p q
          go_wp2
          go_quiet (fail)
          go_wp2
          have hlt : p % q < q := Nat.mod_lt _ (by omega)
          go_roundw
          case rel => exact ⟨q, p % q, hq, by omega, rfl, by first | rfl | (congr 1; omega), by rw [← HG.out, Nat.gcd_comm q, ← Nat.gcd_rec, Nat.gcd_comm], k + nq, by rw [World.drewN_drewN]⟩
          case measure => simp only [intOf]; omega

end Go.Proofs.Ytcpnffjnagbkoaa
end
section
namespace Go.Proofs.Ytcpnffjnagbkoaa
set_option linter.unusedSimpArgs false
set_option linter.unusedVariables false
open Go.RowKit

theorem makeE_ok {a : Fr} (h : a.ok) : makeE a.n a.d = ⟨a.n, a.d, 0⟩ := by
  unfold makeE
  rw [if_neg (by have := h.2.2.1; omega), mkF_of_ok h]
  rfl
theorem makeE_not {an ad : Int} (h3 : 1 ≤ ad) (hg : Int.gcd an ad ≠ 1) : (makeE an ad).d ≠ ad := by
  unfold makeE
  rw [if_neg (by omega)]
  have hgp : 0 < Int.gcd an ad := Int.gcd_pos_iff.2 (Or.inr (by omega))
  unfold mkF
  split
  · simp only [FE.of, nf]
    obtain ⟨c, hc⟩ : (Int.gcd an ad : Int) ∣ ad := Int.gcd_dvd_right ..
    rw [Int.natAbs_of_nonneg (by omega)]
    generalize (Int.gcd an ad : Nat) = g at *
    subst hc
    rw [Int.mul_ediv_cancel_left _ (by omega)]
    intro e
    have hc0 : 0 < c := Int.pos_of_mul_pos_right (by omega) (show (0:Int) < g by omega)
    have h2 : 2 * c ≤ (g : Int) * c := Int.mul_le_mul_of_nonneg_right (by omega) (by omega)
    omega
  · simp only [FE.of]; omega

set_option maxHeartbeats 1000000 in
theorem rvalid_any (a : Fr) (w : World) :
    Calls Try.prog 56 #[.agg #[.int .i64 (a).n, .int .i64 (a).d]] w fun e w' => e = .returned (.bool a.okB) ∧ Below w.heap.size w w' := by
  obtain ⟨an, ad⟩ := a
  refine calls_cps fun R hR => ?_
  have HR := Lib.hid hR
  clear hR
  by_cases hr : -1073741824 ≤ an ∧ an ≤ 1073741824 ∧ 1 ≤ ad ∧ ad ≤ 1073741824
  · obtain ⟨h1, h2, h3, h4⟩ := hr
    by_cases hg : Int.gcd an ad = 1
    · have hok : (Fr.mk an ad).ok := ⟨h1, h2, h3, h4, hg⟩
      have HO := Lib.hid (Fr.okB_of hok)
      have HM := Lib.hid (makeE_ok hok)
      clear hok hg
      go_enter Try.func56, Try.ntmps56
      go_wp2_with (go_at_call 79; refine (make_any _ _ _ (by omega) (by omega)).mono ?_; rintro e w1 ⟨rfl, hb1⟩; obtain ⟨p1, p2, p3, p4, p5⟩ := B2.after (g := w.heap.size) (x := .int .i64 an) (y := .int .i64 ad) hb1 (by simp [B2, go_sem]) (by first | omega | (simp; done) | (simp; omega)); have HB := Lib.hid (Below.step ((Below.refl w.heap.size w).alloc (Nat.le_refl _) _) hb1 (by simp)); clear hb1; rw [HM.out])
      refine HR.out _ _ ⟨by rw [HO.out]; rfl, ?_⟩
      have := HB.out
      have := this.size
      (repeat (first | exact Below.refl _ _ | assumption | refine Below.setCell ?_ (by first | omega | (simp; done) | (simp; omega)) _ | refine Below.alloc ?_ (by first | omega | (simp; done) | (simp; omega)) _ | refine Below.drew ?_ | refine below_drewN ?_ _))
    · have HO := Lib.hid (Fr.okB_not (a := ⟨an, ad⟩) (fun h => hg h.2.2.2.2))
      have hne := makeE_not h3 hg
      have hne2 : ((makeE an ad).d == ad) = false := by simpa using hne
      clear hg
      go_enter Try.func56, Try.ntmps56
      go_wp2_with (go_at_call 79; refine (make_any _ _ _ (by omega) (by omega)).mono ?_; rintro e w1 ⟨rfl, hb1⟩; obtain ⟨p1, p2, p3, p4, p5⟩ := B2.after (g := w.heap.size) (x := .int .i64 an) (y := .int .i64 ad) hb1 (by simp [B2, go_sem]) (by first | omega | (simp; done) | (simp; omega)); have HB := Lib.hid (Below.step ((Below.refl w.heap.size w).alloc (Nat.le_refl _) _) hb1 (by simp)); clear hb1)
      all_goals
        refine HR.out _ _ ⟨by rw [HO.out]; rfl, ?_⟩
        have := HB.out
        have := this.size
        (repeat (first | exact Below.refl _ _ | assumption | refine Below.setCell ?_ (by first | omega | (simp; done) | (simp; omega)) _ | refine Below.alloc ?_ (by first | omega | (simp; done) | (simp; omega)) _ | refine Below.drew ?_ | refine below_drewN ?_ _))
  · have HO := Lib.hid (Fr.okB_not (a := ⟨an, ad⟩) (fun h => hr ⟨h.1, h.2.1, h.2.2.1, h.2.2.2.1⟩))
    go_enter Try.func56, Try.ntmps56
    go_wp2_with fail
    all_goals
      refine HR.out _ _ ⟨(by first | (rw [HO.out]; done) | (rw [HO.out]; rfl)), ?_⟩
      (repeat (first | exact Below.refl _ _ | assumption | refine Below.setCell ?_ (by first | omega | (simp; done) | (simp; omega)) _ | refine Below.alloc ?_ (by first | omega | (simp; done) | (simp; omega)) _ | refine Below.drew ?_ | refine below_drewN ?_ _))

set_option maxHeartbeats 400000 in
theorem rof_any (n : Int) (w : World) :
    Calls Try.prog 60 #[.int .i64 n] w fun e w' => e = .returned (.agg #[.int .i64 n, .int .i64 1]) ∧ Below w.heap.size w w' := by
  refine calls_cps fun R hR => ?_
  have HR := Lib.hid hR
  clear hR
  go_enter Try.func60, Try.ntmps60
  go_wp2
  refine bodyPost_ret (v := .agg #[.int .i64 n, .int .i64 1]) (by simp [results, Try.results60, go_sem]) rfl (HR.out _ _ ⟨rfl, ?_⟩)
  (repeat (first | exact Below.refl _ _ | assumption | refine Below.setCell ?_ (by first | omega | (simp; done) | (simp; omega)) _ | refine Below.alloc ?_ (by first | omega | (simp; done) | (simp; omega)) _ | refine Below.drew ?_ | refine below_drewN ?_ _))

set_option maxHeartbeats 400000 in
theorem rneg_any (a : Fr) (w : World) (h : -1073741824 ≤ a.n ∧ a.n ≤ 1073741824) :
    Calls Try.prog 41 #[.agg #[.int .i64 (a).n, .int .i64 (a).d]] w fun e w' => e = .returned (.agg #[.int .i64 (fneg a).n, .int .i64 (fneg a).d]) ∧ Below w.heap.size w w' := by
  refine calls_cps fun R hR => ?_
  have HR := Lib.hid hR
  clear hR
  go_enter Try.func41, Try.ntmps41
  go_wp2
  refine bodyPost_ret (v := .agg #[.int .i64 (fneg a).n, .int .i64 (fneg a).d]) (by simp [results, Try.results41, go_sem, fneg]) rfl (HR.out _ _ ⟨rfl, ?_⟩)
  (repeat (first | exact Below.refl _ _ | assumption | refine Below.setCell ?_ (by first | omega | (simp; done) | (simp; omega)) _ | refine Below.alloc ?_ (by first | omega | (simp; done) | (simp; omega)) _ | refine Below.drew ?_ | refine below_drewN ?_ _))

set_option maxHeartbeats 2000000 in
theorem radd_any (a b : Fr) (w : World) :
    Calls Try.prog 62 #[.agg #[.int .i64 (a).n, .int .i64 (a).d], .agg #[.int .i64 (b).n, .int .i64 (b).d]] w fun e w' =>
      e = .returned (.tuple #[.agg #[.int .i64 (addE a b).n, .int .i64 (addE a b).d], .int .i64 (addE a b).e]) ∧ Below w.heap.size w w' := by
  refine calls_cps fun R hR => ?_
  have HR := Lib.hid hR
  clear hR
  go_enter Try.func62, Try.ntmps62
  go_wp2_with fail
  refine (rvalid_any a _).mono ?_
  rintro e w1 ⟨rfl, hb1⟩
  obtain ⟨p1, p2, p3, p4, p5⟩ := B2.after (g := w.heap.size) (x := .int .i64 a.n) (y := .int .i64 a.d) hb1 (by simp [B2, go_sem]) (by first | omega | (simp; done) | (simp; omega))
  obtain ⟨q1, q2, q3, q4, q5⟩ := B2.after (g := w.heap.size + 1) (x := .int .i64 b.n) (y := .int .i64 b.d) hb1 (by simp [B2, go_sem]) (by first | omega | (simp; done) | (simp; omega))
  obtain ⟨k1, k2, k3, k4, k5⟩ := B2.after (g := w.heap.size + 1 + 1) (x := .int .i64 0) (y := .int .i64 0) hb1 (by simp [B2, go_sem]) (by first | omega | (simp; done) | (simp; omega))
  have HB : Hid (Below w.heap.size w w1) := Lib.hid (by refine Below.step ?_ hb1 (by first | omega | (simp; done) | (simp; omega)); (repeat (first | exact Below.refl _ _ | assumption | refine Below.setCell ?_ (by first | omega | (simp; done) | (simp; omega)) _ | refine Below.alloc ?_ (by first | omega | (simp; done) | (simp; omega)) _ | refine Below.drew ?_ | refine below_drewN ?_ _)))
  clear hb1
  cases hva : a.okB with
  | false =>
    have HV := Lib.hid hva
    clear hva
    go_wp2
    refine bodyPost_ret (v := .tuple #[.agg #[.int .i64 0, .int .i64 0], .int .i64 1]) (by simp [results, Try.results62, go_sem, k1, k2]) rfl (HR.out _ _ ⟨?_, ?_⟩)
    · simp [addE, HV.out, FE.err]
    · have := HB.out; (repeat (first | exact Below.refl _ _ | assumption | refine Below.setCell ?_ (by first | omega | (simp; done) | (simp; omega)) _ | refine Below.alloc ?_ (by first | omega | (simp; done) | (simp; omega)) _ | refine Below.drew ?_ | refine below_drewN ?_ _))
  | true =>
    go_wp2_with fail
    refine (rvalid_any b _).mono ?_
    rintro e w2 ⟨rfl, hb2⟩
    obtain ⟨p1', p2', p3', p4', p5'⟩ := B2.after hb2 (g := w.heap.size) ⟨p1, p2, p3, p4, p5⟩ (by first | omega | (simp; done) | (simp; omega))
    obtain ⟨q1', q2', q3', q4', q5'⟩ := B2.after hb2 (g := w.heap.size + 1) ⟨q1, q2, q3, q4, q5⟩ (by first | omega | (simp; done) | (simp; omega))
    obtain ⟨k1', k2', k3', k4', k5'⟩ := B2.after hb2 (g := w.heap.size + 1 + 1) ⟨k1, k2, k3, k4, k5⟩ (by first | omega | (simp; done) | (simp; omega))
    have HB2 : Hid (Below w.heap.size w w2) := Lib.hid (Below.step HB.out hb2 (by omega))
    clear hb2 HB p1 p2 p3 p4 p5 q1 q2 q3 q4 q5 k1 k2 k3 k4 k5
    cases hvb : b.okB with
    | false =>
      have HV := Lib.hid hvb
      clear hvb
      go_wp2
      refine bodyPost_ret (v := .tuple #[.agg #[.int .i64 0, .int .i64 0], .int .i64 1]) (by simp [results, Try.results62, go_sem, k1', k2']) rfl (HR.out _ _ ⟨?_, ?_⟩)
      · simp [addE, HV.out, FE.err]
      · have := HB2.out; (repeat (first | exact Below.refl _ _ | assumption | refine Below.setCell ?_ (by first | omega | (simp; done) | (simp; omega)) _ | refine Below.alloc ?_ (by first | omega | (simp; done) | (simp; omega)) _ | refine Below.drew ?_ | refine below_drewN ?_ _))
    | true =>
      have HVA := Lib.hid hva
      have HVB := Lib.hid hvb
      have hoka := (Fr.okB_iff a).1 hva
      have hokb := (Fr.okB_iff b).1 hvb
      have ⟨a1, a2, a3, a4, _⟩ := hoka
      have ⟨b1, b2, b3, b4, _⟩ := hokb
      have bx := mul_bd a.n b.d a1 a2 (by omega) (by omega)
      have bY := mul_bd b.n a.d b1 b2 (by omega) (by omega)
      have bz := mul_bd a.d b.d (by omega) a4 (by omega) b4
      have bz2 : 0 < a.d * b.d := Int.mul_pos (by omega) (by omega)
      have HE : Hid (makeE (a.n * b.d + b.n * a.d) (a.d * b.d) = addE a b) := Lib.hid (by unfold makeE addE; rw [if_neg (by omega), HVA.out, HVB.out]; rfl)
      clear hva hvb hoka hokb
      go_wp2_with fail
      refine (make_any (a.n * b.d + b.n * a.d) (a.d * b.d) _ (by omega) (by omega)).mono ?_
      rintro e w4 ⟨rfl, hb4⟩
      obtain ⟨g1, g2, g3, g4, g5⟩ := B2.after (g := w.heap.size + 1 + 1) (x := .int .i64 0) (y := .int .i64 0) hb4 ⟨k1', k2', k3', k4', k5'⟩ (by first | omega | (simp; done) | (simp; omega))
      have HB4 : Hid (Below w.heap.size w w4) := Lib.hid (Below.step HB2.out hb4 (by omega))
      clear hb4
      go_wp2
      refine bodyPost_ret (v := .tuple #[.agg #[.int .i64 (makeE (a.n * b.d + b.n * a.d) (a.d * b.d)).n, .int .i64 (makeE (a.n * b.d + b.n * a.d) (a.d * b.d)).d], .int .i64 (makeE (a.n * b.d + b.n * a.d) (a.d * b.d)).e]) (by simp [results, Try.results62, go_sem, g1, g2]) rfl (HR.out _ _ ⟨?_, ?_⟩)
      · rw [HE.out]
      · have := HB4.out; (repeat (first | exact Below.refl _ _ | assumption | refine Below.setCell ?_ (by first | omega | (simp; done) | (simp; omega)) _ | refine Below.alloc ?_ (by first | omega | (simp; done) | (simp; omega)) _ | refine Below.drew ?_ | refine below_drewN ?_ _))

set_option maxHeartbeats 2000000 in
theorem rmul_any (a b : Fr) (w : World) :
    Calls Try.prog 61 #[.agg #[.int .i64 (a).n, .int .i64 (a).d], .agg #[.int .i64 (b).n, .int .i64 (b).d]] w fun e w' =>
      e = .returned (.tuple #[.agg #[.int .i64 (mulE a b).n, .int .i64 (mulE a b).d], .int .i64 (mulE a b).e]) ∧ Below w.heap.size w w' := by
  refine calls_cps fun R hR => ?_
  have HR := Lib.hid hR
  clear hR
  go_enter Try.func61, Try.ntmps61
  go_wp2_with fail
  refine (rvalid_any a _).mono ?_
  rintro e w1 ⟨rfl, hb1⟩
  obtain ⟨p1, p2, p3, p4, p5⟩ := B2.after (g := w.heap.size) (x := .int .i64 a.n) (y := .int .i64 a.d) hb1 (by simp [B2, go_sem]) (by first | omega | (simp; done) | (simp; omega))
  obtain ⟨q1, q2, q3, q4, q5⟩ := B2.after (g := w.heap.size + 1) (x := .int .i64 b.n) (y := .int .i64 b.d) hb1 (by simp [B2, go_sem]) (by first | omega | (simp; done) | (simp; omega))
  obtain ⟨k1, k2, k3, k4, k5⟩ := B2.after (g := w.heap.size + 1 + 1) (x := .int .i64 0) (y := .int .i64 0) hb1 (by simp [B2, go_sem]) (by first | omega | (simp; done) | (simp; omega))
  have HB : Hid (Below w.heap.size w w1) := Lib.hid (by refine Below.step ?_ hb1 (by first | omega | (simp; done) | (simp; omega)); (repeat (first | exact Below.refl _ _ | assumption | refine Below.setCell ?_ (by first | omega | (simp; done) | (simp; omega)) _ | refine Below.alloc ?_ (by first | omega | (simp; done) | (simp; omega)) _ | refine Below.drew ?_ | refine below_drewN ?_ _)))
  clear hb1
  cases hva : a.okB with
  | false =>
    have HV := Lib.hid hva
    clear hva
    go_wp2
    refine bodyPost_ret (v := .tuple #[.agg #[.int .i64 0, .int .i64 0], .int .i64 1]) (by simp [results, Try.results61, go_sem, k1, k2]) rfl (HR.out _ _ ⟨?_, ?_⟩)
    · simp [mulE, HV.out, FE.err]
    · have := HB.out; (repeat (first | exact Below.refl _ _ | assumption | refine Below.setCell ?_ (by first | omega | (simp; done) | (simp; omega)) _ | refine Below.alloc ?_ (by first | omega | (simp; done) | (simp; omega)) _ | refine Below.drew ?_ | refine below_drewN ?_ _))
  | true =>
    go_wp2_with fail
    refine (rvalid_any b _).mono ?_
    rintro e w2 ⟨rfl, hb2⟩
    obtain ⟨p1', p2', p3', p4', p5'⟩ := B2.after hb2 (g := w.heap.size) ⟨p1, p2, p3, p4, p5⟩ (by first | omega | (simp; done) | (simp; omega))
    obtain ⟨q1', q2', q3', q4', q5'⟩ := B2.after hb2 (g := w.heap.size + 1) ⟨q1, q2, q3, q4, q5⟩ (by first | omega | (simp; done) | (simp; omega))
    obtain ⟨k1', k2', k3', k4', k5'⟩ := B2.after hb2 (g := w.heap.size + 1 + 1) ⟨k1, k2, k3, k4, k5⟩ (by first | omega | (simp; done) | (simp; omega))
    have HB2 : Hid (Below w.heap.size w w2) := Lib.hid (Below.step HB.out hb2 (by omega))
    clear hb2 HB p1 p2 p3 p4 p5 q1 q2 q3 q4 q5 k1 k2 k3 k4 k5
    cases hvb : b.okB with
    | false =>
      have HV := Lib.hid hvb
      clear hvb
      go_wp2
      refine bodyPost_ret (v := .tuple #[.agg #[.int .i64 0, .int .i64 0], .int .i64 1]) (by simp [results, Try.results61, go_sem, k1', k2']) rfl (HR.out _ _ ⟨?_, ?_⟩)
      · simp [mulE, HV.out, FE.err]
      · have := HB2.out; (repeat (first | exact Below.refl _ _ | assumption | refine Below.setCell ?_ (by first | omega | (simp; done) | (simp; omega)) _ | refine Below.alloc ?_ (by first | omega | (simp; done) | (simp; omega)) _ | refine Below.drew ?_ | refine below_drewN ?_ _))
    | true =>
      have HVA := Lib.hid hva
      have HVB := Lib.hid hvb
      have hoka := (Fr.okB_iff a).1 hva
      have hokb := (Fr.okB_iff b).1 hvb
      have ⟨a1, a2, a3, a4, _⟩ := hoka
      have ⟨b1, b2, b3, b4, _⟩ := hokb
      have bx := mul_bd' a.n b.n a1 a2 b1 b2
      have bz := mul_bd a.d b.d (by omega) a4 (by omega) b4
      have bz2 : 0 < a.d * b.d := Int.mul_pos (by omega) (by omega)
      have HE : Hid (makeE (a.n * b.n) (a.d * b.d) = mulE a b) := Lib.hid (by unfold makeE mulE; rw [if_neg (by omega), HVA.out, HVB.out]; rfl)
      clear hva hvb hoka hokb
      go_wp2_with fail
      refine (make_any (a.n * b.n) (a.d * b.d) _ (by omega) (by omega)).mono ?_
      rintro e w4 ⟨rfl, hb4⟩
      obtain ⟨g1, g2, g3, g4, g5⟩ := B2.after (g := w.heap.size + 1 + 1) (x := .int .i64 0) (y := .int .i64 0) hb4 ⟨k1', k2', k3', k4', k5'⟩ (by first | omega | (simp; done) | (simp; omega))
      have HB4 : Hid (Below w.heap.size w w4) := Lib.hid (Below.step HB2.out hb4 (by omega))
      clear hb4
      go_wp2
      refine bodyPost_ret (v := .tuple #[.agg #[.int .i64 (makeE (a.n * b.n) (a.d * b.d)).n, .int .i64 (makeE (a.n * b.n) (a.d * b.d)).d], .int .i64 (makeE (a.n * b.n) (a.d * b.d)).e]) (by simp [results, Try.results61, go_sem, g1, g2]) rfl (HR.out _ _ ⟨?_, ?_⟩)
      · rw [HE.out]
      · have := HB4.out; (repeat (first | exact Below.refl _ _ | assumption | refine Below.setCell ?_ (by first | omega | (simp; done) | (simp; omega)) _ | refine Below.alloc ?_ (by first | omega | (simp; done) | (simp; omega)) _ | refine Below.drew ?_ | refine below_drewN ?_ _))

set_option maxHeartbeats 400000 in
theorem rcmp_any (a b : Fr) (w : World) (ha : a.ok) (hb : b.ok) :
    Calls Try.prog 59 #[.agg #[.int .i64 (a).n, .int .i64 (a).d], .agg #[.int .i64 (b).n, .int .i64 (b).d]] w fun e w' => e = .returned (.int .i64 (cmpN a b)) ∧ Below w.heap.size w w' := by
  refine calls_cps fun R hR => ?_
  have HR := Lib.hid hR
  clear hR
  have ⟨a1, a2, a3, a4, _⟩ := ha
  have ⟨b1, b2, b3, b4, _⟩ := hb
  have bx := mul_bd a.n b.d a1 a2 (by omega) (by omega)
  have bY := mul_bd b.n a.d b1 b2 (by omega) (by omega)
  have HC : Hid (cmpN a b = if a.n * b.d < b.n * a.d then -1 else if a.n * b.d > b.n * a.d then 1 else 0) := Lib.hid rfl
  obtain ⟨x, hx⟩ : ∃ x, a.n * b.d = x := ⟨_, rfl⟩
  obtain ⟨y, hy⟩ : ∃ y, b.n * a.d = y := ⟨_, rfl⟩
  rw [hx] at bx HC
  rw [hy] at bY HC
  clear ha hb
  rcases Int.lt_trichotomy x y with h | h | h
  · have HCV : Hid (cmpN a b = -1) := Lib.hid (by rw [HC.out, if_pos h])
    go_enter Try.func59, Try.ntmps59
    go_wp2
    refine HR.out _ _ ⟨by rw [HCV.out]; rfl, ?_⟩
    (repeat (first | exact Below.refl _ _ | assumption | refine Below.setCell ?_ (by first | omega | (simp; done) | (simp; omega)) _ | refine Below.alloc ?_ (by first | omega | (simp; done) | (simp; omega)) _ | refine Below.drew ?_ | refine below_drewN ?_ _))
  · have HCV : Hid (cmpN a b = 0) := Lib.hid (by rw [HC.out, if_neg (by omega), if_neg (by omega)])
    subst h
    go_enter Try.func59, Try.ntmps59
    go_wp2
    refine HR.out _ _ ⟨by rw [HCV.out]; rfl, ?_⟩
    (repeat (first | exact Below.refl _ _ | assumption | refine Below.setCell ?_ (by first | omega | (simp; done) | (simp; omega)) _ | refine Below.alloc ?_ (by first | omega | (simp; done) | (simp; omega)) _ | refine Below.drew ?_ | refine below_drewN ?_ _))
  · have HCV : Hid (cmpN a b = 1) := Lib.hid (by rw [HC.out, if_neg (by omega), if_pos h])
    go_enter Try.func59, Try.ntmps59
    go_wp2
    refine HR.out _ _ ⟨by rw [HCV.out]; rfl, ?_⟩
    (repeat (first | exact Below.refl _ _ | assumption | refine Below.setCell ?_ (by first | omega | (simp; done) | (simp; omega)) _ | refine Below.alloc ?_ (by first | omega | (simp; done) | (simp; omega)) _ | refine Below.drew ?_ | refine below_drewN ?_ _))

end Go.Proofs.Ytcpnffjnagbkoaa
end
section
namespace Go.Proofs.Ytcpnffjnagbkoaa.Aw
set_option linter.unusedSimpArgs false
set_option linter.unusedVariables false
open Go.RowKit Go.Proofs
variable {P : Program} [IsP P]

theorem pure_prog {f : FuncId} {args : List AV} {r : AV} (h : Pure Try.prog f args r) : Pure P f args r := by rw [IsP.eq (P := P)]; exact h
theorem gti_mem {α : Type} [Inhabited α] {l : List α} {k : Nat} (h : k < l.length) : gti l k ∈ l := List.mem_of_getElem? (gti_get h)
instance : Inhabited Fr := ⟨⟨0, 0⟩⟩
def eF (a : Fr) : AV := .agg [eI a.n, eI a.d]
def eFE (x : FE) : AV := .tup [.agg [eI x.n, eI x.d], eI x.e]
theorem lo_F (a : Fr) : Lo 0 (eF a) := .agg _ (lo_cons (.s _) (lo_cons (.s _) lo_nil))
theorem rep_F {G : Cx} {v : Value} {a : Fr} (h : Rep G v (eF a)) : v = .agg #[.int .i64 a.n, .int .i64 a.d] := by
  generalize hx : eF a = x at h
  cases h with
  | agg vs cs hl h1 hr =>
    unfold eF at hx
    injection hx with hx
    subst hx
    obtain ⟨q⟩ := vs
    match q, hl with
    | [u, w], _ =>
      have e1 := rep_s (hr 0 u _ rfl rfl)
      have e2 := rep_s (hr 1 w _ rfl rfl)
      rw [e1, e2]
  | _ => unfold eF at hx; cases hx
theorem rep_mkF (G : Cx) (n d : Int) : Rep G (.agg #[.int .i64 n, .int .i64 d]) (.agg [eI n, eI d]) :=
  .agg _ _ rfl (fun c hc => by simp at hc; rcases hc with rfl | rfl <;> rfl) (fun j v c hv hc => by
    match j, hv, hc with
    | 0, hv, hc => simp at hv hc; subst hv hc; exact .s _
    | 1, hv, hc => simp at hv hc; subst hv hc; exact .s _
    | j + 2, hv, hc => simp at hv)
theorem retFE_pure {f : FuncId} {args : List AV} {x : FE} (he : Ent f) (h : ∀ (G : Cx) (vargs : Array Value), vargs.size = args.length → (∀ (j : Nat) v x, vargs[j]? = some v → args[j]? = some x → Rep G v x) → Calls Try.prog f vargs G.w fun e w' => e = .returned (.tuple #[.agg #[.int .i64 (x).n, .int .i64 (x).d], .int .i64 (x).e]) ∧ Below G.w.heap.size G.w w') : Pure P f args (eFE x) :=
  pure_prog (pure_mk he (.tup _ (lo_cons (.agg _ (lo_cons (.s _) (lo_cons (.s _) lo_nil))) (lo_cons (.s _) lo_nil))) fun G vargs hst hsz hrep => (h G vargs hsz hrep).mono (by
    rintro e w' ⟨rfl, hb⟩
    refine ⟨_, rfl, hb, .tup _ _ rfl (fun j v c hv hc => ?_)⟩
    match j, hv, hc with
    | 0, hv, hc => simp at hv hc; subst hv hc; exact rep_mkF _ _ _
    | 1, hv, hc => simp at hv hc; subst hv hc; exact .s _
    | j + 2, hv, hc => simp at hv))
theorem args_FF {G : Cx} {vargs : Array Value} {a b : Fr} (hsz : vargs.size = [eF a, eF b].length) (hrep : ∀ (j : Nat) v x, vargs[j]? = some v → [eF a, eF b][j]? = some x → Rep G v x) : vargs = #[.agg #[.int .i64 (a).n, .int .i64 (a).d], .agg #[.int .i64 (b).n, .int .i64 (b).d]] := by
  obtain ⟨q⟩ := vargs
  match q, hsz with
  | [u, w], _ => rw [rep_F (hrep 0 u _ rfl rfl), rep_F (hrep 1 w _ rfl rfl)]
theorem args_F {G : Cx} {vargs : Array Value} {a : Fr} (hsz : vargs.size = [eF a].length) (hrep : ∀ (j : Nat) v x, vargs[j]? = some v → [eF a][j]? = some x → Rep G v x) : vargs = #[.agg #[.int .i64 (a).n, .int .i64 (a).d]] := by
  obtain ⟨q⟩ := vargs
  match q, hsz with
  | [u], _ => rw [rep_F (hrep 0 u _ rfl rfl)]
theorem ret_s_pure {f : FuncId} {args : List AV} {u : Value} (he : Ent f) (h : ∀ (G : Cx) (vargs : Array Value), vargs.size = args.length → (∀ (j : Nat) v x, vargs[j]? = some v → args[j]? = some x → Rep G v x) → Calls Try.prog f vargs G.w fun e w' => e = .returned u ∧ Below G.w.heap.size G.w w') : Pure P f args (.s u) :=
  pure_prog (pure_mk he (.s _) fun G vargs hst hsz hrep => (h G vargs hsz hrep).mono (by
    rintro e w' ⟨rfl, hb⟩
    exact ⟨_, rfl, hb, .s _⟩))
theorem retF_pure {f : FuncId} {args : List AV} {a : Fr} (he : Ent f) (h : ∀ (G : Cx) (vargs : Array Value), vargs.size = args.length → (∀ (j : Nat) v x, vargs[j]? = some v → args[j]? = some x → Rep G v x) → Calls Try.prog f vargs G.w fun e w' => e = .returned (.agg #[.int .i64 (a).n, .int .i64 (a).d]) ∧ Below G.w.heap.size G.w w') : Pure P f args (eF a) :=
  pure_prog (pure_mk he (lo_F a) fun G vargs hst hsz hrep => (h G vargs hsz hrep).mono (by
    rintro e w' ⟨rfl, hb⟩
    exact ⟨_, rfl, hb, rep_mkF _ _ _⟩))

theorem fAdd_pf (a b : Fr) : Pure P 52 [eF a, eF b] (eFE (addE a b)) :=
  retFE_pure (ent_of Try.func52 rfl rfl) fun G vargs hsz hrep => by rw [args_FF hsz hrep]; exact add_any a b G.w
theorem fSub_pf (a b : Fr) : Pure P 86 [eF a, eF b] (eFE (subE a b)) :=
  retFE_pure (ent_of Try.func86 rfl rfl) fun G vargs hsz hrep => by rw [args_FF hsz hrep]; exact sub_any a b G.w
theorem fMul_pf (a b : Fr) : Pure P 51 [eF a, eF b] (eFE (mulE a b)) :=
  retFE_pure (ent_of Try.func51 rfl rfl) fun G vargs hsz hrep => by rw [args_FF hsz hrep]; exact mul_any a b G.w
theorem fDiv_pf (a b : Fr) : Pure P 87 [eF a, eF b] (eFE (divE a b)) :=
  retFE_pure (ent_of Try.func87 rfl rfl) fun G vargs hsz hrep => by rw [args_FF hsz hrep]; exact div_any a b G.w
def cmpE (a b : Fr) : Int × Int := if a.okB && b.okB then (cmpN a b, 0) else (0, 1)
theorem fCmp_pf (a b : Fr) : Pure P 74 [eF a, eF b] (.tup [eI (cmpE a b).1, eI (cmpE a b).2]) :=
  pure_prog (pure_mk (ent_of Try.func74 rfl rfl) (.tup _ (lo_cons (.s _) (lo_cons (.s _) lo_nil))) fun G vargs hst hsz hrep => by
    rw [args_FF hsz hrep]
    refine (cmp_any a b G.w).mono ?_
    rintro e w' ⟨rfl, hb⟩
    refine ⟨_, rfl, hb, .tup _ _ rfl (fun j v c hv hc => ?_)⟩
    match j, hv, hc with
    | 0, hv, hc => simp at hv hc; subst hv hc; unfold cmpE eI; cases a.okB <;> cases b.okB <;> exact .s _
    | 1, hv, hc => simp at hv hc; subst hv hc; unfold cmpE eI; cases a.okB <;> cases b.okB <;> exact .s _
    | j + 2, hv, hc => simp at hv)
theorem fValid_pf (a : Fr) : Pure P 47 [eF a] (eB a.okB) :=
  ret_s_pure (ent_of Try.func47 rfl rfl) fun G vargs hsz hrep => by rw [args_F hsz hrep]; exact fracValid_any a G.w
theorem rValid_pf (a : Fr) : Pure P 56 [eF a] (eB a.okB) :=
  ret_s_pure (ent_of Try.func56 rfl rfl) fun G vargs hsz hrep => by rw [args_F hsz hrep]; exact rvalid_any a G.w
theorem rOf_pf (n : Int) : Pure P 60 [eI n] (eF (Fr.of n)) :=
  retF_pure (ent_of Try.func60 rfl rfl) fun G vargs hsz hrep => by
    obtain ⟨q⟩ := vargs
    match q, hsz with
    | [u], _ => rw [rep_s (hrep 0 u _ rfl rfl)]; exact rof_any n G.w
theorem rNeg_pf (a : Fr) (h : -1073741824 ≤ a.n ∧ a.n ≤ 1073741824) : Pure P 41 [eF a] (eF (fneg a)) :=
  retF_pure (ent_of Try.func41 rfl rfl) fun G vargs hsz hrep => by rw [args_F hsz hrep]; exact rneg_any a G.w h
theorem rCmp_pf (a b : Fr) (ha : a.ok) (hb : b.ok) : Pure P 59 [eF a, eF b] (eI (cmpN a b)) :=
  ret_s_pure (ent_of Try.func59 rfl rfl) fun G vargs hsz hrep => by rw [args_FF hsz hrep]; exact rcmp_any a b G.w ha hb
theorem rAdd_pf (a b : Fr) : Pure P 62 [eF a, eF b] (eFE (addE a b)) :=
  retFE_pure (ent_of Try.func62 rfl rfl) fun G vargs hsz hrep => by rw [args_FF hsz hrep]; exact radd_any a b G.w
theorem rMul_pf (a b : Fr) : Pure P 61 [eF a, eF b] (eFE (mulE a b)) :=
  retFE_pure (ent_of Try.func61 rfl rfl) fun G vargs hsz hrep => by rw [args_FF hsz hrep]; exact rmul_any a b G.w
theorem indexFF_pf (f : FuncId) (caps : List AV) (p : Fr → Bool) (l : List Fr) (hlo : ∀ a : Fr, Lo 0 (eF a)) (hlc : Lo 0 (.fn f caps)) (hf : ∀ a ∈ l, Pure P f ([eF a] ++ caps) (eB (p a))) :
    Pure P 69 [eL eF l, .fn f caps] (eI (firstAt p l)) := by
  refine aw_fn (by rw [IsP.eq (P := P)]; exact Try.func69) rfl rfl rfl rfl rfl (lo_cons (lo_map hlo) (lo_cons hlc lo_nil)) (.s _) (by simp only [argF]; rfl) ?_
  refine aw_bdm (d := 0) rfl (fun hmx => ?_)
  unfold maxLen at hmx
  repeat (first | refine aw_seq ?_ | refine ath_n ?_ | refine aw_skip ?_ | refine abl_n ?_ | refine aw_block ?_)
  refine aw_region ?_
  refine ops_op rfl rfl (runs_none rfl) (mv_s (.inr rfl) rfl) ?_
  refine ops_nil ?_
  repeat (first | refine aw_seq ?_ | refine ath_n ?_ | refine aw_skip ?_ | refine abl_n ?_ | refine aw_block ?_)
  refine aw_region ?_
  first | refine ops_op rfl rfl (runs_none rfl) (mv_own (.inl rfl) rfl) ?_ | refine ops_op rfl rfl (runs_none rfl) (mv_sl (.inl rfl) rfl) ?_ | refine ops_op rfl rfl (runs_none rfl) (mv_s (.inl rfl) rfl) ?_ | refine ops_op rfl rfl (runs_none rfl) (mv_emp (.inl rfl) rfl) ?_
  first | refine ops_op rfl rfl (runs_none rfl) (does_len_map rfl ts22 rfl) ?_ | refine ops_op rfl rfl (runs_none rfl) (does_len_sl rfl ts22 rfl) ?_ | refine ops_op rfl rfl (runs_none rfl) (does_len_own rfl ts22 rfl) ?_ | refine ops_op rfl rfl (runs_none rfl) (does_len_s rfl ts22 rfl) ?_ | refine ops_op rfl rfl (runs_none rfl) (does_len_emp rfl ts22 rfl) ?_
  refine ops_op rfl rfl (runs_none rfl) (mv_s (.inl rfl) rfl) ?_
  refine ops_nil ?_
  repeat (first | refine aw_seq ?_ | refine ath_n ?_ | refine aw_skip ?_ | refine abl_n ?_ | refine aw_block ?_)
  refine aw_loops (S := Nat) (fun k => [(0, eL eF l), (1, .fn f caps), (7, eI l.length), (8, eI k)]) (fun _ => []) (fun k => k ≤ l.length ∧ ∀ j a, j < k → l[j]? = some a → p a = false) (fun k => l.length - k) 0 (wk_sub _ ⟨rfl, rfl, rfl, rfl, trivial⟩) ⟨by omega, fun j a hj => by omega⟩ (fun k hk => ?_)
  repeat (first | refine aw_seq ?_ | refine ath_n ?_ | refine aw_skip ?_ | refine abl_n ?_ | refine aw_block ?_)
  refine aw_region ?_
  refine ops_op rfl rfl (runs_none rfl) (does_lss rfl rfl rfl) ?_
  refine ops_nil ?_
  repeat (first | refine aw_seq ?_ | refine ath_n ?_ | refine aw_skip ?_ | refine abl_n ?_ | refine aw_block ?_)
  refine aw_if rfl (fun h => ?_) (fun h => ?_)
  · have hlt : k < l.length := by omega
    repeat (first | refine aw_seq ?_ | refine ath_n ?_ | refine aw_skip ?_ | refine abl_n ?_ | refine aw_block ?_)
    refine aw_region ?_
    refine ops_op rfl rfl (runs_none rfl) (mv_s (.inl rfl) rfl) ?_
    refine ops_op rfl rfl (runs_none rfl) (mv_s (.inr rfl) rfl) ?_
    refine ops_nil ?_
    repeat (first | refine aw_seq ?_ | refine ath_n ?_ | refine aw_skip ?_ | refine abl_n ?_ | refine aw_block ?_)
    have hp := hf (gti l k) (gti_mem hlt)
    refine aw_region ?_
    first | refine ops_op rfl rfl (runs_none rfl) (mv_fn (.inl rfl) rfl) ?_ | refine ops_op rfl rfl (runs_none rfl) (mv_s (.inl rfl) rfl) ?_
    first | refine ops_op rfl rfl (runs_none rfl) (mv_own (.inl rfl) rfl) ?_ | refine ops_op rfl rfl (runs_none rfl) (mv_sl (.inl rfl) rfl) ?_ | refine ops_op rfl rfl (runs_none rfl) (mv_s (.inl rfl) rfl) ?_ | refine ops_op rfl rfl (runs_none rfl) (mv_emp (.inl rfl) rfl) ?_
    refine ops_op rfl rfl (runs_none rfl) (mv_s (.inl rfl) rfl) ?_
    first | refine ops_op rfl rfl (runs_none rfl) (does_index_sl rfl ts22 ti28 rfl rfl rfl (ix_map (by omega)) rfl) ?_ | refine ops_op rfl rfl (runs_none rfl) (does_index_own rfl ts22 ti28 rfl rfl rfl (by omega)) ?_
    first | refine ops_op rfl rfl (runs_none rfl) (does_load_refw rfl ta28 ti28 rfl rfl) ?_ | refine ops_op rfl rfl (runs_none rfl) (does_load_whole rfl ta28 ti28 rfl rfl rfl rfl rfl) ?_ | refine ops_op rfl rfl (runs_none rfl) (does_load_refs rfl ta28 ti28 rfl (Nat.le_of_ble_eq_true rfl)) ?_ | refine ops_op rfl rfl (runs_none rfl) (does_load_ptrs rfl ta28 ti28 rfl rfl rfl rfl (Nat.le_of_ble_eq_true rfl)) ?_
    refine ops_op rfl rfl (runs_none rfl) (does_call rfl rfl (hp) (evc_cons rfl evc_nil)) ?_
    refine ops_nil ?_
    repeat (first | refine aw_seq ?_ | refine ath_n ?_ | refine aw_skip ?_ | refine abl_n ?_ | refine aw_block ?_)
    refine aw_cond rfl (fun h => ?_) (fun h => ?_)
    · repeat (first | refine aw_seq ?_ | refine ath_n ?_ | refine aw_skip ?_ | refine abl_n ?_ | refine aw_block ?_)
      refine aw_region ?_
      refine ops_op rfl rfl (runs_none rfl) (mv_s (.inl rfl) rfl) ?_
      refine ops_op rfl rfl (runs_none rfl) (mv_s (.inr rfl) rfl) ?_
      refine ops_nil ?_
      repeat (first | refine aw_seq ?_ | refine ath_n ?_ | refine aw_skip ?_ | refine abl_n ?_ | refine aw_block ?_)
      (refine aw_ret ?_; repeat (first | refine ath_r ?_ | refine abl_r ?_))
      exact post1 (.inr rfl) rfl (congrArg eI (firstAt_some (gti_get hlt) h hk.2).symm)
    · repeat (first | refine aw_seq ?_ | refine ath_n ?_ | refine aw_skip ?_ | refine abl_n ?_ | refine aw_block ?_)
      refine aw_region ?_
      refine ops_op rfl rfl (runs_none rfl) (does_add rfl rfl rfl (IntWalk.i64_in _ (by omega))) ?_
      refine ops_op rfl rfl (runs_none rfl) (mv_s (.inl rfl) rfl) ?_
      refine ops_nil ?_
      repeat (first | refine aw_seq ?_ | refine ath_n ?_ | refine aw_skip ?_ | refine abl_n ?_ | refine aw_block ?_)
      refine ⟨k + 1, ⟨by omega, fun j a hj ha => ?_⟩, by omega, wk_sub _ ⟨rfl, rfl, rfl, rfl, trivial⟩⟩
      by_cases e : j = k
      · subst e
        rw [gti_get hlt] at ha
        cases ha
        exact h
      · exact hk.2 j a (by omega) ha
  · (refine aw_exit ?_; repeat (first | refine ath_x ?_ | refine abl_hit ?_ | refine abl_miss rfl ?_ | refine abl_n ?_ | refine ath_n ?_ | refine aw_seq ?_ | refine aw_skip ?_ | refine aw_block ?_))
    refine aw_region ?_
    refine ops_op rfl rfl (runs_none rfl) (mv_s (.inr rfl) rfl) ?_
    refine ops_nil ?_
    repeat (first | refine aw_seq ?_ | refine ath_n ?_ | refine aw_skip ?_ | refine abl_n ?_ | refine aw_block ?_)
    (refine aw_ret ?_; repeat (first | refine ath_r ?_ | refine abl_r ?_))
    exact post1 (.inr rfl) rfl (congrArg eI (firstAt_none (fun j a hj ha => hk.2 j a (by omega) ha)).symm)
theorem containsFF_pf (f : FuncId) (caps : List AV) (p : Fr → Bool) (l : List Fr) (hlo : ∀ a : Fr, Lo 0 (eF a)) (hlc : Lo 0 (.fn f caps)) (hf : ∀ a ∈ l, Pure P f ([eF a] ++ caps) (eB (p a))) :
    Pure P 45 [eL eF l, .fn f caps] (eB (l.any p)) := by
  refine aw_fn (by rw [IsP.eq (P := P)]; exact Try.func45) rfl rfl rfl rfl rfl (lo_cons (lo_map hlo) (lo_cons hlc lo_nil)) (.s _) (by simp only [argF]; rfl) ?_
  have hi := indexFF_pf f caps p l hlo hlc hf
  repeat (first | refine aw_seq ?_ | refine ath_n ?_ | refine aw_skip ?_ | refine abl_n ?_ | refine aw_block ?_)
  refine aw_region ?_
  refine ops_op rfl rfl (runs_none rfl) (mv_s (.inr rfl) rfl) ?_
  refine ops_nil ?_
  repeat (first | refine aw_seq ?_ | refine ath_n ?_ | refine aw_skip ?_ | refine abl_n ?_ | refine aw_block ?_)
  refine aw_region ?_
  first | refine ops_op rfl rfl (runs_none rfl) (mv_own (.inl rfl) rfl) ?_ | refine ops_op rfl rfl (runs_none rfl) (mv_sl (.inl rfl) rfl) ?_ | refine ops_op rfl rfl (runs_none rfl) (mv_s (.inl rfl) rfl) ?_ | refine ops_op rfl rfl (runs_none rfl) (mv_emp (.inl rfl) rfl) ?_
  first | refine ops_op rfl rfl (runs_none rfl) (mv_fn (.inl rfl) rfl) ?_ | refine ops_op rfl rfl (runs_none rfl) (mv_s (.inl rfl) rfl) ?_
  refine ops_op rfl rfl (runs_none rfl) (does_call rfl rfl (hi) (evc_cons rfl (evc_cons rfl evc_nil))) ?_
  refine ops_op rfl rfl (runs_none rfl) (does_geq rfl rfl rfl) ?_
  refine ops_op rfl rfl (runs_none rfl) (mv_s (.inr rfl) rfl) ?_
  refine ops_nil ?_
  repeat (first | refine aw_seq ?_ | refine ath_n ?_ | refine aw_skip ?_ | refine abl_n ?_ | refine aw_block ?_)
  (refine aw_ret ?_; repeat (first | refine ath_r ?_ | refine abl_r ?_))
  exact post1 (.inr rfl) rfl (congrArg eB (firstAt_any p l))
end Go.Proofs.Ytcpnffjnagbkoaa.Aw
end
section
namespace Go.Proofs.Ytcpnffjnagbkoaa.Aw
set_option linter.unusedSimpArgs false
set_option linter.unusedVariables false
open Go.RowKit
section
variable {P : Program} {N : Nat} {F : Frm} {σ : List Ob} {Q : Exit → Frm → List Ob → Prop} {ops : Array Oper} {o : Oper} {l : List Oper} {d : Nat}
theorem ops_opP {p : Prop} [Decidable p] (hd : o.dst = some d) (hN : Nat.blt d N = true) (hr : Runs ops F o true) (hD : Does P o F σ (.s (.bool (decide p))) σ) (k1 : p → AOps P N ops l ((d, .s (.bool true)) :: F) σ Q) (k2 : ¬ p → AOps P N ops l ((d, .s (.bool false)) :: F) σ Q) : AOps P N ops (o :: l) F σ Q := by
  by_cases h : p
  · exact ops_op hd hN hr (dec_t h hD) (k1 h)
  · exact ops_op hd hN hr (dec_f h hD) (k2 h)
theorem ops_opB {b : Bool} (hd : o.dst = some d) (hN : Nat.blt d N = true) (hr : Runs ops F o true) (hD : Does P o F σ (.s (.bool b)) σ) (k1 : b = true → AOps P N ops l ((d, .s (.bool true)) :: F) σ Q) (k2 : b = false → AOps P N ops l ((d, .s (.bool false)) :: F) σ Q) : AOps P N ops (o :: l) F σ Q := by
  cases b with
  | true => exact ops_op hd hN hr hD (k1 rfl)
  | false => exact ops_op hd hN hr hD (k2 rfl)
theorem qx_opP {K : Frm → Prop} {p : Prop} [Decidable p] (hd : o.dst = some d) (hN : Nat.blt d N = true) (hr : Runs ops F o true) (hD : Does P o F σ (.s (.bool (decide p))) σ) (k1 : p → QX P N ops σ l ((d, .s (.bool true)) :: F) K) (k2 : ¬ p → QX P N ops σ l ((d, .s (.bool false)) :: F) K) : QX P N ops σ (o :: l) F K := by
  by_cases h : p
  · exact qx_op hd hN hr (dec_t h hD) (k1 h)
  · exact qx_op hd hN hr (dec_f h hD) (k2 h)
theorem qx_opB {K : Frm → Prop} {b : Bool} (hd : o.dst = some d) (hN : Nat.blt d N = true) (hr : Runs ops F o true) (hD : Does P o F σ (.s (.bool b)) σ) (k1 : b = true → QX P N ops σ l ((d, .s (.bool true)) :: F) K) (k2 : b = false → QX P N ops σ l ((d, .s (.bool false)) :: F) K) : QX P N ops σ (o :: l) F K := by
  cases b with
  | true => exact qx_op hd hN hr hD (k1 rfl)
  | false => exact qx_op hd hN hr hD (k2 rfl)
end
end Go.Proofs.Ytcpnffjnagbkoaa.Aw
end
