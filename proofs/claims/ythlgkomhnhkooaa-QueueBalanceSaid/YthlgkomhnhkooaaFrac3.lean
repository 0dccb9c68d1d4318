/-
  Walks of casebook/frac: Add, Sub, Mul, Div, Cmp. Conditions: none.
-/
import Derived.Test.YthlgkomhnhkooaaFrac2
namespace Go.Proofs.Ythlgkomhnhkooaa
set_option linter.unusedSimpArgs false
set_option linter.unusedVariables false
open Go.RowKit

theorem bcell {B : Nat} {W w1 : World} (hb : Below B W w1) : (∀ b o, b < B → w1.cell? ⟨b, o, none⟩ = W.cell? ⟨b, o, none⟩) ∧ (∀ b o, b < B → w1.frozen? ⟨b, o, none⟩ = W.frozen? ⟨b, o, none⟩) :=
  ⟨fun b o h => hb.cell (p := ⟨b, o, none⟩) h, fun b o h => hb.frozen (p := ⟨b, o, none⟩) h⟩

theorem RdB_two {W : World} {n : Nat} {a b : Fr} (h0 : W.cell? ⟨n, 0, none⟩ = some (.int .i64 a.n)) (h1 : W.cell? ⟨n, 1, none⟩ = some (.int .i64 a.d)) (h2 : W.cell? ⟨n, 2, none⟩ = some (.int .i64 b.n)) (h3 : W.cell? ⟨n, 3, none⟩ = some (.int .i64 b.d)) (hn : n < W.heap.size) :
    RdB W W.heap.size (.slice (some ⟨n, 0, none⟩) 2 2) [a, b] := by
  refine ⟨_, 2, rfl, by simp [maxLen], by simp, fun _ => ⟨_, _, rfl, hn, ?_⟩⟩
  intro i c hc
  match i, hc with
  | 0, hc => simp at hc; subst hc; exact ⟨h0, h1⟩
  | 1, hc => simp at hc; subst hc; exact ⟨h2, h3⟩
  | i + 2, hc => simp at hc

theorem fit_int (neg : Bool) (num den n : Int) (w : World) (h0 : 0 ≤ num) (hd : 0 < den) (h1 : num ≤ 9223372036854775808) (h2 : den ≤ 9223372036854775808) (hn : (if neg then -num else num) = n) :
    Calls Try.prog 58 #[.bool neg, .int .u64 num, .int .u64 den] w fun e w' => e = .returned (.tuple #[.agg #[.int .i64 (FE.of (mkF n den)).n, .int .i64 (FE.of (mkF n den)).d], .int .i64 (FE.of (mkF n den)).e]) ∧ Below w.heap.size w w' := by
  obtain ⟨a, rfl⟩ := Int.eq_ofNat_of_zero_le h0
  obtain ⟨b, rfl⟩ := Int.eq_ofNat_of_zero_le (Int.le_of_lt hd)
  subst hn
  exact fit_any neg a b w (by omega) (by omega) (by omega)

set_option maxHeartbeats 2000000 in
theorem add_any (a b : Fr) (w : World) :
    Calls Try.prog 57 #[.agg #[.int .i64 (a).n, .int .i64 (a).d], .agg #[.int .i64 (b).n, .int .i64 (b).d]] w fun e w' =>
      e = .returned (.tuple #[.agg #[.int .i64 (addE a b).n, .int .i64 (addE a b).d], .int .i64 (addE a b).e]) ∧ Below w.heap.size w w' := by
  refine calls_cps fun R hR => ?_
  have HR := Lib.hid hR
  clear hR
  go_enter Try.func57, Try.ntmps57
  go_wp2_with fail
  refine (valid_any [a, b] _ _ (RdB_two (by simp [go_sem]) (by simp [go_sem]) (by simp [go_sem]) (by simp [go_sem]) (by simp))).mono ?_
  rintro e w1 ⟨rfl, hb1⟩
  obtain ⟨p1, p2, p3, p4, p5⟩ := B2.after (g := w.heap.size) (x := .int .i64 a.n) (y := .int .i64 a.d) hb1 (by simp [B2, go_sem]) (by first | omega | (simp; done) | (simp; omega))
  obtain ⟨q1, q2, q3, q4, q5⟩ := B2.after (g := w.heap.size + 1) (x := .int .i64 b.n) (y := .int .i64 b.d) hb1 (by simp [B2, go_sem]) (by first | omega | (simp; done) | (simp; omega))
  have K2 := B2.after (g := w.heap.size + 1 + 1) (x := .int .i64 0) (y := .int .i64 0) hb1 (by simp [B2, go_sem]) (by first | omega | (simp; done) | (simp; omega))
  have HB : Hid (Below w.heap.size w w1) := Lib.hid (by refine Below.step ?_ hb1 (by first | omega | (simp; done) | (simp; omega)); (repeat (first | exact Below.refl _ _ | assumption | refine Below.setCell ?_ (by first | omega | (simp; done) | (simp; omega)) _ | refine Below.alloc ?_ (by first | omega | (simp; done) | (simp; omega)) _ | refine Below.drew ?_ | refine below_drewN ?_ _)))
  clear hb1
  cases hv : a.okB && b.okB with
  | false =>
    have hv' : [a, b].all Fr.okB = false := by simpa using hv
    have HV := Lib.hid hv
    clear hv
    obtain ⟨k1, k2, k3, k4, k5⟩ := K2
    go_wp2
    refine bodyPost_ret (v := .tuple #[.agg #[.int .i64 0, .int .i64 0], .int .i64 1]) (by simp [results, Try.results57, go_sem, k1, k2]) rfl (HR.out _ _ ⟨?_, ?_⟩)
    · simp [addE, HV.out, FE.err]
    · have := HB.out; (repeat (first | exact Below.refl _ _ | assumption | refine Below.setCell ?_ (by first | omega | (simp; done) | (simp; omega)) _ | refine Below.alloc ?_ (by first | omega | (simp; done) | (simp; omega)) _ | refine Below.drew ?_ | refine below_drewN ?_ _))
  | true =>
    have hv' : [a, b].all Fr.okB = true := by simpa using hv
    have HV := Lib.hid hv
    have hv2 : a.ok ∧ b.ok := by simpa [Fr.okB] using hv
    obtain ⟨hva, hvb⟩ := hv2
    have ⟨a1, a2, a3, a4, _⟩ := hva
    have ⟨b1, b2, b3, b4, _⟩ := hvb
    have HL := Lib.hid (fadd_lcm a b hva)
    have hg0 : 0 < (Int.gcd a.d b.d : Int) := by have := Int.gcd_pos_iff.2 (Or.inl (show a.d ≠ 0 by omega) : a.d ≠ 0 ∨ b.d ≠ 0); omega
    have hqa := div_bd a.d _ a3 hg0 (Int.gcd_dvd_left ..)
    have hqb := div_bd b.d _ b3 hg0 (Int.gcd_dvd_right ..)
    clear hv hva hvb
    go_wp2_with fail
    refine (gcd_any _ _ _ (by omega) (by omega) (by omega) (by omega)).mono ?_
    rintro e w2 ⟨rfl, n2, rfl⟩
    generalize (Int.gcd a.d b.d : Int) = g at *
    obtain ⟨qa, hqa'⟩ : ∃ q, a.d / g = q := ⟨_, rfl⟩
    obtain ⟨qb, hqb'⟩ : ∃ q, b.d / g = q := ⟨_, rfl⟩
    obtain ⟨x, hx⟩ : ∃ x, a.n * qb = x := ⟨_, rfl⟩
    obtain ⟨y, hy⟩ : ∃ y, b.n * qa = y := ⟨_, rfl⟩
    obtain ⟨z, hz'⟩ : ∃ z, a.d * qb = z := ⟨_, rfl⟩
    have HL2 : Hid (mkF (x + y) z = fadd a b) := Lib.hid (by rw [← hx, ← hy, ← hz', ← hqa', ← hqb']; exact HL.out)
    rw [hqa'] at hqa
    rw [hqb'] at hqb
    have bx := mul_bd a.n qb a1 a2 (by omega) (by omega)
    have bY := mul_bd b.n qa b1 b2 (by omega) (by omega)
    have bz := mul_bd a.d qb (by omega) a4 (by omega) (by omega)
    have bz2 : 0 < a.d * qb := Int.mul_pos (by omega) (by omega)
    rw [hx] at bx
    rw [hy] at bY
    rw [hz'] at bz bz2
    have gz : (g == 0) = false := by simp; omega
    clear HL
    go_wp2
    go_quiet (fail)
    go_wp2
    go_quiet (fail)
    clear hx hy hz' hqa' hqb' gz hg0
    by_cases hx0 : x < 0 <;> by_cases hy0 : y < 0
    · have hs : (decide (x < 0) == decide (y < 0)) = true := by simp [hx0, hy0]
      have wm : IntKind.u64.wrap ((x.natAbs : Int) + (y.natAbs : Int)) = -(x + y) := by rw [IntKind.wrap_u64]; omega
      all_goals
        go_wp2_with (first | (go_at_call 59; refine (abs_any _ _ (by omega) (by omega)).mono ?_; rintro e w' ⟨rfl, rfl⟩) | (go_at_call 58; refine (fit_int _ _ _ (x + y) _ (by omega) (by omega) (by omega) (by omega) (by first | (simp; done) | (simp; omega))).mono ?_; rintro e w3 ⟨rfl, hb3⟩; obtain ⟨k1, k2, k3, k4, k5⟩ := B2.after hb3 K2 (by have := K2.2.2.2.2; simp; omega); have HB3 := Lib.hid hb3; clear hb3))
        refine bodyPost_ret (v := .tuple #[.agg #[.int .i64 (FE.of (mkF (x + y) z)).n, .int .i64 (FE.of (mkF (x + y) z)).d], .int .i64 (FE.of (mkF (x + y) z)).e]) (by simp [results, Try.results57, go_sem, k1, k2]) rfl (HR.out _ _ ⟨?_, ?_⟩)
        · rw [HL2.out]; simp [addE, HV.out]
        · have := Below.step (below_drewN HB.out _) HB3.out (by simp; omega); (repeat (first | exact Below.refl _ _ | assumption | refine Below.setCell ?_ (by first | omega | (simp; done) | (simp; omega)) _ | refine Below.alloc ?_ (by first | omega | (simp; done) | (simp; omega)) _ | refine Below.drew ?_ | refine below_drewN ?_ _))
    · have hs : (decide (x < 0) == decide (y < 0)) = false := by simp [hx0, hy0]
      by_cases hxy : x + y < 0
      all_goals
        go_wp2_with (first | (go_at_call 59; refine (abs_any _ _ (by omega) (by omega)).mono ?_; rintro e w' ⟨rfl, rfl⟩) | (go_at_call 58; refine (fit_int _ _ _ (x + y) _ (by omega) (by omega) (by omega) (by omega) (by first | (simp [hxy]; done) | (simp [hxy]; omega) | (simp; omega))).mono ?_; rintro e w3 ⟨rfl, hb3⟩; obtain ⟨k1, k2, k3, k4, k5⟩ := B2.after hb3 K2 (by have := K2.2.2.2.2; simp; omega); have HB3 := Lib.hid hb3; clear hb3))
        refine bodyPost_ret (v := .tuple #[.agg #[.int .i64 (FE.of (mkF (x + y) z)).n, .int .i64 (FE.of (mkF (x + y) z)).d], .int .i64 (FE.of (mkF (x + y) z)).e]) (by simp [results, Try.results57, go_sem, k1, k2]) rfl (HR.out _ _ ⟨?_, ?_⟩)
        · rw [HL2.out]; simp [addE, HV.out]
        · have := Below.step (below_drewN HB.out _) HB3.out (by simp; omega); (repeat (first | exact Below.refl _ _ | assumption | refine Below.setCell ?_ (by first | omega | (simp; done) | (simp; omega)) _ | refine Below.alloc ?_ (by first | omega | (simp; done) | (simp; omega)) _ | refine Below.drew ?_ | refine below_drewN ?_ _))
    · have hs : (decide (x < 0) == decide (y < 0)) = false := by simp [hx0, hy0]
      by_cases hxy : x + y < 0
      all_goals
        go_wp2_with (first | (go_at_call 59; refine (abs_any _ _ (by omega) (by omega)).mono ?_; rintro e w' ⟨rfl, rfl⟩) | (go_at_call 58; refine (fit_int _ _ _ (x + y) _ (by omega) (by omega) (by omega) (by omega) (by first | (simp [hxy]; done) | (simp [hxy]; omega) | (simp; omega))).mono ?_; rintro e w3 ⟨rfl, hb3⟩; obtain ⟨k1, k2, k3, k4, k5⟩ := B2.after hb3 K2 (by have := K2.2.2.2.2; simp; omega); have HB3 := Lib.hid hb3; clear hb3))
        refine bodyPost_ret (v := .tuple #[.agg #[.int .i64 (FE.of (mkF (x + y) z)).n, .int .i64 (FE.of (mkF (x + y) z)).d], .int .i64 (FE.of (mkF (x + y) z)).e]) (by simp [results, Try.results57, go_sem, k1, k2]) rfl (HR.out _ _ ⟨?_, ?_⟩)
        · rw [HL2.out]; simp [addE, HV.out]
        · have := Below.step (below_drewN HB.out _) HB3.out (by simp; omega); (repeat (first | exact Below.refl _ _ | assumption | refine Below.setCell ?_ (by first | omega | (simp; done) | (simp; omega)) _ | refine Below.alloc ?_ (by first | omega | (simp; done) | (simp; omega)) _ | refine Below.drew ?_ | refine below_drewN ?_ _))
    · have hs : (decide (x < 0) == decide (y < 0)) = true := by simp [hx0, hy0]
      have wm : IntKind.u64.wrap ((x.natAbs : Int) + (y.natAbs : Int)) = x + y := by rw [IntKind.wrap_u64]; omega
      all_goals
        go_wp2_with (first | (go_at_call 59; refine (abs_any _ _ (by omega) (by omega)).mono ?_; rintro e w' ⟨rfl, rfl⟩) | (go_at_call 58; refine (fit_int _ _ _ (x + y) _ (by omega) (by omega) (by omega) (by omega) (by first | (simp; done) | (simp; omega))).mono ?_; rintro e w3 ⟨rfl, hb3⟩; obtain ⟨k1, k2, k3, k4, k5⟩ := B2.after hb3 K2 (by have := K2.2.2.2.2; simp; omega); have HB3 := Lib.hid hb3; clear hb3))
        refine bodyPost_ret (v := .tuple #[.agg #[.int .i64 (FE.of (mkF (x + y) z)).n, .int .i64 (FE.of (mkF (x + y) z)).d], .int .i64 (FE.of (mkF (x + y) z)).e]) (by simp [results, Try.results57, go_sem, k1, k2]) rfl (HR.out _ _ ⟨?_, ?_⟩)
        · rw [HL2.out]; simp [addE, HV.out]
        · have := Below.step (below_drewN HB.out _) HB3.out (by simp; omega); (repeat (first | exact Below.refl _ _ | assumption | refine Below.setCell ?_ (by first | omega | (simp; done) | (simp; omega)) _ | refine Below.alloc ?_ (by first | omega | (simp; done) | (simp; omega)) _ | refine Below.drew ?_ | refine below_drewN ?_ _))

end Go.Proofs.Ythlgkomhnhkooaa
