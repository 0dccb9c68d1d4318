/-
  Walks of casebook/frac: gcd, abs, fit, Valid. Conditions: the numbers are in the ranges that the callers keep.
-/
import Derived.Test.YtmhbfoaecebobaaBase
import Derived.Test.YtmhbfoaecebobaaFr
namespace Go.Proofs.Ytmhbfoaecebobaa
set_option linter.unusedSimpArgs false
set_option linter.unusedVariables false
open Go.RowKit

set_option maxHeartbeats 400000 in
theorem abs_any (a : Int) (w : World) (h1 : -4611686018427387904 ≤ a) (h2 : a ≤ 4611686018427387904) :
    Calls Try.prog 82 #[.int .i64 a] w fun e w' => e = .returned (.int .u64 (a.natAbs : Int)) ∧ w = w' := by
  by_cases h : a < 0
  · go_enter Try.func82, Try.ntmps82
    go_wp2
    go_ret
    exact ⟨by simp [IntKind.wrap_u64]; omega, rfl⟩
  · go_enter Try.func82, Try.ntmps82
    go_wp2
    go_ret
    exact ⟨by simp; omega, rfl⟩

theorem fit_nf (neg : Bool) (num den : Nat) (hd : 0 < den) : nf (if neg then -(num : Int) else num) den = ⟨if neg then -((num / Nat.gcd num den : Nat) : Int) else ((num / Nat.gcd num den : Nat) : Int), ((den / Nat.gcd num den : Nat) : Int)⟩ := by
  have hs : Int.sign (den : Int) = 1 := Int.sign_eq_one_of_pos (by omega)
  cases neg
  · simp [nf, hs, Int.gcd]
  · simp only [nf, hs, Int.gcd, if_true, Int.natAbs_neg, Int.natAbs_natCast, Int.one_mul]
    congr 1
    exact Int.neg_ediv_of_dvd (by rw [Int.natCast_dvd_natCast]; exact Nat.gcd_dvd_left ..)

theorem mkF_fit (neg : Bool) (num den x y : Nat) (hd : 0 < den) (hx : num / Nat.gcd num den = x) (hy : den / Nat.gcd num den = y) :
    mkF (if neg then -(num : Int) else num) den = if x ≤ 1073741824 ∧ y ≤ 1073741824 then some ⟨if neg then -(x : Int) else x, y⟩ else none := by
  unfold mkF
  rw [fit_nf neg num den hd, hx, hy]
  by_cases h : x ≤ 1073741824 ∧ y ≤ 1073741824
  · rw [if_pos h, if_pos]
    simp only [Fr.fits, decide_eq_true_eq]
    cases neg <;> simp <;> omega
  · rw [if_neg h, if_neg]
    simp only [Fr.fits, decide_eq_true_eq]
    cases neg <;> simp <;> omega

set_option maxHeartbeats 1000000 in
theorem fit_any (neg : Bool) (num den : Nat) (w : World) (hd : 0 < den) (h1 : num ≤ 9223372036854775808) (h2 : den ≤ 9223372036854775808) :
    Calls Try.prog 81 #[.bool neg, .int .u64 num, .int .u64 den] w fun e w' => e = .returned (.tuple #[.agg #[.int .i64 (FE.of (mkF (if neg then -(num : Int) else num) den)).n, .int .i64 (FE.of (mkF (if neg then -(num : Int) else num) den)).d], .int .i64 (FE.of (mkF (if neg then -(num : Int) else num) den)).e]) ∧ Below w.heap.size w w' := by
  refine calls_cps fun R hR => ?_
  have HR := Lib.hid hR
  clear hR
  go_enter Try.func81, Try.ntmps81
  go_wp2
  go_loopw [8, 9] (fun x y wr => ∃ p q : Nat, p ≤ 9223372036854775808 ∧ q ≤ 9223372036854775808 ∧ x = .int .u64 p ∧ y = .int .u64 q ∧ Nat.gcd p q = Nat.gcd num den ∧ ∃ n, wr = (w.alloc (.cells #[.int .i64 0, .int .i64 0] 39)).drewN n) (fun _ y _ => (intOf y).toNat)
  case atStart => exact ⟨num, den, h1, h2, rfl, rfl, rfl, 0, rfl⟩
  case round =>
    obtain ⟨p, q, hp', hq', rfl, rfl, hg, n, rfl⟩ := hrel
    by_cases h0 : q = 0
    · subst h0
      simp only [Nat.gcd_zero_right] at hg
      have hp0 : 0 < p := by rw [hg]; exact Nat.gcd_pos_of_pos_right _ hd
      obtain ⟨x, hx⟩ : ∃ x, num / p = x := ⟨_, rfl⟩
      obtain ⟨y, hy⟩ : ∃ y, den / p = y := ⟨_, rfl⟩
      have hx1 : x ≤ 9223372036854775808 := by have := Nat.div_le_self num p; omega
      have hy1 : y ≤ 9223372036854775808 := by have := Nat.div_le_self den p; omega
      have HF := Lib.hid (mkF_fit neg num den x y hd (by rw [← hg]; exact hx) (by rw [← hg]; exact hy))
      have wx : IntKind.u64.wrap ((num : Int) / (p : Int)) = (x : Int) := by rw [IntKind.wrap_u64, ← Int.natCast_ediv, hx]; omega
      have wy : IntKind.u64.wrap ((den : Int) / (p : Int)) = (y : Int) := by rw [IntKind.wrap_u64, ← Int.natCast_ediv, hy]; omega
      have hne : (((p : Nat) : Int) == 0) = false := by simp; omega
      clear hg hx hy
      go_wp2
      go_quiet (fail)
      clear wx wy
      by_cases hbx : (1073741824 : Int) < x
      · go_wp2
        refine bodyPost_ret (v := .tuple #[.agg #[.int .i64 0, .int .i64 0], .int .i64 6]) (by simp [results, Try.results81, go_sem]) rfl (HR.out _ _ ⟨?_, ?_⟩)
        · rw [HF.out, if_neg (by omega)]; rfl
        · (repeat (first | exact Below.refl _ _ | assumption | refine Below.setCell ?_ (by first | omega | (simp; done) | (simp; omega)) _ | refine Below.alloc ?_ (by first | omega | (simp; done) | (simp; omega)) _ | refine Below.drew ?_ | refine below_drewN ?_ _))
      · by_cases hby : (1073741824 : Int) < y
        · have hbx' : decide ((1073741824 : Int) < x) = false := by simpa using hbx
          go_wp2
          refine bodyPost_ret (v := .tuple #[.agg #[.int .i64 0, .int .i64 0], .int .i64 6]) (by simp [results, Try.results81, go_sem]) rfl (HR.out _ _ ⟨?_, ?_⟩)
          · rw [HF.out, if_neg (by omega)]; rfl
          · (repeat (first | exact Below.refl _ _ | assumption | refine Below.setCell ?_ (by first | omega | (simp; done) | (simp; omega)) _ | refine Below.alloc ?_ (by first | omega | (simp; done) | (simp; omega)) _ | refine Below.drew ?_ | refine below_drewN ?_ _))
        · have hbx' : decide ((1073741824 : Int) < x) = false := by simpa using hbx
          have hby' : decide ((1073741824 : Int) < y) = false := by simpa using hby
          cases neg
          · go_wp2
            refine bodyPost_ret (v := .tuple #[.agg #[.int .i64 x, .int .i64 y], .int .i64 0]) (by simp [results, Try.results81, go_sem]) rfl (HR.out _ _ ⟨?_, ?_⟩)
            · rw [HF.out, if_pos (by omega)]; rfl
            · (repeat (first | exact Below.refl _ _ | assumption | refine Below.setCell ?_ (by first | omega | (simp; done) | (simp; omega)) _ | refine Below.alloc ?_ (by first | omega | (simp; done) | (simp; omega)) _ | refine Below.drew ?_ | refine below_drewN ?_ _))
          · go_wp2
            refine bodyPost_ret (v := .tuple #[.agg #[.int .i64 (-x), .int .i64 y], .int .i64 0]) (by simp [results, Try.results81, go_sem]) rfl (HR.out _ _ ⟨?_, ?_⟩)
            · rw [HF.out, if_pos (by omega)]; rfl
            · (repeat (first | exact Below.refl _ _ | assumption | refine Below.setCell ?_ (by first | omega | (simp; done) | (simp; omega)) _ | refine Below.alloc ?_ (by first | omega | (simp; done) | (simp; omega)) _ | refine Below.drew ?_ | refine below_drewN ?_ _))
    · have HG := Lib.hid hg
      clear hg
      have hne : (((q : Nat) : Int) != 0) = true := by simp; omega
      have hne2 : (((q : Nat) : Int) == 0) = false := by simp; omega
      go_wp2
      go_quiet (fail)
      go_wp2
      have hlt : p % q < q := Nat.mod_lt _ (by omega)
      go_roundw
      case rel => exact ⟨q, p % q, hq', by omega, rfl, by rw [Int.natCast_emod], by rw [← HG.out, Nat.gcd_comm q, ← Nat.gcd_rec, Nat.gcd_comm], n + nq, by rw [World.drewN_drewN]⟩
      case measure => simp only [intOf]; omega

end Go.Proofs.Ytmhbfoaecebobaa
