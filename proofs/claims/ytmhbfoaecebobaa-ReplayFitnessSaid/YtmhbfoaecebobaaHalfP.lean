/-
  Half the sum of two fractions in lowest terms, plainly. Conditions: none.
-/
import Derived.Test.YtmhbfoaecebobaaFr
namespace Go.Proofs.Ytmhbfoaecebobaa
set_option linter.unusedSimpArgs false
set_option linter.unusedVariables false

theorem nf_pos {n d : Int} (hd : 0 < d) : ∃ g n' d' : Int, 0 < g ∧ n = g * n' ∧ d = g * d' ∧ 0 < d' ∧ nf n d = ⟨n', d'⟩ := by
  have hg : 0 < (Int.gcd n d : Int) := by
    have : 0 < Int.gcd n d := Int.gcd_pos_of_ne_zero_right _ (by omega)
    omega
  obtain ⟨n', hn⟩ := Int.gcd_dvd_left n d
  obtain ⟨d', hd'⟩ := Int.gcd_dvd_right n d
  refine ⟨_, n', d', hg, hn, hd', ?_, ?_⟩
  · rcases Int.lt_or_le 0 d' with h | h
    · exact h
    · exact absurd (Int.mul_nonpos_of_nonneg_of_nonpos (Int.le_of_lt hg) h) (by rw [← hd']; omega)
  · unfold nf
    have e1 : Int.sign d = 1 := Int.sign_eq_one_of_pos hd
    have e2 : (d.natAbs : Int) = d := by omega
    have e3 : n / (Int.gcd n d : Int) = n' := by
      have := Int.mul_ediv_cancel_left n' (show (Int.gcd n d : Int) ≠ 0 by omega)
      rw [← hn] at this
      exact this
    have e4 : d / (Int.gcd n d : Int) = d' := by
      have := Int.mul_ediv_cancel_left d' (show (Int.gcd n d : Int) ≠ 0 by omega)
      rw [← hd'] at this
      exact this
    rw [e1, e2, e3, e4, Int.one_mul]
theorem nf_cross {n d : Int} (hd : 0 < d) : (nf n d).n * d = n * (nf n d).d := by
  obtain ⟨g, n', d', hg, hn, hd', _, h⟩ := nf_pos (n := n) hd
  rw [h]
  simp only
  rw [hn, hd']
  grind
theorem nf_bd {n d B : Int} (hd : 0 < d) (h1 : -B ≤ n) (h2 : n ≤ B) (h3 : d ≤ B) : -B ≤ (nf n d).n ∧ (nf n d).n ≤ B ∧ 1 ≤ (nf n d).d ∧ (nf n d).d ≤ B := by
  obtain ⟨g, n', d', hg, hn, hd', hp, h⟩ := nf_pos (n := n) hd
  rw [h]
  simp only
  have ha : n'.natAbs ≤ n.natAbs := by
    rw [hn, Int.natAbs_mul]
    exact Nat.le_mul_of_pos_left _ (by omega)
  have hb : d'.natAbs ≤ d.natAbs := by
    rw [hd', Int.natAbs_mul]
    exact Nat.le_mul_of_pos_left _ (by omega)
  omega
theorem mkF_cross {n1 d1 n2 d2 : Int} (h1 : 0 < d1) (h2 : 0 < d2) (h : n1 * d2 = n2 * d1) : mkF n1 d1 = mkF n2 d2 := by
  rw [← mkF_scale d2 n1 d1 h2, ← mkF_scale d1 n2 d2 h1]
  rw [show d2 * n1 = d1 * n2 by rw [Int.mul_comm, h, Int.mul_comm], Int.mul_comm d2 d1]
theorem mkF_nf {n d : Int} (hd : 0 < d) (h1 : -1073741824 ≤ n) (h2 : n ≤ 1073741824) (h3 : d ≤ 1073741824) : mkF n d = some (nf n d) := by
  have := nf_bd hd h1 h2 h3
  unfold mkF Fr.fits
  rw [if_pos (by simp; omega)]
/-- half the sum: its numerator, and half its denominator -/
def hN (a b : Fr) : Int := a.n * (b.d / (Int.gcd a.d b.d : Int)) + b.n * (a.d / (Int.gcd a.d b.d : Int))
def hD (a b : Fr) : Int := a.d / (Int.gcd a.d b.d : Int) * b.d
theorem half_cross {a b : Fr} {c m p r : Int} (ha : 1 ≤ a.d) (hb : 1 ≤ b.d) (hc : 0 < c) (hp : 0 < p) (h1 : a.n * c = (c - m) * a.d) (h2 : b.n * p = (p - r) * b.d) : 0 < hD a b ∧ mkF (hN a b) (2 * hD a b) = mkF (2 * (c * p) - m * p - r * c) (2 * (c * p)) := by
  have hg : 0 < (Int.gcd a.d b.d : Int) := by
    have : 0 < Int.gcd a.d b.d := Int.gcd_pos_of_ne_zero_right _ (by omega)
    omega
  obtain ⟨x, hx⟩ := Int.gcd_dvd_left a.d b.d
  obtain ⟨y, hy⟩ := Int.gcd_dvd_right a.d b.d
  unfold hN hD
  have e1 : a.d / (Int.gcd a.d b.d : Int) = x := by
    have := Int.mul_ediv_cancel_left x (show (Int.gcd a.d b.d : Int) ≠ 0 by omega)
    rw [← hx] at this
    exact this
  have e2 : b.d / (Int.gcd a.d b.d : Int) = y := by
    have := Int.mul_ediv_cancel_left y (show (Int.gcd a.d b.d : Int) ≠ 0 by omega)
    rw [← hy] at this
    exact this
  rw [e1, e2]
  generalize (Int.gcd a.d b.d : Int) = g at *
  have hx0 : 0 < x := by
    rcases Int.lt_or_le 0 x with h | h
    · exact h
    · exact absurd (Int.mul_nonpos_of_nonneg_of_nonpos (Int.le_of_lt hg) h) (by rw [← hx]; omega)
  have hD : 0 < x * b.d := Int.mul_pos hx0 (by omega)
  have hcp : 0 < c * p := Int.mul_pos hc hp
  refine ⟨hD, mkF_cross (by omega) (by omega) ?_⟩
  have k1 : a.n * y * (c * p) = (c - m) * p * (x * b.d) := by
    have : a.n * y * (c * p) = (a.n * c) * (y * p) := by grind
    rw [this, h1, hx, hy]
    grind
  have k2 : b.n * x * (c * p) = (p - r) * c * (x * b.d) := by
    have : b.n * x * (c * p) = (b.n * p) * (x * c) := by grind
    rw [this, h2]
    grind
  have k3 : (a.n * y + b.n * x) * (c * p) = (2 * (c * p) - m * p - r * c) * (x * b.d) := by
    rw [Int.add_mul, k1, k2]
    grind
  have k4 : (a.n * y + b.n * x) * (2 * (c * p)) = 2 * ((a.n * y + b.n * x) * (c * p)) := by grind
  rw [k4, k3]
  grind
theorem half_bd {a b : Fr} (ha : 1 ≤ a.d ∧ a.d ≤ 1073741824) (hb : 1 ≤ b.d ∧ b.d ≤ 1073741824) : 0 < (Int.gcd a.d b.d : Int) ∧ (Int.gcd a.d b.d : Int) ≤ 1073741824 ∧ 0 ≤ a.d / (Int.gcd a.d b.d : Int) ∧ a.d / (Int.gcd a.d b.d : Int) ≤ 1073741824 ∧ 0 ≤ b.d / (Int.gcd a.d b.d : Int) ∧ b.d / (Int.gcd a.d b.d : Int) ≤ 1073741824 := by
  have hg : 0 < (Int.gcd a.d b.d : Int) := by
    have : 0 < Int.gcd a.d b.d := Int.gcd_pos_of_ne_zero_right _ (by omega)
    omega
  have h1 : (Int.gcd a.d b.d : Int) ≤ a.d := Int.le_of_dvd (by omega) (Int.gcd_dvd_left a.d b.d)
  have h2 := Int.ediv_le_self (a := a.d) (Int.gcd a.d b.d : Int) (by omega)
  have h3 := Int.ediv_le_self (a := b.d) (Int.gcd a.d b.d : Int) (by omega)
  have h4 := Int.ediv_nonneg (a := a.d) (b := (Int.gcd a.d b.d : Int)) (by omega) (by omega)
  have h5 := Int.ediv_nonneg (a := b.d) (b := (Int.gcd a.d b.d : Int)) (by omega) (by omega)
  omega
end Go.Proofs.Ytmhbfoaecebobaa
