set_option linter.unusedSimpArgs false
set_option linter.unusedVariables false
set_option linter.unusedSectionVars false
section
namespace Go.Proofs.YtohmldibkojkfaaGreatDoor
structure Fr where
 n : Int
 d : Int
deriving DecidableEq
def Fr.of (k : Int) : Fr := ⟨k, 1⟩
def Fr.ok (a : Fr) : Prop := -1073741824 ≤ a.n ∧ a.n ≤ 1073741824 ∧ 1 ≤ a.d ∧ a.d ≤ 1073741824 ∧ Int.gcd a.n a.d = 1
instance (a : Fr) : Decidable a.ok := by unfold Fr.ok; infer_instance
def Fr.okB (a : Fr) : Bool := decide a.ok
theorem Fr.okB_iff (a : Fr) : a.okB = true ↔ a.ok := by simp [Fr.okB]
theorem Fr.okB_of {a : Fr} (h : a.ok) : a.okB = true := (Fr.okB_iff a).2 h
theorem Fr.okB_not {a : Fr} (h : ¬ a.ok) : a.okB = false := by simp [Fr.okB, h]
def nf (n d : Int) : Fr := ⟨Int.sign d * (n / (Int.gcd n d : Int)), (d.natAbs : Int) / (Int.gcd n d : Int)⟩
def Fr.fits (a : Fr) : Bool := decide (-1073741824 ≤ a.n ∧ a.n ≤ 1073741824 ∧ a.d ≤ 1073741824)
def mkF (n d : Int) : Option Fr := if (nf n d).fits then some (nf n d) else none
theorem nf_ok (n d : Int) (hd : d ≠ 0) : 1 ≤ (nf n d).d ∧ Int.gcd (nf n d).n (nf n d).d = 1 := by
 have hg : 0 < Int.gcd n d := Int.gcd_pos_iff.2 (Or.inr hd)
 have hdv : (Int.gcd n d : Int) ∣ (d.natAbs : Int) := by
  rw [Int.dvd_natAbs]; exact Int.gcd_dvd_right ..
 constructor
 ·
  unfold nf
  simp only
  obtain ⟨c, hc⟩ := hdv
  rw [hc, Int.mul_ediv_cancel_left _ (by omega)]
  have : 0 < (d.natAbs : Int) := by omega
  rw [hc] at this
  have := Int.pos_of_mul_pos_right this (by omega)
  omega
 ·
  unfold nf
  simp only
  have h1 : Int.gcd (n / (Int.gcd n d : Int)) (d / (Int.gcd n d : Int)) = 1 := Int.gcd_ediv_gcd_ediv_gcd (by omega)
  have e : ((d.natAbs : Int) / (Int.gcd n d : Int)) = Int.sign d * (d / (Int.gcd n d : Int)) := by
   have e1 : (d.natAbs : Int) = d * Int.sign d := (Int.mul_sign_self d).symm
   rw [e1, Int.mul_comm d, Int.mul_ediv_assoc _ (Int.gcd_dvd_right ..)]
  rw [e, Int.gcd_mul_left, h1]
  rcases Int.lt_trichotomy d 0 with h | h | h
  ·
   rw [Int.sign_eq_neg_one_of_neg h]; rfl
  ·
   exact absurd h hd
  ·
   rw [Int.sign_eq_one_of_pos h]; rfl
theorem mkF_ok {n d : Int} (hd : d ≠ 0) {a : Fr} (h : mkF n d = some a) : a.ok := by
 unfold mkF at h
 split at h
 ·
  rename_i hf
  injection h with h
  subst h
  have := nf_ok n d hd
  simp only [Fr.fits, decide_eq_true_eq] at hf
  exact ⟨hf.1, hf.2.1, this.1, hf.2.2, this.2⟩
 ·
  cases h
theorem zy8 {a : Fr} (h : a.ok) : nf a.n a.d = a := by
 obtain ⟨_, _, hd, _, hg⟩ := h
 unfold nf
 rw [hg, Int.sign_eq_one_of_pos (by omega), Int.natAbs_of_nonneg (by omega)]
 simp
theorem zwy {a : Fr} (h : a.ok) : mkF a.n a.d = some a := by
 unfold mkF
 rw [zy8 h, if_pos]
 simp only [Fr.fits, decide_eq_true_eq]
 exact ⟨h.1, h.2.1, h.2.2.2.1⟩
structure FE where
 n : Int
 d : Int
 e : Int
def FE.of : Option Fr → FE
 | some a => ⟨a.n, a.d, 0⟩
 | none => ⟨0, 0, 6⟩
def FE.err (e : Int) : FE := ⟨0, 0, e⟩
theorem nf_neg (n d : Int) : nf (-n) (-d) = nf n d := by
 unfold nf
 simp only [Int.gcd_neg, Int.neg_gcd, Int.sign_neg, Int.natAbs_neg]
 congr 1
 rw [Int.neg_ediv_of_dvd (Int.gcd_dvd_left ..), Int.neg_mul_neg]
theorem z2d (n d : Int) : mkF (-n) (-d) = mkF n d := by unfold mkF; rw [nf_neg]
theorem zwx (n d p x y : Int) (hp : 0 < p) (hg : (Int.gcd n d : Int) = p) (hn : n = p * x) (hd : d = p * y) (hy : 0 < y) :
  mkF n d = if -1073741824 ≤ x ∧ x ≤ 1073741824 ∧ y ≤ 1073741824 then some ⟨x, y⟩ else none := by
 have hd0 : 0 < d := by rw [hd]; exact Int.mul_pos hp hy
 have e : nf n d = ⟨x, y⟩ := by
  unfold nf
  rw [hg, Int.sign_eq_one_of_pos hd0, Int.natAbs_of_nonneg (by omega), Int.one_mul]
  congr 1
  ·
   rw [hn, Int.mul_ediv_cancel_left _ (by omega)]
  ·
   rw [hd, Int.mul_ediv_cancel_left _ (by omega)]
 unfold mkF Fr.fits
 rw [e]
 simp only [decide_eq_true_eq]
theorem zzc (n d p x y : Int) (hp : 0 < p) (hg : (Int.gcd n d : Int) = p) (hn : n = p * x) (hd : d = p * y) (hy : y < 0) :
  mkF n d = if -1073741824 ≤ -x ∧ -x ≤ 1073741824 ∧ -y ≤ 1073741824 then some ⟨-x, -y⟩ else none := by
 rw [← z2d]
 exact zwx (-n) (-d) p (-x) (-y) hp (by rw [Int.gcd_neg, Int.neg_gcd]; exact hg) (by rw [hn, Int.mul_neg]) (by rw [hd, Int.mul_neg]) (by omega)
theorem zmu (n p : Int) (hp : 0 < p) (h : p ∣ n) : ∃ x, n.tdiv p = x ∧ n = p * x ∧ (n.natAbs : Int) = p * (x.natAbs : Int) := by
 obtain ⟨x, rfl⟩ := h
 refine ⟨x, Int.mul_tdiv_cancel_left _ (by omega), rfl, ?_⟩
 rw [Int.natAbs_mul, Int.natCast_mul, Int.natAbs_of_nonneg (a := p) (by omega)]
theorem zgz (n p x : Int) (hp : 0 < p) (h : (n.natAbs : Int) = p * (x.natAbs : Int)) : x.natAbs ≤ n.natAbs := by
 have : 1 * (x.natAbs : Int) ≤ p * (x.natAbs : Int) := Int.mul_le_mul_of_nonneg_right (by omega) (by omega)
 omega
theorem zo9 (p q : Nat) : (-(p : Int)).tmod (-(q : Int)) = -((p % q : Nat) : Int) := by
 rw [Int.tmod_neg, Int.neg_tmod, ← Int.ofNat_tmod]
def cmpN (a b : Fr) : Int := if a.n * b.d < b.n * a.d then -1 else if a.n * b.d > b.n * a.d then 1 else 0
theorem z0x (a b : Int) (h1 : -1073741824 ≤ a) (h2 : a ≤ 1073741824) (h3 : 0 ≤ b) (h4 : b ≤ 1073741824) : -1152921504606846976 ≤ a * b ∧ a * b ≤ 1152921504606846976 := by
 have e1 : a * b ≤ 1073741824 * b := Int.mul_le_mul_of_nonneg_right h2 h3
 have e2 : -1073741824 * b ≤ a * b := Int.mul_le_mul_of_nonneg_right h1 h3
 omega
end Go.Proofs.YtohmldibkojkfaaGreatDoor
end
section
namespace Go.Proofs.YtohmldibkojkfaaGreatDoor
def hN (a b : Fr) : Int := a.n * (b.d / (Int.gcd a.d b.d : Int)) + b.n * (a.d / (Int.gcd a.d b.d : Int))
def hD (a b : Fr) : Int := a.d / (Int.gcd a.d b.d : Int) * b.d
end Go.Proofs.YtohmldibkojkfaaGreatDoor
end
