/-
  Plain mathematics of the queue: loss, number and wait, as the document says and as the code computes them; the loss is less than 1. No program in sight. Conditions: none.
-/
import Derived.Test.YthlgkomhnhkooaaQSpec10
namespace Go.Proofs.Ythlgkomhnhkooaa
set_option linter.unusedSimpArgs false
set_option linter.unusedVariables false

/-! order -/
theorem mkF_val {n d : Int} (hd : 0 < d) {c : Fr} (h : mkF n d = some c) : 0 < c.d ∧ c.n * d = n * c.d := by
  unfold mkF at h
  split at h
  · injection h with h
    subst h
    have hg : 0 < (Int.gcd n d : Int) := by have := Int.gcd_pos_iff.2 (Or.inr (show d ≠ 0 by omega) : n ≠ 0 ∨ d ≠ 0); omega
    obtain ⟨k, hk⟩ : (Int.gcd n d : Int) ∣ n := Int.gcd_dvd_left ..
    obtain ⟨m, hm⟩ : (Int.gcd n d : Int) ∣ d := Int.gcd_dvd_right ..
    have h1 := (nf_ok n d (by omega)).1
    refine ⟨by omega, ?_⟩
    unfold nf
    simp only [Int.sign_eq_one_of_pos hd, Int.one_mul, Int.natAbs_of_nonneg (show 0 ≤ d by omega)]
    generalize (Int.gcd n d : Int) = g at *
    rw [hk, hm, Int.mul_ediv_cancel_left _ (by omega), Int.mul_ediv_cancel_left _ (by omega)]
    grind
  · cases h
theorem mkF_lt {n d : Int} (hd : 0 < d) {c : Fr} (h : mkF n d = some c) (hl : n < d) : c.n < c.d := by
  obtain ⟨h1, h2⟩ := mkF_val hd h
  have h3 : n * c.d < d * c.d := Int.mul_lt_mul_of_pos_right hl h1
  rw [← h2, Int.mul_comm d] at h3
  exact Int.lt_of_mul_lt_mul_right h3 (by omega)
theorem mkF_le {n d : Int} (hd : 0 < d) {c : Fr} (h : mkF n d = some c) (hl : n ≤ d) : c.n ≤ c.d := by
  obtain ⟨h1, h2⟩ := mkF_val hd h
  have h3 : n * c.d ≤ d * c.d := Int.mul_le_mul_of_nonneg_right hl (by omega)
  rw [← h2, Int.mul_comm d] at h3
  exact Int.le_of_mul_le_mul_right h3 hd
theorem mkF_ge {n d : Int} (hd : 0 < d) {c : Fr} (h : mkF n d = some c) (hl : d ≤ n) : c.d ≤ c.n := by
  obtain ⟨h1, h2⟩ := mkF_val hd h
  have h3 : d * c.d ≤ n * c.d := Int.mul_le_mul_of_nonneg_right hl (by omega)
  rw [← h2, Int.mul_comm d] at h3
  exact Int.le_of_mul_le_mul_right h3 hd
theorem fmul_lt1 {a b c : Fr} (ha : nn a) (hb : nn b) (h : fmul a b = some c) (h1 : a.n ≤ a.d) (h2 : b.n < b.d) : c.n < c.d := by
  have da := d_pos ha.1
  have db := d_pos hb.1
  refine mkF_lt (Int.mul_pos da db) h ?_
  have e1 : a.n * b.n ≤ a.d * b.n := Int.mul_le_mul_of_nonneg_right h1 hb.2
  have e2 : a.d * b.n < a.d * b.d := Int.mul_lt_mul_of_pos_left h2 da
  omega
theorem fadd_zero_right {a c : Fr} (ha : a.ok) (h : fadd a zeroF = some c) : c = a := by
  unfold fadd at h
  have e : mkF (a.n * zeroF.d + zeroF.n * a.d) (a.d * zeroF.d) = mkF a.n a.d := by
    congr 1 <;> simp [zeroF]
  rw [e, mkF_of_ok ha] at h
  injection h with h
  exact h.symm

theorem fsub_one_lt {a c : Fr} (ha : a.ok) (h : fsub oneF a = some c) (h1 : 0 < a.n) : c.n < c.d := by
  unfold fsub at h
  have hd := d_pos (fneg_ok ha)
  exact mkF_lt (Int.mul_pos (by decide) hd) h (by simp only [oneF, fneg]; omega)
/-- the probability that nobody leaves is less than 1 -/
theorem lrow_lt {st se : Fr} (hst : nn st) (hse : nn se) (hs : st.n < st.d) : ∀ {j : Nat} {l : List Fr}, lrow st se (j + 1) = some l → (gt l 0).n < (gt l 0).d ∧ ∀ a ∈ l, nn a
  | j, l, h => by
    obtain ⟨r, hr, h⟩ := some_bind h
    have hrn : (∀ a ∈ r, nn a) ∧ (gt r 0).n ≤ (gt r 0).d := by
      match j, hr with
      | 0, hr => simp [lrow] at hr; subst hr; exact ⟨fun a ha => by simp at ha; subst ha; exact nn_one, by decide⟩
      | j + 1, hr =>
        have := lrow_lt hst hse hs hr
        exact ⟨this.2, by omega⟩
    refine ⟨?_, rowS_nn hrn.1 hst hse h⟩
    -- the first element of a row
    have hfirst : ∀ {k : Nat} {l : List Fr}, rowS r st se (k + 1) = some l → ∃ c, cellS r st se 0 = some c ∧ gt l 0 = c := by
      intro k
      induction k with
      | zero =>
        intro l h
        obtain ⟨l0, e0, h⟩ := some_bind h
        obtain ⟨c, e1, h⟩ := some_bind h
        injection h with h
        subst h
        simp [rowS] at e0
        subst e0
        exact ⟨c, e1, rfl⟩
      | succ k ih =>
        intro l h
        obtain ⟨l0, e0, h⟩ := some_bind h
        obtain ⟨c, e1, h⟩ := some_bind h
        injection h with h
        subst h
        obtain ⟨c', e2, e3⟩ := ih e0
        refine ⟨c', e2, ?_⟩
        rw [← e3]
        unfold gt
        rw [List.getElem?_append_left (by rw [rowS_len e0]; omega)]
    obtain ⟨c, e1, e2⟩ := hfirst h
    rw [e2]
    obtain ⟨m1, a1, e1⟩ := some_bind e1
    obtain ⟨m2, a2, e1⟩ := some_bind e1
    rw [at0_neg, fmul_zero hse.1] at a2
    injection a2 with a2
    subst a2
    rw [at0_gt] at a1
    have := fadd_zero_right (fmul_ok (gt_ok (fun a ha => (hrn.1 a ha).1) 0) hst.1 a1) e1
    rw [this]
    exact fmul_lt1 (gt_nn hrn.1 0) hst a1 hrn.2 hs
theorem leave_lt {ar se : Fr} {sv cp : Nat} (hq : QOk ar se sv cp) {b : List (List Fr)} (h : leaveQ se sv = some b) : (gt (rw' b sv) 0).n < (gt (rw' b sv) 0).d ∧ nn (gt (rw' b sv) 0) := by
  have h1 := leaveQ_some h sv (Nat.le_refl _)
  obtain ⟨st, e1, e2⟩ := some_bind h1
  have hp := fsub_one_pos hq.os e1 hq.s2
  have hst : nn st := ⟨fsub_ok oneF_ok hq.os e1, by omega⟩
  have hse : nn se := ⟨hq.os, by have := hq.s1; omega⟩
  have hv := hq.v1
  obtain ⟨j, rfl⟩ : ∃ j, sv = j + 1 := ⟨sv - 1, by omega⟩
  have := lrow_lt hst hse (fsub_one_lt hq.os e1 hq.s1) e2
  exact ⟨this.1, gt_nn this.2 0⟩

/-- what is known of the stationary probabilities -/
theorem statQ_good {ar se : Fr} {sv cp : Nat} (hq : QOk ar se sv cp) {r : List Fr} {b : List (List Fr)} (h : statQ ar se sv cp = some (r, b)) :
    r.length = cp + 1 ∧ (∀ a ∈ r, nn a) ∧ (gt r cp).n ≤ (gt r cp).d ∧ leaveQ se sv = some b := by
  obtain ⟨p, e1, h⟩ := some_bind h
  obtain ⟨w, e2, h⟩ := some_bind h
  obtain ⟨tot, e3, h⟩ := some_bind h
  obtain ⟨r', e4, h⟩ := some_bind h
  injection h with h
  injection h with h1 h2
  subst h1 h2
  obtain ⟨rows, b⟩ := p
  have hr := chainQ_rows hq e1
  have hw := wS_good hr (Nat.le_refl _) e2
  have ht := totS_pos hr e2 e3
  have hd := divS_good hw.2.1 ht.1.1 ht.2 e4
  refine ⟨by rw [hd.1, hw.1], hd.2, ?_, (chainQ_nn hq e1).2.2⟩
  -- the total is at least 1
  have htot : tot.d ≤ tot.n := by
    obtain ⟨d', a1, a2⟩ := some_bind e3
    have hd' := downS_nn hw.2.1 a1
    rw [hw.2.2] at a2
    have dp := d_pos hd'.1
    refine mkF_ge (by simp only [oneF]; omega) a2 ?_
    simp only [oneF]
    have := hd'.2
    omega
  have hlast : ∀ {i : Nat} {r : List Fr}, i ≤ cp → divS w tot i = some r → gt r cp = oneF := by
    intro i
    induction i with
    | zero => intro r _ h; simp [divS] at h; subst h; exact hw.2.2
    | succ i ih =>
      intro r hi h
      obtain ⟨r0, a1, h⟩ := some_bind h
      obtain ⟨v, a2, h⟩ := some_bind h
      injection h with h
      subst h
      have := ih (by omega) a1
      unfold gt at this ⊢
      rw [List.getElem?_set_ne (by omega)]
      exact this
  obtain ⟨r0, a1, a3⟩ := some_bind e4
  obtain ⟨v, a2, a3⟩ := some_bind a3
  injection a3 with a3
  subst a3
  rw [hlast (Nat.le_refl _) a1] at a2
  have hl0 := divS_good hw.2.1 ht.1.1 ht.2 a1
  have hg : gt (r0.set cp v) cp = v := by
    unfold gt
    rw [List.getElem?_set_self (by rw [hl0.1, hw.1]; omega)]
    rfl
  rw [hg]
  refine mkF_le (by have := ht.2; simp only [oneF]; omega) a2 ?_
  simp only [oneF]
  omega

/-! the three means -/
def lossQ (ar se : Fr) (sv cp : Nat) : Option Fr := (statQ ar se sv cp).bind fun p => fmul (gt p.1 cp) (gt (rw' p.2 sv) 0)
def numS (l : List Fr) : Nat → Option Fr
  | 0 => some zeroF
  | k + 1 => (numS l k).bind fun s => (fmul ⟨k, 1⟩ (gt l k)).bind fun p => fadd s p
def numQ (ar se : Fr) (sv cp : Nat) : Option Fr := (statQ ar se sv cp).bind fun p => numS p.1 (cp + 1)
def enterQ (ar se : Fr) (sv cp : Nat) : Option Fr := (lossQ ar se sv cp).bind fun lo => (fsub oneF lo).bind fun s => fmul ar s
def waitQ (ar se : Fr) (sv cp : Nat) : Option Fr := (enterQ ar se sv cp).bind fun en => (numQ ar se sv cp).bind fun n => fdiv n en
theorem lossQ_good {ar se : Fr} {sv cp : Nat} (hq : QOk ar se sv cp) {lo : Fr} (h : lossQ ar se sv cp = some lo) : nn lo ∧ lo.n < lo.d := by
  obtain ⟨⟨r, b⟩, e1, h⟩ := some_bind h
  have hg := statQ_good hq e1
  have hb := leave_lt hq hg.2.2.2
  exact ⟨nn_mul (gt_nn hg.2.1 cp) hb.2 h, fmul_lt1 (gt_nn hg.2.1 cp) hb.2 h hg.2.2.1 hb.1⟩
theorem enterQ_good {ar se : Fr} {sv cp : Nat} (hq : QOk ar se sv cp) {en : Fr} (h : enterQ ar se sv cp = some en) : en.ok ∧ 0 < en.n := by
  obtain ⟨lo, e1, h⟩ := some_bind h
  obtain ⟨s, e2, h⟩ := some_bind h
  have hl := lossQ_good hq e1
  have hp := fsub_one_pos hl.1.1 e2 hl.2
  have hs := fsub_ok oneF_ok hl.1.1 e2
  exact ⟨fmul_ok hq.oa hs h, fmul_pos hq.oa hs h hq.a1 hp⟩
theorem nat_ok {k : Nat} (h : k ≤ 16) : nn ⟨k, 1⟩ := ⟨⟨by simp only; omega, by simp only; omega, by simp only; omega, by simp only; omega, by simp⟩, by simp only; omega⟩
theorem numS_nn {l : List Fr} (h : ∀ a ∈ l, nn a) : ∀ {k : Nat} {s : Fr}, k ≤ 16 → numS l k = some s → nn s
  | 0, s, _, e => by simp [numS] at e; subst e; exact nn_zero
  | k + 1, s, hk, e => by
    obtain ⟨s', e1, e⟩ := some_bind e
    obtain ⟨p, e2, e⟩ := some_bind e
    exact nn_add (numS_nn h (by omega) e1) (nn_mul (nat_ok (by omega)) (gt_nn h k) e2) e
theorem numS_none {l : List Fr} {k k' : Nat} (h : numS l k = none) (hk : k ≤ k') : numS l k' = none := by
  induction hk with
  | refl => exact h
  | step _ ih => unfold numS; rw [ih]; rfl
theorem numQ_nn {ar se : Fr} {sv cp : Nat} (hq : QOk ar se sv cp) {n : Fr} (h : numQ ar se sv cp = some n) : nn n := by
  obtain ⟨⟨r, b⟩, e1, h⟩ := some_bind h
  exact numS_nn (statQ_good hq e1).2.1 (by have := hq.c2; omega) h

end Go.Proofs.Ythlgkomhnhkooaa
