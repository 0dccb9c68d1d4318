/-
  Plain mathematics of the queue's chain: the weights and the stationary probabilities, and the states of their computation. No program in sight. Conditions: none.
-/
import Derived.Test.YthlgkomhnhkooaaQSpec3
namespace Go.Proofs.Ythlgkomhnhkooaa
set_option linter.unusedSimpArgs false
set_option linter.unusedVariables false

/-- a queue that is valid -/
structure QOk (ar se : Fr) (sv cp : Nat) : Prop where
  oa : ar.ok
  os : se.ok
  a1 : 0 < ar.n
  a2 : ar.n < ar.d
  s1 : 0 < se.n
  s2 : se.n < se.d
  v1 : 1 ≤ sv
  v2 : sv ≤ 8
  c1 : sv ≤ cp
  c2 : cp ≤ 15

theorem leaveQ_nn {ar se : Fr} {sv cp : Nat} (hq : QOk ar se sv cp) {b : List (List Fr)} (h : leaveQ se sv = some b) : ∀ (i : Nat) (l : List Fr), b[i]? = some l → (∀ a ∈ l, nn a) ∧ 0 < (gt l 0).n := by
  obtain ⟨st, e1, h⟩ := some_bind h
  have hp := fsub_one_pos hq.os e1 hq.s2
  exact leaveS_nn ⟨fsub_ok oneF_ok hq.os e1, by omega⟩ ⟨hq.os, by have := hq.s1; omega⟩ hp h
theorem chainS_nn {ar se no : Fr} {sv cp : Nat} (hq : QOk ar se sv cp) {b : List (List Fr)} (hb : leaveQ se sv = some b) (hno : nn no) : ∀ {n : Nat} {ll : List (List Fr)}, n ≤ cp + 1 → chainS b no ar sv cp n = some ll → ll.length = n ∧ ∀ (i : Nat) (l : List Fr), ll[i]? = some l → (∀ a ∈ l, nn a) ∧ l.length = cp + 1 ∧ (i < cp → 0 < (gt l (i + 1)).n)
  | 0, ll, _, h => by
    simp [chainS] at h; subst h
    exact ⟨rfl, fun i l hi => by simp at hi⟩
  | n + 1, ll, hn, h => by
    obtain ⟨r, hr, h⟩ := some_bind h
    obtain ⟨c, hc, h⟩ := some_bind h
    injection h with h
    subst h
    obtain ⟨ih1, ih2⟩ := chainS_nn hq hb hno (by omega) hr
    have hlen := (leaveQ_good hq.os hb).1
    obtain ⟨bj, hbj⟩ : ∃ l, b[min n sv]? = some l := ⟨_, List.getElem?_eq_getElem (by omega)⟩
    rw [hbj] at hc
    simp only [Option.getD_some] at hc
    have hbn := leaveQ_nn hq hb _ bj hbj
    have hrow := rowC_nn hbn.1 hbn.2 hno ⟨hq.oa, by have := hq.a1; omega⟩ hq.a1 (show n < cp + 1 by omega) (by omega) hc
    refine ⟨by simp [ih1], fun i l hi => ?_⟩
    rcases Nat.lt_or_ge i r.length with h1 | h1
    · rw [List.getElem?_append_left h1] at hi
      exact ih2 i l hi
    · rw [List.getElem?_append_right h1] at hi
      have hi0 : i - r.length = 0 := by
        rcases Nat.eq_zero_or_pos (i - r.length) with h2 | h2
        · exact h2
        · rw [List.getElem?_eq_none (by simp; omega)] at hi; cases hi
      rw [hi0] at hi
      simp at hi; subst hi
      obtain rfl : i = n := by omega
      exact ⟨hrow.1, hrow.2.1, hrow.2.2 (by omega)⟩
/-- the rows of the chain: not negative; one more customer is possible -/
theorem chainQ_nn {ar se : Fr} {sv cp : Nat} (hq : QOk ar se sv cp) {rows b : List (List Fr)} (h : chainQ ar se sv cp = some (rows, b)) : rows.length = cp + 1 ∧ (∀ (i : Nat) (l : List Fr), rows[i]? = some l → (∀ a ∈ l, nn a) ∧ l.length = cp + 1 ∧ (i < cp → 0 < (gt l (i + 1)).n)) ∧ leaveQ se sv = some b := by
  obtain ⟨b', e1, h⟩ := some_bind h
  obtain ⟨no, e2, h⟩ := some_bind h
  obtain ⟨ll, e3, h⟩ := some_bind h
  injection h with h
  injection h with h1 h2
  subst h1 h2
  have hp := fsub_one_pos hq.oa e2 hq.a2
  obtain ⟨g1, g2⟩ := chainS_nn hq e1 ⟨fsub_ok oneF_ok hq.oa e2, by omega⟩ (Nat.le_refl _) e3
  exact ⟨g1, g2, e1⟩

def rw' (rows : List (List Fr)) (m : Nat) : List Fr := (rows[m]?).getD []
theorem rw_nn {rows : List (List Fr)} (h : ∀ (i : Nat) (l : List Fr), rows[i]? = some l → ∀ a ∈ l, nn a) (m : Nat) : ∀ a ∈ rw' rows m, nn a := by
  unfold rw'
  cases hm : rows[m]? with
  | none => simp
  | some l => exact h m l hm
def downS (row : List Fr) : Nat → Option Fr
  | 0 => some zeroF
  | k + 1 => (downS row k).bind fun d => fadd d (gt row k)
def sumS (rows : List (List Fr)) (w : List Fr) (n : Nat) : Nat → Option Fr
  | 0 => some zeroF
  | i + 1 => (sumS rows w n i).bind fun s => (downS (rw' rows (n + 1 + i)) (n + 1)).bind fun d => (fmul d (gt w (n + 1 + i))).bind fun p => fadd s p
def weightS (rows : List (List Fr)) (w : List Fr) (cp n : Nat) : Option Fr := (sumS rows w n (cp - n)).bind fun s => fdiv s (gt (rw' rows n) (n + 1))
/-- the weights, once those of the t states below the last one are known -/
def wS (rows : List (List Fr)) (cp : Nat) : Nat → Option (List Fr)
  | 0 => some ((List.replicate (cp + 1) zeroF).set cp oneF)
  | t + 1 => (wS rows cp t).bind fun w => (weightS rows w cp (cp - 1 - t)).bind fun v => some (w.set (cp - 1 - t) v)
def totS (w : List Fr) : Nat → Option Fr := downS w
def divS (w : List Fr) (tot : Fr) : Nat → Option (List Fr)
  | 0 => some w
  | i + 1 => (divS w tot i).bind fun r => (fdiv (gt r i) tot).bind fun v => some (r.set i v)
def statQ (ar se : Fr) (sv cp : Nat) : Option (List Fr × List (List Fr)) :=
  (chainQ ar se sv cp).bind fun p => (wS p.1 cp cp).bind fun w => (totS w (cp + 1)).bind fun tot => (divS w tot (cp + 1)).bind fun r => some (r, p.2)

theorem downS_none {row : List Fr} {k k' : Nat} (h : downS row k = none) (hk : k ≤ k') : downS row k' = none := by
  induction hk with
  | refl => exact h
  | step _ ih => unfold downS; rw [ih]; rfl
theorem sumS_none {rows : List (List Fr)} {w : List Fr} {n i i' : Nat} (h : sumS rows w n i = none) (hi : i ≤ i') : sumS rows w n i' = none := by
  induction hi with
  | refl => exact h
  | step _ ih => unfold sumS; rw [ih]; rfl
theorem wS_none {rows : List (List Fr)} {cp t t' : Nat} (h : wS rows cp t = none) (ht : t ≤ t') : wS rows cp t' = none := by
  induction ht with
  | refl => exact h
  | step _ ih => unfold wS; rw [ih]; rfl
theorem divS_none {w : List Fr} {tot : Fr} {i i' : Nat} (h : divS w tot i = none) (hi : i ≤ i') : divS w tot i' = none := by
  induction hi with
  | refl => exact h
  | step _ ih => unfold divS; rw [ih]; rfl
theorem downS_nn {row : List Fr} (h : ∀ a ∈ row, nn a) : ∀ {k : Nat} {d : Fr}, downS row k = some d → nn d
  | 0, d, e => by simp [downS] at e; subst e; exact nn_zero
  | k + 1, d, e => by
    obtain ⟨d', e1, e⟩ := some_bind e
    exact nn_add (downS_nn h e1) (gt_nn h k) e
theorem sumS_nn {rows : List (List Fr)} {w : List Fr} (hr : ∀ m, ∀ a ∈ rw' rows m, nn a) (hw : ∀ a ∈ w, nn a) {n : Nat} : ∀ {i : Nat} {s : Fr}, sumS rows w n i = some s → nn s
  | 0, s, e => by simp [sumS] at e; subst e; exact nn_zero
  | i + 1, s, e => by
    obtain ⟨s', e1, e⟩ := some_bind e
    obtain ⟨d, e2, e⟩ := some_bind e
    obtain ⟨p, e3, e⟩ := some_bind e
    exact nn_add (sumS_nn hr hw e1) (nn_mul (downS_nn (hr _) e2) (gt_nn hw _) e3) e
/-- what is known of the rows -/
structure RowsOk (rows : List (List Fr)) (cp : Nat) : Prop where
  nneg : ∀ m, ∀ a ∈ rw' rows m, nn a
  pos : ∀ n, n < cp → 0 < (gt (rw' rows n) (n + 1)).n
theorem chainQ_rows {ar se : Fr} {sv cp : Nat} (hq : QOk ar se sv cp) {rows b : List (List Fr)} (h : chainQ ar se sv cp = some (rows, b)) : RowsOk rows cp := by
  obtain ⟨h1, h2, _⟩ := chainQ_nn hq h
  refine ⟨rw_nn fun i l hi => (h2 i l hi).1, fun n hn => ?_⟩
  obtain ⟨l, hl⟩ : ∃ l, rows[n]? = some l := ⟨_, List.getElem?_eq_getElem (by omega)⟩
  unfold rw'
  rw [hl]
  exact (h2 n l hl).2.2 hn
theorem wS_good {rows : List (List Fr)} {cp : Nat} (hr : RowsOk rows cp) : ∀ {t : Nat} {w : List Fr}, t ≤ cp → wS rows cp t = some w → w.length = cp + 1 ∧ (∀ a ∈ w, nn a) ∧ gt w cp = oneF
  | 0, w, _, h => by
    simp [wS] at h; subst h
    refine ⟨by simp, set_nn (fun a ha => by rw [List.eq_of_mem_replicate ha]; exact nn_zero) _ nn_one, ?_⟩
    unfold gt
    rw [List.getElem?_set_self (by simp)]
    rfl
  | t + 1, w, ht, h => by
    obtain ⟨w', e1, h⟩ := some_bind h
    obtain ⟨v, e2, h⟩ := some_bind h
    injection h with h
    subst h
    obtain ⟨s, e3, e4⟩ := some_bind e2
    obtain ⟨g1, g2, g3⟩ := wS_good hr (by omega) e1
    have hp := hr.pos (cp - 1 - t) (by omega)
    have hv := nn_div (sumS_nn hr.nneg g2 e3) (gt_nn (hr.nneg _) _).1 hp e4
    refine ⟨by simp [g1], set_nn g2 _ hv, ?_⟩
    unfold gt at g3 ⊢
    rw [List.getElem?_set_ne (by omega)]
    exact g3
/-- the sum of a list with a positive element -/
theorem downS_pos {row : List Fr} (h : ∀ a ∈ row, nn a) {j : Nat} (hj : 0 < (gt row j).n) : ∀ {k : Nat} {d : Fr}, j < k → downS row k = some d → 0 < d.n
  | 0, d, hk, e => by omega
  | k + 1, d, hk, e => by
    obtain ⟨d', e1, e⟩ := some_bind e
    rcases Nat.lt_or_eq_of_le (Nat.le_of_lt_succ hk) with h1 | h1
    · exact fadd_pos_left (downS_nn h e1).1 (gt_nn h k).1 e (downS_pos h hj h1 e1) (gt_nn h k).2
    · subst h1
      exact fadd_pos_right (downS_nn h e1).1 (gt_nn h j).1 e (downS_nn h e1).2 hj
theorem totS_pos {rows : List (List Fr)} {cp : Nat} (hr : RowsOk rows cp) {w : List Fr} (h : wS rows cp cp = some w) {tot : Fr} (ht : totS w (cp + 1) = some tot) : nn tot ∧ 0 < tot.n := by
  obtain ⟨g1, g2, g3⟩ := wS_good hr (Nat.le_refl _) h
  exact ⟨downS_nn g2 ht, downS_pos g2 (j := cp) (by rw [g3]; decide) (by omega) ht⟩
theorem divS_good {w : List Fr} {tot : Fr} (hw : ∀ a ∈ w, nn a) (ht : tot.ok) (hp : 0 < tot.n) : ∀ {i : Nat} {r : List Fr}, divS w tot i = some r → r.length = w.length ∧ ∀ a ∈ r, nn a
  | 0, r, h => by simp [divS] at h; subst h; exact ⟨rfl, hw⟩
  | i + 1, r, h => by
    obtain ⟨r', e1, h⟩ := some_bind h
    obtain ⟨v, e2, h⟩ := some_bind h
    injection h with h
    subst h
    obtain ⟨g1, g2⟩ := divS_good hw ht hp e1
    exact ⟨by simp [g1], set_nn g2 i (nn_div (gt_nn g2 i) ht hp e2)⟩

end Go.Proofs.Ythlgkomhnhkooaa
