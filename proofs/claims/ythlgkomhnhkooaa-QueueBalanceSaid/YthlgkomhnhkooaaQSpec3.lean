/-
  Plain mathematics of the queue's chain: signs of fractions; the weights and the stationary probabilities. No program in sight. Conditions: none.
-/
import Derived.Test.YthlgkomhnhkooaaQSpec2
namespace Go.Proofs.Ythlgkomhnhkooaa
set_option linter.unusedSimpArgs false
set_option linter.unusedVariables false

/-! signs -/
theorem mkF_sign {n d : Int} (hd : 0 < d) {c : Fr} (h : mkF n d = some c) : (0 ≤ n → 0 ≤ c.n) ∧ (0 < n → 0 < c.n) := by
  unfold mkF at h
  split at h
  · injection h with h
    subst h
    have hg : 0 < (Int.gcd n d : Int) := by have := Int.gcd_pos_iff.2 (Or.inr (show d ≠ 0 by omega) : n ≠ 0 ∨ d ≠ 0); omega
    unfold nf
    simp only [Int.sign_eq_one_of_pos hd, Int.one_mul]
    refine ⟨fun h0 => Int.ediv_nonneg h0 (by omega), fun h0 => ?_⟩
    obtain ⟨k, hk⟩ : (Int.gcd n d : Int) ∣ n := Int.gcd_dvd_left ..
    generalize (Int.gcd n d : Int) = g at *
    rw [hk, Int.mul_ediv_cancel_left _ (by omega)]
    exact Int.pos_of_mul_pos_right (by omega) hg
  · cases h
theorem d_pos {a : Fr} (h : a.ok) : 0 < a.d := by have := h.2.2.1; omega
theorem fadd_nn {a b c : Fr} (ha : a.ok) (hb : b.ok) (h : fadd a b = some c) (h1 : 0 ≤ a.n) (h2 : 0 ≤ b.n) : 0 ≤ c.n :=
  (mkF_sign (Int.mul_pos (d_pos ha) (d_pos hb)) h).1 (Int.add_nonneg (Int.mul_nonneg h1 (Int.le_of_lt (d_pos hb))) (Int.mul_nonneg h2 (Int.le_of_lt (d_pos ha))))
theorem fadd_pos_right {a b c : Fr} (ha : a.ok) (hb : b.ok) (h : fadd a b = some c) (h1 : 0 ≤ a.n) (h2 : 0 < b.n) : 0 < c.n :=
  (mkF_sign (Int.mul_pos (d_pos ha) (d_pos hb)) h).2 (by
    have e1 := Int.mul_nonneg h1 (Int.le_of_lt (d_pos hb))
    have e2 := Int.mul_pos h2 (d_pos ha)
    omega)
theorem fadd_pos_left {a b c : Fr} (ha : a.ok) (hb : b.ok) (h : fadd a b = some c) (h1 : 0 < a.n) (h2 : 0 ≤ b.n) : 0 < c.n :=
  (mkF_sign (Int.mul_pos (d_pos ha) (d_pos hb)) h).2 (by
    have e1 := Int.mul_pos h1 (d_pos hb)
    have e2 := Int.mul_nonneg h2 (Int.le_of_lt (d_pos ha))
    omega)
theorem fmul_nn {a b c : Fr} (ha : a.ok) (hb : b.ok) (h : fmul a b = some c) (h1 : 0 ≤ a.n) (h2 : 0 ≤ b.n) : 0 ≤ c.n := (mkF_sign (Int.mul_pos (d_pos ha) (d_pos hb)) h).1 (Int.mul_nonneg h1 h2)
theorem fmul_pos {a b c : Fr} (ha : a.ok) (hb : b.ok) (h : fmul a b = some c) (h1 : 0 < a.n) (h2 : 0 < b.n) : 0 < c.n := (mkF_sign (Int.mul_pos (d_pos ha) (d_pos hb)) h).2 (Int.mul_pos h1 h2)
theorem fdiv_nn {a b c : Fr} (ha : a.ok) (hb : b.ok) (h : fdiv a b = some c) (h1 : 0 ≤ a.n) (h2 : 0 < b.n) : 0 ≤ c.n := (mkF_sign (Int.mul_pos (d_pos ha) h2) h).1 (Int.mul_nonneg h1 (Int.le_of_lt (d_pos hb)))
theorem fsub_one_pos {a c : Fr} (ha : a.ok) (h : fsub oneF a = some c) (h1 : a.n < a.d) : 0 < c.n := by
  unfold fsub at h
  exact (mkF_sign (Int.mul_pos (by decide) (d_pos (fneg_ok ha))) h).2 (by simp only [oneF, fneg]; omega)

/-- valid and not negative -/
def nn (a : Fr) : Prop := a.ok ∧ 0 ≤ a.n
theorem nn_zero : nn zeroF := ⟨zeroF_ok, by decide⟩
theorem nn_one : nn oneF := ⟨oneF_ok, by decide⟩
theorem nn_add {a b c : Fr} (ha : nn a) (hb : nn b) (h : fadd a b = some c) : nn c := ⟨fadd_ok ha.1 hb.1 h, fadd_nn ha.1 hb.1 h ha.2 hb.2⟩
theorem nn_mul {a b c : Fr} (ha : nn a) (hb : nn b) (h : fmul a b = some c) : nn c := ⟨fmul_ok ha.1 hb.1 h, fmul_nn ha.1 hb.1 h ha.2 hb.2⟩
theorem nn_div {a b c : Fr} (ha : nn a) (hb : b.ok) (hp : 0 < b.n) (h : fdiv a b = some c) : nn c := ⟨fdiv_ok ha.1 hb (by omega) h, fdiv_nn ha.1 hb h ha.2 hp⟩
theorem gt_nn {l : List Fr} (h : ∀ a ∈ l, nn a) (i : Nat) : nn (gt l i) := by
  unfold gt
  cases hi : l[i]? with
  | none => exact nn_zero
  | some a => exact h a (List.mem_of_getElem? hi)
theorem at0_nn {l : List Fr} (h : ∀ a ∈ l, nn a) (k : Int) : nn (at0 l k) := by
  unfold at0
  split
  · exact gt_nn h _
  · exact nn_zero
theorem set_nn {l : List Fr} (h : ∀ a ∈ l, nn a) (i : Nat) {v : Fr} (hv : nn v) : ∀ a ∈ l.set i v, nn a := by
  intro a ha
  rcases List.mem_or_eq_of_mem_set ha with h1 | h1
  · exact h a h1
  · rw [h1]; exact hv
theorem some_bind {α β : Type} {o : Option α} {f : α → Option β} {b : β} (h : o.bind f = some b) : ∃ a, o = some a ∧ f a = some b := by
  cases o with
  | none => cases h
  | some a => exact ⟨a, rfl, h⟩

theorem cellS_nn {before : List Fr} {stay serve : Fr} (hb : ∀ a ∈ before, nn a) (hst : nn stay) (hse : nn serve) {k : Nat} {c : Fr} (h : cellS before stay serve k = some c) : nn c := by
  obtain ⟨m1, e1, h⟩ := some_bind h
  obtain ⟨m2, e2, h⟩ := some_bind h
  exact nn_add (nn_mul (at0_nn hb _) hst e1) (nn_mul (at0_nn hb _) hse e2) h
theorem cellS_pos {before : List Fr} {stay serve : Fr} (hb : ∀ a ∈ before, nn a) (hst : nn stay) (hse : nn serve) (hs : 0 < stay.n) {c : Fr} (h0 : 0 < (gt before 0).n) (h : cellS before stay serve 0 = some c) : 0 < c.n := by
  obtain ⟨m1, e1, h⟩ := some_bind h
  obtain ⟨m2, e2, h⟩ := some_bind h
  have e0 : at0 before ((0 : Nat) : Int) = gt before 0 := by simp [at0, gt]
  rw [e0] at e1
  exact fadd_pos_left (nn_mul (gt_nn hb 0) hst e1).1 (nn_mul (at0_nn hb _) hse e2).1 h (fmul_pos (gt_nn hb 0).1 hst.1 e1 h0 hs) (nn_mul (at0_nn hb _) hse e2).2
theorem rowS_nn {before : List Fr} {stay serve : Fr} (hb : ∀ a ∈ before, nn a) (hst : nn stay) (hse : nn serve) : ∀ {k : Nat} {l : List Fr}, rowS before stay serve k = some l → ∀ a ∈ l, nn a
  | 0, l, h => by simp [rowS] at h; subst h; simp
  | k + 1, l, h => by
    obtain ⟨r, hr, h⟩ := some_bind h
    obtain ⟨c, hc, h⟩ := some_bind h
    injection h with h
    subst h
    intro a ha
    rcases List.mem_append.1 ha with h1 | h1
    · exact rowS_nn hb hst hse hr a h1
    · simp at h1; subst h1; exact cellS_nn hb hst hse hc
theorem rowS_pos {before : List Fr} {stay serve : Fr} (hb : ∀ a ∈ before, nn a) (hst : nn stay) (hse : nn serve) (hs : 0 < stay.n) (h0 : 0 < (gt before 0).n) : ∀ {k : Nat} {l : List Fr}, rowS before stay serve (k + 1) = some l → 0 < (gt l 0).n
  | 0, l, h => by
    obtain ⟨r, hr, h⟩ := some_bind h
    obtain ⟨c, hc, h⟩ := some_bind h
    injection h with h
    subst h
    simp [rowS] at hr
    subst hr
    simpa [gt] using cellS_pos hb hst hse hs h0 hc
  | k + 1, l, h => by
    obtain ⟨r, hr, h⟩ := some_bind h
    obtain ⟨c, hc, h⟩ := some_bind h
    injection h with h
    subst h
    have := rowS_pos hb hst hse hs h0 hr
    have hl := rowS_len hr
    unfold gt at this ⊢
    rwa [List.getElem?_append_left (by omega)]
theorem leaveS_nn {stay serve : Fr} (hst : nn stay) (hse : nn serve) (hs : 0 < stay.n) : ∀ {j : Nat} {ll : List (List Fr)}, leaveS stay serve j = some ll → ∀ (i : Nat) (l : List Fr), ll[i]? = some l → (∀ a ∈ l, nn a) ∧ 0 < (gt l 0).n
  | 0, ll, h => by
    simp [leaveS] at h; subst h
    intro i l hi
    match i, hi with
    | 0, hi => simp at hi; subst hi; exact ⟨fun a ha => by simp at ha; subst ha; exact nn_one, by decide⟩
    | i + 1, hi => simp at hi
  | j + 1, ll, h => by
    obtain ⟨r, hr, h⟩ := some_bind h
    obtain ⟨c, hc, h⟩ := some_bind h
    injection h with h
    subst h
    have ih := leaveS_nn hst hse hs hr
    have hlen := (leaveS_good hst.1 hse.1 hr).1
    obtain ⟨bj, hbj⟩ : ∃ l, r[j]? = some l := ⟨_, List.getElem?_eq_getElem (by omega)⟩
    rw [hbj] at hc
    simp only [Option.getD_some] at hc
    have hb := ih j bj hbj
    intro i l hi
    rcases Nat.lt_or_ge i r.length with h1 | h1
    · rw [List.getElem?_append_left h1] at hi
      exact ih i l hi
    · rw [List.getElem?_append_right h1] at hi
      have hi0 : i - r.length = 0 := by
        rcases Nat.eq_zero_or_pos (i - r.length) with h2 | h2
        · exact h2
        · rw [List.getElem?_eq_none (by simp; omega)] at hi; cases hi
      rw [hi0] at hi
      simp at hi; subst hi
      exact ⟨rowS_nn hb.1 hst hse hc, rowS_pos hb.1 hst hse hs hb.2 hc⟩

theorem putS_nn {bk f : Fr} {i : Nat} {row r : List Fr} (hb : nn bk) (hf : nn f) (hr : ∀ a ∈ row, nn a) (h : putS bk f i row = some r) : (∀ a ∈ r, nn a) ∧ r.length = row.length ∧ (∀ j, j ≠ i → gt r j = gt row j) ∧ (i < row.length → 0 < bk.n → 0 < f.n → 0 < (gt r i).n) := by
  obtain ⟨m, e1, h⟩ := some_bind h
  obtain ⟨v, e2, h⟩ := some_bind h
  injection h with h
  subst h
  have hm := nn_mul hb hf e1
  refine ⟨set_nn hr i (nn_add (gt_nn hr i) hm e2), by simp, fun j hj => ?_, fun hi h1 h2 => ?_⟩
  · unfold gt; rw [List.getElem?_set_ne (by omega)]
  · unfold gt
    rw [List.getElem?_set_self hi]
    exact fadd_pos_right (gt_nn hr i).1 hm.1 e2 (gt_nn hr i).2 (fmul_pos hb.1 hf.1 e1 h1 h2)
/-- the elements of a row are not negative; the one for one more customer is positive -/
theorem rowC_nn {bj : List Fr} {no ar : Fr} {n cp : Nat} (hb : ∀ a ∈ bj, nn a) (h0 : 0 < (gt bj 0).n) (hno : nn no) (har : nn ar) (hap : 0 < ar.n) (hn : n < cp + 1) : ∀ {k : Nat} {r : List Fr}, k ≤ n + 1 → rowC bj no ar n cp k = some r → (∀ a ∈ r, nn a) ∧ r.length = cp + 1 ∧ (1 ≤ k → n < cp → 0 < (gt r (n + 1)).n)
  | 0, r, _, h => by
    simp [rowC] at h; subst h
    exact ⟨fun a ha => by rw [List.eq_of_mem_replicate ha]; exact nn_zero, by simp, fun h => by omega⟩
  | k + 1, r, hk, h => by
    obtain ⟨r0, hr, h⟩ := some_bind h
    obtain ⟨r1, h1, h⟩ := some_bind h
    have ih := rowC_nn hb h0 hno har hap hn (by omega) hr
    obtain ⟨a1, a2, a3, a4⟩ := putS_nn (gt_nn hb k) hno ih.1 h1
    obtain ⟨b1, b2, b3, b4⟩ := putS_nn (gt_nn hb k) har a1 h
    refine ⟨b1, by omega, fun _ hlt => ?_⟩
    rcases Nat.eq_zero_or_pos k with hk0 | hk0
    · subst hk0
      have hm : min (n - 0 + 1) cp = n + 1 := by omega
      rw [hm] at b4
      exact b4 (by omega) h0 hap
    · have hm : min (n - k + 1) cp ≠ n + 1 := by omega
      rw [b3 (n + 1) (by omega), a3 (n + 1) (by omega)]
      exact ih.2.2 (by omega) hlt

end Go.Proofs.Ythlgkomhnhkooaa
