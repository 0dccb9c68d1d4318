/-
  Plain mathematics of the queue: the rows of the chain and the stationary probabilities have the sum 1, and a step does not change the latter. No program in sight. Conditions: none.
-/
import Derived.Test.YthlgkomhnhkooaaQMore
namespace Go.Proofs.Ythlgkomhnhkooaa
set_option linter.unusedSimpArgs false
set_option linter.unusedVariables false

theorem val_inj {a b : Fr} (ha : a.ok) (hb : b.ok) (h : val a = val b) : a = b := by
  have h1 := (val_le ha hb).1 (by rw [h]; exact Rat.le_refl)
  have h2 := (val_le hb ha).1 (by rw [h]; exact Rat.le_refl)
  have h3 : a.n * b.d = b.n * a.d := by omega
  have e : mkF a.n a.d = mkF b.n b.d := by
    rw [← mkF_scale b.d a.n a.d (d_pos hb), ← mkF_scale a.d b.n b.d (d_pos ha), Int.mul_comm b.d a.n, h3, Int.mul_comm b.n a.d, Int.mul_comm b.d a.d]
  rw [mkF_of_ok ha, mkF_of_ok hb] at e
  injection e
theorem sumR_const1 {f : Nat → Rat} {k : Nat} {c : Rat} (h : ∀ i, i < k → f i = c) : sumR f k = sumR (fun _ => c) k := sumR_congr h
theorem binR_sum {q p : Rat} (h : q + p = 1) : ∀ j, meanR q p j (fun _ => 1) = 1
  | 0 => by unfold meanR; show (0 : Rat) + binR q p 0 0 * 1 = 1; simp [binR]; grind
  | j + 1 => by
    rw [meanR_succ, binR_sum h j]
    grind
theorem meanR_congr {q p : Rat} {j : Nat} {f g : Nat → Rat} (h : ∀ t, t ≤ j → f t = g t) : meanR q p j f = meanR q p j g :=
  sumR_congr fun t ht => by rw [h t (by omega)]

section
variable {Q P A NA : Rat}
/-- from m one comes to at most m + 1 -/
theorem dn_one (h1 : Q + P = 1) (h2 : NA + A = 1) {sv cp : Nat} {rows : List (List Fr)} (hv : RowsV Q P A NA sv cp rows) {m k : Nat} (hm : m ≤ cp) (hk : m + 2 ≤ k ∨ k = cp + 1) : dnR (rw' rows m) k = 1 := by
  rw [hv.dn m k hm, ← binR_sum h1 (min m sv)]
  refine meanR_congr fun t ht => ?_
  unfold hR
  rw [if_pos (by omega), if_pos (by omega)]
  exact h2
/-- the weights satisfy the equations of the cuts -/
theorem wS_cut {cp : Nat} {rows : List (List Fr)} (hr : RowsOk rows cp) : ∀ {t : Nat} {w : List Fr}, t ≤ cp → wS rows cp t = some w → ∀ n, cp - t ≤ n → n < cp → val (gt w n) * val (gt (rw' rows n) (n + 1)) = sumR (fun i => dnR (rw' rows (n + 1 + i)) (n + 1) * val (gt w (n + 1 + i))) (cp - n)
  | 0, w, _, h, n, h1, h2 => by omega
  | t + 1, w, ht, h, n, h1, h2 => by
    obtain ⟨u, e1, h⟩ := some_bind h
    obtain ⟨v, e2, h⟩ := some_bind h
    injection h with h
    subst h
    have gu := wS_good hr (by omega) e1
    by_cases hm : cp - 1 - t = n
    · subst hm
      rw [gt_set_self (by rw [gu.1]; omega), (weight_val hr gu.2.1 (by omega) e2).1]
      exact sumR_congr fun i _ => by rw [gt_set_ne (by omega)]
    · rw [gt_set_ne hm, wS_cut hr (by omega) e1 n (by omega) h2]
      exact sumR_congr fun i _ => by rw [gt_set_ne (by omega)]
theorem sumR_split (f : Nat → Rat) (n : Nat) : ∀ k, sumR f (n + k) = sumR f n + sumR (fun i => f (n + i)) k
  | 0 => by show sumR f n = sumR f n + 0; grind
  | k + 1 => by
    show sumR f (n + k) + f (n + k) = sumR f n + (sumR (fun i => f (n + i)) k + f (n + k))
    rw [sumR_split f n k]
    grind
/-- the flow into the first states is what they weigh -/
theorem flow (h1 : Q + P = 1) (h2 : NA + A = 1) {sv cp : Nat} {rows : List (List Fr)} (hr : RowsOk rows cp) (hv : RowsV Q P A NA sv cp rows) {w : List Fr} (hw : wS rows cp cp = some w) {k : Nat} (hk : k ≤ cp + 1) :
    sumR (fun m => val (gt w m) * dnR (rw' rows m) k) (cp + 1) = sumR (fun m => val (gt w m)) k := by
  match k, hk with
  | 0, _ =>
    show _ = (0 : Rat)
    exact (sumR_congr (g := fun _ => 0) fun i _ => by show _ * (0 : Rat) = 0; grind).trans (sumR_zero _)
  | n + 1, hk =>
    by_cases hn : n = cp
    · subst hn
      exact sumR_congr fun i hi => by rw [dn_one h1 h2 hv (by omega) (.inr rfl)]; grind
    · have hcut := wS_cut hr (Nat.le_refl _) hw n (by omega) (by omega)
      have hup : dnR (rw' rows n) (n + 1) = 1 - val (gt (rw' rows n) (n + 1)) := by
        have e : dnR (rw' rows n) (n + 1 + 1) = dnR (rw' rows n) (n + 1) + val (gt (rw' rows n) (n + 1)) := rfl
        rw [dn_one h1 h2 hv (by omega) (.inl (Nat.le_refl _))] at e
        grind
      rw [show cp + 1 = (n + 1) + (cp - n) by omega, sumR_split]
      have s2 : sumR (fun i => val (gt w (n + 1 + i)) * dnR (rw' rows (n + 1 + i)) (n + 1)) (cp - n) = val (gt w n) * val (gt (rw' rows n) (n + 1)) := by
        rw [hcut]
        exact sumR_congr fun i _ => by grind
      rw [s2]
      show sumR (fun m => val (gt w m) * dnR (rw' rows m) (n + 1)) n + val (gt w n) * dnR (rw' rows n) (n + 1) + _ = sumR (fun m => val (gt w m)) n + val (gt w n)
      have s1 : sumR (fun m => val (gt w m) * dnR (rw' rows m) (n + 1)) n = sumR (fun m => val (gt w m)) n := sumR_congr fun m hm => by rw [dn_one h1 h2 hv (by omega) (.inl (by omega))]; grind
      rw [s1, hup]
      grind
theorem balance (h1 : Q + P = 1) (h2 : NA + A = 1) {sv cp : Nat} {rows : List (List Fr)} (hr : RowsOk rows cp) (hv : RowsV Q P A NA sv cp rows) {w : List Fr} (hw : wS rows cp cp = some w) {j : Nat} (hj : j ≤ cp) :
    sumR (fun m => val (gt w m) * val (gt (rw' rows m) j)) (cp + 1) = val (gt w j) := by
  have e1 := flow h1 h2 hr hv hw (k := j + 1) (by omega)
  have e2 := flow h1 h2 hr hv hw (k := j) (by omega)
  have e3 : sumR (fun m => val (gt w m) * dnR (rw' rows m) (j + 1)) (cp + 1) = sumR (fun m => val (gt w m) * dnR (rw' rows m) j + val (gt w m) * val (gt (rw' rows m) j)) (cp + 1) :=
    sumR_congr fun m _ => by
      show _ * (dnR (rw' rows m) j + val (gt (rw' rows m) j)) = _
      grind
  rw [sumR_add] at e3
  have e4 : sumR (fun m => val (gt w m)) (j + 1) = sumR (fun m => val (gt w m)) j + val (gt w j) := rfl
  grind
end

theorem divS_val {w : List Fr} {tot : Fr} (hw : ∀ a ∈ w, nn a) (ht : tot.ok) (hp : 0 < tot.n) : ∀ {k : Nat} {r : List Fr}, k ≤ w.length → divS w tot k = some r → r.length = w.length ∧ ∀ i, (i < k → val (gt r i) * val tot = val (gt w i)) ∧ (k ≤ i → gt r i = gt w i)
  | 0, r, _, h => by simp [divS] at h; subst h; exact ⟨rfl, fun i => ⟨fun h => by omega, fun _ => rfl⟩⟩
  | k + 1, r, hk, h => by
    obtain ⟨r0, e1, h⟩ := some_bind h
    obtain ⟨v, e2, h⟩ := some_bind h
    injection h with h
    subst h
    obtain ⟨g1, g2⟩ := divS_val hw ht hp (by omega) e1
    have gd := divS_good hw ht hp e1
    refine ⟨by simp [g1], fun i => ⟨fun hi => ?_, fun hi => ?_⟩⟩
    · by_cases h1 : k = i
      · subst h1
        rw [gt_set_self (by omega), val_div (gt_nn gd.2 k).1 ht hp e2, (g2 k).2 (Nat.le_refl _)]
      · rw [gt_set_ne h1]
        exact (g2 i).1 (by omega)
    · rw [gt_set_ne (by omega)]
      exact (g2 i).2 (by omega)
/-- what the rows and the stationary probabilities are -/
theorem statQ_balance {ar se : Fr} {sv cp : Nat} (hq : QOk ar se sv cp) {rows b b' : List (List Fr)} {r : List Fr} (hc : chainQ ar se sv cp = some (rows, b')) (h : statQ ar se sv cp = some (r, b)) :
    (∀ m, m ≤ cp → dnR (rw' rows m) (cp + 1) = 1) ∧ dnR r (cp + 1) = 1 ∧ ∀ j, j ≤ cp → sumR (fun m => val (gt r m) * val (gt (rw' rows m) j)) (cp + 1) = val (gt r j) := by
  obtain ⟨p, e1, h⟩ := some_bind h
  obtain ⟨w, e2, h⟩ := some_bind h
  obtain ⟨tot, e3, h⟩ := some_bind h
  obtain ⟨r', e4, h⟩ := some_bind h
  injection h with h
  injection h with h1 h2
  subst h1 h2
  rw [hc] at e1
  injection e1 with e1
  subst e1
  obtain ⟨b0, c1, hc0⟩ := some_bind hc
  obtain ⟨no, hno, hc0⟩ := some_bind hc0
  obtain ⟨st, hst, _⟩ := some_bind c1
  have hr := chainQ_rows hq hc
  have hv := chainQ_val hq hst hno hc
  have s1 : val st + val se = 1 := by rw [val_sub oneF_ok hq.os hst, val_one]; grind
  have s2 : val no + val ar = 1 := by rw [val_sub oneF_ok hq.oa hno, val_one]; grind
  have gw := wS_good hr (Nat.le_refl _) e2
  have ht := totS_pos hr e2 e3
  obtain ⟨_, hdv⟩ := divS_val gw.2.1 ht.1.1 ht.2 (by rw [gw.1]; exact Nat.le_refl _) e4
  have hpos := val_pos ht.1.1 ht.2
  have htv := downS_val gw.2.1 e3
  have cancel : ∀ {x y : Rat}, x * val tot = y * val tot → x = y := by
    intro x y hxy
    have : val tot ≠ 0 := by grind
    grind
  refine ⟨fun m hm => dn_one s1 s2 hv hm (.inr rfl), ?_, fun j hj => ?_⟩
  · apply cancel
    have : dnR r' (cp + 1) * val tot = dnR w (cp + 1) := by
      unfold dnR
      rw [show sumR (fun i => val (gt r' i)) (cp + 1) * val tot = val tot * sumR (fun i => val (gt r' i)) (cp + 1) by grind, ← sumR_mul]
      exact sumR_congr fun i hi => by have := (hdv i).1 hi; grind
    rw [this, htv]
    grind
  · apply cancel
    rw [(hdv j).1 (by omega), ← balance s1 s2 hr hv e2 hj, show sumR (fun m => val (gt r' m) * val (gt (rw' rows m) j)) (cp + 1) * val tot = val tot * sumR (fun m => val (gt r' m) * val (gt (rw' rows m) j)) (cp + 1) by grind, ← sumR_mul]
    exact sumR_congr fun m hm => by have := (hdv m).1 hm; grind
/-- a sum that fits is 1 -/
theorem down_one {l : List Fr} (hl : ∀ a ∈ l, nn a) {k : Nat} (h1 : dnR l k = 1) {d : Fr} (h : downS l k = some d) : d = oneF := by
  refine val_inj (downS_nn hl h).1 oneF_ok ?_
  rw [downS_val hl h, h1, val_one]

end Go.Proofs.Ythlgkomhnhkooaa
