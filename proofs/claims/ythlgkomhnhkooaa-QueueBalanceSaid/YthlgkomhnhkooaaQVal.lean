/-
  Plain mathematics: the values of fractions as rational numbers; sums. No program in sight. Conditions: none.
-/
import Derived.Test.YthlgkomhnhkooaaQSpec11
namespace Go.Proofs.Ythlgkomhnhkooaa
set_option linter.unusedSimpArgs false
set_option linter.unusedVariables false

def val (a : Fr) : Rat := (a.n : Rat) / (a.d : Rat)
theorem cast_ne {d : Int} (h : 0 < d) : (d : Rat) ≠ 0 := by exact_mod_cast (show d ≠ 0 by omega)
theorem val_mkF {n d : Int} (hd : 0 < d) {c : Fr} (h : mkF n d = some c) : val c = (n : Rat) / (d : Rat) := by
  obtain ⟨h1, h2⟩ := mkF_val hd h
  unfold val
  have e1 : (c.n : Rat) * (d : Rat) = (n : Rat) * (c.d : Rat) := by exact_mod_cast h2
  have e2 := cast_ne h1
  have e3 := cast_ne hd
  grind
theorem val_add {a b c : Fr} (ha : a.ok) (hb : b.ok) (h : fadd a b = some c) : val c = val a + val b := by
  rw [val_mkF (Int.mul_pos (d_pos ha) (d_pos hb)) h]
  unfold val
  have e1 := cast_ne (d_pos ha)
  have e2 := cast_ne (d_pos hb)
  push_cast
  grind
theorem val_mul {a b c : Fr} (ha : a.ok) (hb : b.ok) (h : fmul a b = some c) : val c = val a * val b := by
  rw [val_mkF (Int.mul_pos (d_pos ha) (d_pos hb)) h]
  unfold val
  have e1 := cast_ne (d_pos ha)
  have e2 := cast_ne (d_pos hb)
  push_cast
  grind
theorem val_div {a b c : Fr} (ha : a.ok) (hb : b.ok) (hp : 0 < b.n) (h : fdiv a b = some c) : val c * val b = val a := by
  rw [val_mkF (Int.mul_pos (d_pos ha) hp) h]
  unfold val
  have e1 := cast_ne (d_pos ha)
  have e2 := cast_ne (d_pos hb)
  have e3 := cast_ne hp
  push_cast
  grind
theorem val_neg (a : Fr) : val (fneg a) = - val a := by
  unfold val fneg
  push_cast
  grind
theorem val_sub {a b c : Fr} (ha : a.ok) (hb : b.ok) (h : fsub a b = some c) : val c = val a - val b := by
  rw [val_add ha (fneg_ok hb) h, val_neg]
  grind
theorem val_zero : val zeroF = 0 := by decide +kernel
theorem val_one : val oneF = 1 := by decide +kernel
theorem val_nn {a : Fr} (h : nn a) : 0 ≤ val a := by
  have e2 := cast_ne (d_pos h.1)
  have e3 : (0 : Rat) < (a.d : Rat) := Rat.intCast_pos.2 (d_pos h.1)
  have e4 : (0 : Rat) ≤ (a.n : Rat) := by exact_mod_cast h.2
  have e5 : val a * (a.d : Rat) = (a.n : Rat) := by unfold val; grind
  refine Rat.le_of_mul_le_mul_right (c := (a.d : Rat)) ?_ e3
  grind
theorem val_pos {a : Fr} (h : a.ok) (hp : 0 < a.n) : 0 < val a := by
  have e2 := cast_ne (d_pos h)
  have h0 := val_nn ⟨h, by omega⟩
  have e4 : (0 : Rat) < (a.n : Rat) := Rat.intCast_pos.2 hp
  have e5 : val a * (a.d : Rat) = (a.n : Rat) := by unfold val; grind
  have : val a ≠ 0 := by
    intro e
    rw [e] at e5
    grind
  grind
/-- how two fractions compare -/
theorem val_le {a b : Fr} (ha : a.ok) (hb : b.ok) : val a ≤ val b ↔ a.n * b.d ≤ b.n * a.d := by
  have e1 : (0 : Rat) < (a.d : Rat) := Rat.intCast_pos.2 (d_pos ha)
  have e2 : (0 : Rat) < (b.d : Rat) := Rat.intCast_pos.2 (d_pos hb)
  have f1 := cast_ne (d_pos ha)
  have f2 := cast_ne (d_pos hb)
  have g1 : val a * ((a.d : Rat) * (b.d : Rat)) = (a.n : Rat) * (b.d : Rat) := by unfold val; grind
  have g2 : val b * ((a.d : Rat) * (b.d : Rat)) = (b.n : Rat) * (a.d : Rat) := by unfold val; grind
  have hp := Rat.mul_pos e1 e2
  constructor
  · intro h
    have := Rat.mul_le_mul_of_nonneg_right h (Rat.le_of_lt hp)
    rw [g1, g2] at this
    exact_mod_cast this
  · intro h
    refine Rat.le_of_mul_le_mul_right (c := (a.d : Rat) * (b.d : Rat)) ?_ hp
    rw [g1, g2]
    exact_mod_cast h
theorem cmpN_le {a b : Fr} (ha : a.ok) (hb : b.ok) : cmpN a b ≤ 0 ↔ val a ≤ val b := by
  rw [val_le ha hb]
  unfold cmpN
  split
  · constructor <;> intro _ <;> omega
  · split
    · constructor <;> intro _ <;> omega
    · constructor <;> intro _ <;> omega

/-! sums -/
def sumR (f : Nat → Rat) : Nat → Rat
  | 0 => 0
  | k + 1 => sumR f k + f k
theorem sumR_le {f g : Nat → Rat} : ∀ {k : Nat}, (∀ i, i < k → f i ≤ g i) → sumR f k ≤ sumR g k
  | 0, _ => Rat.le_refl
  | k + 1, h => by
    have h1 := sumR_le (k := k) (fun i hi => h i (by omega))
    have h2 := h k (by omega)
    show sumR f k + f k ≤ sumR g k + g k
    grind
theorem sumR_congr {f g : Nat → Rat} : ∀ {k : Nat}, (∀ i, i < k → f i = g i) → sumR f k = sumR g k
  | 0, _ => rfl
  | k + 1, h => by
    have h1 := sumR_congr (k := k) (fun i hi => h i (by omega))
    have h2 := h k (by omega)
    show sumR f k + f k = sumR g k + g k
    rw [h1, h2]
theorem sumR_add (f g : Nat → Rat) : ∀ k, sumR (fun i => f i + g i) k = sumR f k + sumR g k
  | 0 => by show (0 : Rat) = 0 + 0; grind
  | k + 1 => by
    show sumR (fun i => f i + g i) k + (f k + g k) = (sumR f k + f k) + (sumR g k + g k)
    rw [sumR_add f g k]
    grind
theorem sumR_mul (c : Rat) (f : Nat → Rat) : ∀ k, sumR (fun i => c * f i) k = c * sumR f k
  | 0 => by show (0 : Rat) = c * 0; grind
  | k + 1 => by
    show sumR (fun i => c * f i) k + c * f k = c * (sumR f k + f k)
    rw [sumR_mul c f k]
    grind
theorem sumR_zero : ∀ k, sumR (fun _ => 0) k = 0
  | 0 => rfl
  | k + 1 => by
    show sumR (fun _ => 0) k + 0 = 0
    rw [sumR_zero k]
    grind
theorem sumR_shift (f : Nat → Rat) : ∀ k, sumR f (k + 1) = f 0 + sumR (fun i => f (i + 1)) k
  | 0 => by show (0 : Rat) + f 0 = f 0 + 0; grind
  | k + 1 => by
    show sumR f (k + 1) + f (k + 1) = f 0 + (sumR (fun i => f (i + 1)) k + f (k + 1))
    rw [sumR_shift f k]
    grind
theorem sumR_nn {f : Nat → Rat} {k : Nat} (h : ∀ i, i < k → 0 ≤ f i) : 0 ≤ sumR f k := by
  have := sumR_le (f := fun _ => 0) (g := f) (k := k) h
  rwa [sumR_zero] at this

/-! the binomial probabilities -/
def binR (q p : Rat) : Nat → Nat → Rat
  | 0, k => if k = 0 then 1 else 0
  | j + 1, k => binR q p j k * q + (if k = 0 then 0 else binR q p j (k - 1)) * p
theorem binR_big (q p : Rat) : ∀ {j k : Nat}, j < k → binR q p j k = 0
  | 0, k, h => by simp [binR]; omega
  | j + 1, k, h => by
    unfold binR
    rw [binR_big q p (show j < k by omega), if_neg (by omega), binR_big q p (show j < k - 1 by omega)]
    grind
theorem binR_nn {q p : Rat} (hq : 0 ≤ q) (hp : 0 ≤ p) : ∀ (j k : Nat), 0 ≤ binR q p j k
  | 0, k => by
    unfold binR
    split
    · decide
    · exact Rat.le_refl
  | j + 1, k => by
    unfold binR
    have h1 := Rat.mul_nonneg (binR_nn hq hp j k) hq
    have h2 : 0 ≤ (if k = 0 then 0 else binR q p j (k - 1)) := by
      split
      · exact Rat.le_refl
      · exact binR_nn hq hp j (k - 1)
    have h3 := Rat.mul_nonneg h2 hp
    grind
/-- the mean of a function of the number that leave -/
def meanR (q p : Rat) (j : Nat) (h : Nat → Rat) : Rat := sumR (fun t => binR q p j t * h t) (j + 1)
theorem meanR_succ (q p : Rat) (j : Nat) (h : Nat → Rat) : meanR q p (j + 1) h = q * meanR q p j h + p * meanR q p j (fun t => h (t + 1)) := by
  unfold meanR
  have e1 : sumR (fun t => binR q p (j + 1) t * h t) (j + 1 + 1) = sumR (fun t => q * (binR q p j t * h t) + p * ((if t = 0 then 0 else binR q p j (t - 1)) * h t)) (j + 1 + 1) :=
    sumR_congr fun t _ => by
      show (binR q p j t * q + (if t = 0 then 0 else binR q p j (t - 1)) * p) * h t = _
      grind
  rw [e1, sumR_add, sumR_mul, sumR_mul]
  congr 1
  · congr 1
    show sumR (fun t => binR q p j t * h t) (j + 1) + binR q p j (j + 1) * h (j + 1) = _
    rw [binR_big q p (show j < j + 1 by omega)]
    grind
  · congr 1
    rw [sumR_shift]
    simp only [if_true, Nat.add_sub_cancel]
    have : sumR (fun i => (if i + 1 = 0 then 0 else binR q p j i) * h (i + 1)) (j + 1) = sumR (fun t => binR q p j t * h (t + 1)) (j + 1) := sumR_congr fun t _ => by simp
    rw [this]
    grind
/-- more servers: more leave -/
theorem meanR_mono {q p : Rat} (hq : 0 ≤ q) (hp : 0 ≤ p) (h1 : q + p = 1) {j : Nat} {h : Nat → Rat} (hm : ∀ t, t ≤ j → h t ≤ h (t + 1)) : meanR q p j h ≤ meanR q p (j + 1) h := by
  rw [meanR_succ]
  have e : meanR q p j h ≤ meanR q p j (fun t => h (t + 1)) := sumR_le fun t ht => Rat.mul_le_mul_of_nonneg_left (hm t (by omega)) (binR_nn hq hp j t)
  have e2 := Rat.mul_le_mul_of_nonneg_left e hp
  have e3 : meanR q p j h = q * meanR q p j h + p * meanR q p j h := by grind
  grind
/-- nobody leaves -/
theorem binR_zero_succ (q p : Rat) (j : Nat) : binR q p (j + 1) 0 = binR q p j 0 * q := by
  show binR q p j 0 * q + (if (0 : Nat) = 0 then 0 else binR q p j (0 - 1)) * p = _
  rw [if_pos rfl]
  grind
theorem binR_zero_pos {q p : Rat} (hq : 0 < q) : ∀ j, 0 < binR q p j 0
  | 0 => by simp [binR]; decide
  | j + 1 => by
    rw [binR_zero_succ]
    exact Rat.mul_pos (binR_zero_pos hq j) hq

end Go.Proofs.Ythlgkomhnhkooaa
