import Derived.Test.YtllkbjcemecmjaaGreatJB6
import Derived.Test.YtllkbjcemecmjaaGreatJB5
import Derived.Test.YtllkbjcemecmjaaGreatJB4
set_option linter.unusedSimpArgs false
set_option linter.unusedVariables false
set_option linter.unusedSectionVars false
section
namespace Go.Proofs.YtllkbjcemecmjaaGreat.Aw
theorem d_pos {a : Fr} (h : a.ok) : 0 < a.d := by have := h.2.2.1; omega
theorem mkF_val {n d : Int} (hd : 0 < d) {c : Fr} (h : mkF n d = some c) : 0 < c.d ∧ c.n * d = n * c.d := by
 unfold mkF at h
 split at h
 ·
  injection h with h
  subst h
  have hg : 0 < (Int.gcd n d : Int) := by have := Int.gcd_pos_iff.2 (Or.inr (show d ≠ 0 by omega) : n ≠ 0 ∨ d ≠ 0); omega
  obtain ⟨k, hk⟩ : (Int.gcd n d : Int) ∣ n := Int.gcd_dvd_left ..
  obtain ⟨m, hm⟩ : (Int.gcd n d : Int) ∣ d := Int.gcd_dvd_right ..
  have h1 := (nf_ok n d xd).1
  refine ⟨by omega, ?_⟩
  unfold nf
  simp only [Int.sign_eq_one_of_pos hd, Int.one_mul, Int.natAbs_of_nonneg (show 0 ≤ d by omega)]
  generalize (Int.gcd n d : Int) = g at *
  rw [hk, hm, Int.mul_ediv_cancel_left _ xd, Int.mul_ediv_cancel_left _ xd]
  grind
 ·
  cases h
def val (a : Fr) : Rat := (a.n : Rat) / (a.d : Rat)
theorem cast_ne {d : Int} (h : 0 < d) : (d : Rat) ≠ 0 := by exact_mod_cast (show d ≠ 0 by omega)
theorem val_mkF {n d : Int} (hd : 0 < d) {c : Fr} (h : mkF n d = some c) : val c = (n : Rat) / (d : Rat) := by
 obtain ⟨h1, h2⟩ := mkF_val hd h
 unfold val
 have e1 : (c.n : Rat) * (d : Rat) = (n : Rat) * (c.d : Rat) := by exact_mod_cast h2
 have e2 := cast_ne h1
 have e3 := cast_ne hd
 grind
theorem val_add {a b c : Fr} (ha : a.ok) (hb : b.ok) (h : fadd a b = some c) : val c = val a + val b := by
 rw [val_mkF (Int.mul_pos (d_pos ha) (d_pos hb)) h]
 unfold val
 have e1 := cast_ne (d_pos ha)
 have e2 := cast_ne (d_pos hb)
 push_cast
 grind
theorem val_mul {a b c : Fr} (ha : a.ok) (hb : b.ok) (h : fmul a b = some c) : val c = val a * val b := by
 rw [val_mkF (Int.mul_pos (d_pos ha) (d_pos hb)) h]
 unfold val
 have e1 := cast_ne (d_pos ha)
 have e2 := cast_ne (d_pos hb)
 push_cast
 grind
theorem val_neg (a : Fr) : val (fneg a) = - val a := by
 unfold val fneg
 push_cast
 grind
theorem val_sub {a b c : Fr} (ha : a.ok) (hb : b.ok) (h : fsub a b = some c) : val c = val a - val b := by
 rw [val_add ha (fneg_ok hb) h, val_neg]
 grind
theorem val_nn {a : Fr} (h : a.ok ∧ 0 ≤ a.n) : 0 ≤ val a := by
 have e2 := cast_ne (d_pos h.1)
 have e3 : (0 : Rat) < (a.d : Rat) := Rat.intCast_pos.2 (d_pos h.1)
 have e4 : (0 : Rat) ≤ (a.n : Rat) := by exact_mod_cast h.2
 have e5 : val a * (a.d : Rat) = (a.n : Rat) := by unfold val; grind
 refine Rat.le_of_mul_le_mul_right (c := (a.d : Rat)) ?_ e3
 grind
theorem val_le {a b : Fr} (ha : a.ok) (hb : b.ok) : val a ≤ val b ↔ a.n * b.d ≤ b.n * a.d := by
 have e1 : (0 : Rat) < (a.d : Rat) := Rat.intCast_pos.2 (d_pos ha)
 have e2 : (0 : Rat) < (b.d : Rat) := Rat.intCast_pos.2 (d_pos hb)
 have f1 := cast_ne (d_pos ha)
 have f2 := cast_ne (d_pos hb)
 have g1 : val a * ((a.d : Rat) * (b.d : Rat)) = (a.n : Rat) * (b.d : Rat) := by unfold val; grind
 have g2 : val b * ((a.d : Rat) * (b.d : Rat)) = (b.n : Rat) * (a.d : Rat) := by unfold val; grind
 have hp := Rat.mul_pos e1 e2
 constructor
 ·
  intro h
  have := Rat.mul_le_mul_of_nonneg_right h (Rat.le_of_lt hp)
  rw [g1, g2] at this
  exact_mod_cast this
 ·
  intro h
  refine Rat.le_of_mul_le_mul_right (c := (a.d : Rat) * (b.d : Rat)) ?_ hp
  rw [g1, g2]
  exact_mod_cast h
theorem cmpN_le {a b : Fr} (ha : a.ok) (hb : b.ok) : cmpN a b ≤ 0 ↔ val a ≤ val b := by
 rw [val_le ha hb]
 unfold cmpN
 split
 ·
  constructor <;> intro _ <;> omega
 ·
  split
  ·
   constructor <;> intro _ <;> omega
  ·
   constructor <;> intro _ <;> omega
def sumR (f : Nat → Rat) : Nat → Rat
 | 0 => 0
 | k + 1 => sumR f k + f k
theorem sumR_le {f g : Nat → Rat} : ∀ {k : Nat}, (∀ i, i < k → f i ≤ g i) → sumR f k ≤ sumR g k
 | 0, _ => Rat.le_refl
 | k + 1, h => by
  have h1 := sumR_le (k := k) (fun i hi => h i xd)
  have h2 := h k xd
  show sumR f k + f k ≤ sumR g k + g k
  grind
theorem sumR_congr {f g : Nat → Rat} : ∀ {k : Nat}, (∀ i, i < k → f i = g i) → sumR f k = sumR g k
 | 0, _ => rfl
 | k + 1, h => by
  have h1 := sumR_congr (k := k) (fun i hi => h i xd)
  have h2 := h k xd
  show sumR f k + f k = sumR g k + g k
  rw [h1, h2]
theorem sumR_add (f g : Nat → Rat) : ∀ k, sumR (fun i => f i + g i) k = sumR f k + sumR g k
 | 0 => by show (0 : Rat) = 0 + 0; grind
 | k + 1 => by
  show sumR (fun i => f i + g i) k + (f k + g k) = (sumR f k + f k) + (sumR g k + g k)
  rw [sumR_add f g k]
  grind
theorem sumR_mul (c : Rat) (f : Nat → Rat) : ∀ k, sumR (fun i => c * f i) k = c * sumR f k
 | 0 => by show (0 : Rat) = c * 0; grind
 | k + 1 => by
  show sumR (fun i => c * f i) k + c * f k = c * (sumR f k + f k)
  rw [sumR_mul c f k]
  grind
theorem sumR_zero : ∀ k, sumR (fun _ => 0) k = 0
 | 0 => rfl
 | k + 1 => by
  show sumR (fun _ => 0) k + 0 = 0
  rw [sumR_zero k]
  grind
theorem sumR_shift (f : Nat → Rat) : ∀ k, sumR f (k + 1) = f 0 + sumR (fun i => f (i + 1)) k
 | 0 => by show (0 : Rat) + f 0 = f 0 + 0; grind
 | k + 1 => by
  show sumR f (k + 1) + f (k + 1) = f 0 + (sumR (fun i => f (i + 1)) k + f (k + 1))
  rw [sumR_shift f k]
  grind
theorem sumR_nn {f : Nat → Rat} {k : Nat} (h : ∀ i, i < k → 0 ≤ f i) : 0 ≤ sumR f k := by
 have := sumR_le (f := fun _ => 0) (g := f) (k := k) h
 rwa [sumR_zero] at this
theorem sum_neg (f : Nat → Rat) : ∀ k, sumR (fun i => - f i) k = - sumR f k
 | 0 => by show (0 : Rat) = - 0; grind
 | k + 1 => by
  show sumR (fun i => - f i) k + - f k = - (sumR f k + f k)
  rw [sum_neg f k]; grind
theorem fe_of {x : Option Fr} (h : (FE.of x).e = 0) : x = some ⟨(FE.of x).n, (FE.of x).d⟩ := by
 cases x with
 | none => simp [FE.of] at h
 | some a => rfl
theorem addE_val {a b : Fr} (h : (addE a b).e = 0) : a.ok ∧ b.ok ∧ val ⟨(addE a b).n, (addE a b).d⟩ = val a + val b := by
 unfold addE at *
 split at h
 ·
  rename_i hc
  rw [if_pos hc] at *
  simp only [Bool.and_eq_true, Fr.okB_iff] at hc
  exact ⟨hc.1, hc.2, val_add hc.1 hc.2 (fe_of h)⟩
 ·
  simp [FE.err] at h
theorem subE_val {a b : Fr} (h : (subE a b).e = 0) : a.ok ∧ b.ok ∧ val ⟨(subE a b).n, (subE a b).d⟩ = val a - val b := by
 unfold subE at *
 split at h
 ·
  rename_i hc
  rw [if_pos hc] at *
  simp only [Bool.and_eq_true, Fr.okB_iff] at hc
  exact ⟨hc.1, hc.2, val_sub hc.1 hc.2 (fe_of h)⟩
 ·
  simp [FE.err] at h
theorem mulE_val {a b : Fr} (h : (mulE a b).e = 0) : a.ok ∧ b.ok ∧ val ⟨(mulE a b).n, (mulE a b).d⟩ = val a * val b := by
 unfold mulE at *
 split at h
 ·
  rename_i hc
  rw [if_pos hc] at *
  simp only [Bool.and_eq_true, Fr.okB_iff] at hc
  exact ⟨hc.1, hc.2, val_mul hc.1 hc.2 (fe_of h)⟩
 ·
  simp [FE.err] at h
theorem val_of (n : Int) : val (Fr.of n) = (n : Rat) := by
 unfold val Fr.of
 show (n : Rat) / ((1 : Int) : Rat) = n
 have : ((1 : Int) : Rat) = 1 := rfl
 rw [this]; grind
def dotR : List Fr → List Fr → Rat
 | x :: a, y :: b => val x * val y + dotR a b
 | _, _ => 0
theorem dotG_val : ∀ (a b : List Fr) (acc : Fr), (dotG acc a b).e = 0 → val ⟨(dotG acc a b).n, (dotG acc a b).d⟩ = val acc + dotR a b
 | [], b, acc, h => by
  rw [dotG] <;> first | (show val acc = val acc + dotR [] b; rw [dotR] <;> first | grind | (intro x y z w e; cases e)) | (intro x y z w e; cases e)
 | x :: a, [], acc, h => by
  rw [dotG] <;> first | (show val acc = val acc + dotR (x :: a) []; rw [dotR] <;> first | grind | (intro x y z w e e2; cases e2)) | (intro x y z w e e2; cases e2)
 | x :: a, y :: b, acc, h => by
  rw [dotG] at h ⊢
  split at h
  ·
   rename_i h1; exact absurd h h1
  ·
   rename_i h1
   rw [if_neg h1]
   split at h
   ·
    rename_i h2; exact absurd h h2
   ·
    rename_i h2
    rw [if_neg h2]
    rw [dotG_val a b _ h, (addE_val (Decidable.not_not.1 h2)).2.2, (mulE_val (Decidable.not_not.1 h1)).2.2, dotR]
    grind
theorem zdi {α : Type} [Inhabited α] (x : α) (l : List α) (k : Nat) : gti (x :: l) (k + 1) = gti l k := by unfold gti; rw [List.getElem?_cons_succ]
theorem gti_zero {α : Type} [Inhabited α] (x : α) (l : List α) : gti (x :: l) 0 = x := rfl
theorem dotR_sum : ∀ (a b : List Fr), a.length = b.length → dotR a b = sumR (fun k => val (gti a k) * val (gti b k)) a.length
 | [], [], _ => by rw [dotR] <;> first | rfl | (intro x y z w e; cases e)
 | x :: a, y :: b, h => by
  rw [dotR, List.length_cons, sumR_shift, dotR_sum a b (by simpa using h)]
  rfl
theorem dotE_val {a b : List Fr} (h : (dotE a b).e = 0) : a.length = b.length ∧ val ⟨(dotE a b).n, (dotE a b).d⟩ = sumR (fun k => val (gti a k) * val (gti b k)) a.length := by
 unfold dotE at *
 split at h
 ·
  simp [FE.err] at h
 ·
  rename_i h1
  rw [if_neg h1]
  split at h
  ·
   simp [FE.err] at h
  ·
   rename_i h2
   rw [if_neg h2]
   split at h
   ·
    simp [FE.err] at h
   ·
    rename_i h3
    rw [if_neg h3]
    have hl := Decidable.not_not.1 h3
    refine ⟨hl, ?_⟩
    rw [dotG_val a b _ h, val_of, ← dotR_sum a b hl]
    show ((0 : Int) : Rat) + _ = _
    have : ((0 : Int) : Rat) = 0 := rfl
    rw [this]; grind
def yV (y : List Fr) (p : Nat) : Rat := val (gti y p)
theorem prG_val (y : List Fr) (pd : List Int) : ∀ (n k : Nat) (a : Fr), (prG y pd n k a).e = 0 → val ⟨(prG y pd n k a).n, (prG y pd n k a).d⟩ = val a - sumR (fun i => yV y (gti pd (k + i)).toNat) n
 | 0, k, a, h => by rw [prG]; show val a = val a - 0; grind
 | n + 1, k, a, h => by
  rw [prG] at h ⊢
  split at h
  ·
   rename_i h1; exact absurd h h1
  ·
   rename_i h1
   rw [if_neg h1, prG_val y pd n (k + 1) _ h, (subE_val (Decidable.not_not.1 h1)).2.2, sumR_shift]
   have : sumR (fun i => yV y (gti pd (k + 1 + i)).toNat) n = sumR (fun i => yV y (gti pd (k + (i + 1))).toNat) n := sumR_congr fun i _ => by rw [show k + 1 + i = k + (i + 1) by omega]
   rw [this]
   show val a - val (gti y (gti pd k).toNat) - _ = val a - (yV y (gti pd (k + 0)).toNat + _)
   unfold yV
   rw [Nat.add_zero]
   grind
def sY (y : List Fr) (pd : List Int) : Rat := sumR (fun i => yV y (gti pd i).toNat) pd.length
theorem prE_val {y : List Fr} {s : Sft} (h : (prE y s).e = 0) : val ⟨(prE y s).n, (prE y s).d⟩ = (s.cost : Rat) - sY y s.pd := by
 unfold prE at *
 rw [prG_val y s.pd _ 0 _ h, val_of]
 unfold sY
 congr 2
 funext i
 rw [Nat.zero_add]
theorem val_neg_n {a : Fr} (hd : 0 < a.d) (h : a.n < 0) : val a ≤ 0 := by
 have e3 : (0 : Rat) < (a.d : Rat) := Rat.intCast_pos.2 hd
 have e2 := cast_ne hd
 have e4 : (a.n : Rat) ≤ 0 := by exact_mod_cast (show a.n ≤ 0 by omega)
 have e5 : val a * (a.d : Rat) = (a.n : Rat) := by unfold val; grind
 refine Rat.le_of_mul_le_mul_right (c := (a.d : Rat)) ?_ e3
 grind
theorem mul_choice {v a b c : Rat} (h : (v ≤ 0 ∧ c ≤ b ∧ a = b) ∨ (0 ≤ v ∧ b ≤ c ∧ a = b)) : v * a ≤ v * c := by
 rcases h with ⟨h1, h2, rfl⟩ | ⟨h1, h2, rfl⟩
 ·
  have := Rat.mul_le_mul_of_nonneg_left h2 (show 0 ≤ -v by grind)
  grind
 ·
  exact Rat.mul_le_mul_of_nonneg_left h2 h1
theorem bdG_val (l : List Sft) (lo hi : List Int) (y : List Fr) (c : List Int) (hin : ∀ i, i < l.length → gti lo i ≤ gti c i ∧ gti c i ≤ gti hi i) : ∀ (n i : Nat) (s r : Fr), i + n ≤ l.length → bdG l lo hi y n i s = (r, true) → val r ≤ val s + sumR (fun j => (((gti l (i + j)).cost : Rat) - sY y (gti l (i + j)).pd) * ((gti c (i + j) : Int) : Rat)) n
 | 0, i, s, r, _, h => by
  rw [bdG] at h
  injection h with h1 _
  subst h1
  show val s ≤ val s + 0
  grind
 | n + 1, i, s, r, hn, h => by
  rw [bdG] at h
  by_cases h1 : (prE y (gti l i)).e ≠ 0
  ·
   rw [if_pos h1] at h; injection h with _ h2; cases h2
  ·
   rw [if_neg h1] at h
   obtain ⟨CH, hCH⟩ : ∃ CH, CH = if (prE y (gti l i)).n < 0 then gti hi i else gti lo i := ⟨_, rfl⟩
   rw [← hCH] at h
   by_cases h2 : (mulE ⟨(prE y (gti l i)).n, (prE y (gti l i)).d⟩ (Fr.of CH)).e ≠ 0
   ·
    rw [if_pos h2] at h; injection h with _ h2; cases h2
   ·
    rw [if_neg h2] at h
    by_cases h3 : (addE s ⟨(mulE ⟨(prE y (gti l i)).n, (prE y (gti l i)).d⟩ (Fr.of CH)).n, (mulE ⟨(prE y (gti l i)).n, (prE y (gti l i)).d⟩ (Fr.of CH)).d⟩).e ≠ 0
    ·
     rw [if_pos h3] at h; injection h with _ h2; cases h2
    ·
     rw [if_neg h3] at h
     have ih := bdG_val l lo hi y c hin n (i + 1) _ r xd h
     have e1 := prE_val (Decidable.not_not.1 h1)
     obtain ⟨m1, m2, e2⟩ := mulE_val (Decidable.not_not.1 h2)
     obtain ⟨_, _, e3⟩ := addE_val (Decidable.not_not.1 h3)
     rw [e3, e2, e1, val_of] at ih
     rw [sumR_shift]
     have hs : sumR (fun j => (((gti l (i + 1 + j)).cost : Rat) - sY y (gti l (i + 1 + j)).pd) * ((gti c (i + 1 + j) : Int) : Rat)) n = sumR (fun j => (((gti l (i + (j + 1))).cost : Rat) - sY y (gti l (i + (j + 1))).pd) * ((gti c (i + (j + 1)) : Int) : Rat)) n := sumR_congr fun j _ => by rw [show i + 1 + j = i + (j + 1) by omega]
     rw [hs] at ih
     obtain ⟨g1, g2⟩ := hin i xd
     have hch : (((gti l i).cost : Rat) - sY y (gti l i).pd) * ((CH : Int) : Rat) ≤ (((gti l i).cost : Rat) - sY y (gti l i).pd) * ((gti c i : Int) : Rat) := by
      rw [← e1]
      refine mul_choice (b := ((CH : Int) : Rat)) ?_
      rw [hCH]
      split
      ·
       rename_i hneg
       exact .inl ⟨val_neg_n (d_pos m1) hneg, by exact_mod_cast g2, rfl⟩
      ·
       rename_i hneg
       exact .inr ⟨val_nn ⟨m1, by show 0 ≤ (prE y (gti l i)).n; omega⟩, by exact_mod_cast g1, rfl⟩
     simp only [Nat.add_zero]
     grind
theorem sum_single (p0 : Nat) (x : Rat) : ∀ m, sumR (fun p => if p = p0 then x else 0) m = if p0 < m then x else 0
 | 0 => by rw [if_neg xd]; rfl
 | m + 1 => by
  show sumR (fun p => if p = p0 then x else 0) m + (if m = p0 then x else 0) = _
  rw [sum_single p0 x m]
  by_cases h1 : p0 < m
  ·
   rw [if_pos h1, if_neg xd, if_pos xd]; grind
  ·
   by_cases h2 : m = p0
   ·
    rw [if_neg h1, if_pos h2, if_pos xd]; grind
   ·
    rw [if_neg h1, if_neg h2, if_neg xd]; grind
theorem sum_in (y : List Fr) (pd : List Int) (m : Nat) (hr : ∀ k, k < pd.length → 0 ≤ gti pd k ∧ gti pd k < (m : Int)) (ha : ∀ k, k < pd.length → 0 < k → gti pd (k - 1) < gti pd k) : ∀ j, j ≤ pd.length → sumR (fun p => if inB (pd.take j) p = true then yV y p else 0) m = sumR (fun i => yV y (gti pd i).toNat) j
 | 0, _ => by
  have : ∀ m, sumR (fun p : Nat => if inB (pd.take 0) p = true then yV y p else 0) m = 0 := by
   intro m
   induction m with
   | zero => rfl
   | succ m ih =>
    show sumR (fun p : Nat => if inB (pd.take 0) p = true then yV y p else 0) m + (if inB (pd.take 0) m = true then yV y m else 0) = 0
    rw [ih, List.take_zero, inB_nil, if_neg xo]; grind
  exact this m
 | j + 1, hj => by
  have ih := sum_in y pd m hr ha j xd
  obtain ⟨p0, hp0⟩ : ∃ p0 : Nat, gti pd j = (p0 : Int) := ⟨(gti pd j).toNat, by have := hr j xd; omega⟩
  have hlt : p0 < m := by have := hr j xd; omega
  have hnew : inB (pd.take j) p0 = false := by rw [← hp0]; exact inB_new ha xd
  have e1 : sumR (fun p => if inB (pd.take (j + 1)) p = true then yV y p else 0) m = sumR (fun p => (if inB (pd.take j) p = true then yV y p else 0) + (if p = p0 then yV y p0 else 0)) m := sumR_congr fun p _ => by
   by_cases h : p = p0
   ·
    subst h
    rw [if_pos ((inB_step xd p).2 (.inr hp0)), if_neg (by rw [hnew]; simp), if_pos rfl]; grind
   ·
    by_cases h2 : inB (pd.take j) p = true
    ·
     rw [if_pos ((inB_step xd p).2 (.inl h2)), if_pos h2, if_neg h]; grind
    ·
     rw [if_neg (fun h3 => by
      rcases (inB_step xd p).1 h3 with h4 | h4
      ·
       exact h2 h4
      ·
       exact h xd), if_neg h2, if_neg h]; grind
  rw [e1, sumR_add, ih, sum_single, if_pos hlt]
  show _ = sumR (fun i => yV y (gti pd i).toNat) j + yV y (gti pd j).toNat
  rw [hp0]; rfl
theorem sum_swap {d : List Int} {l : List Sft} (hv : zce d l = true) (y : List Fr) (c : List Int) : ∀ n, n ≤ l.length → sumR (fun i => sY y (gti l i).pd * ((gti c i : Int) : Rat)) n = sumR (fun p => yV y p * ((cvP l c n p : Int) : Rat)) d.length
 | 0, _ => by
  have : ∀ m, sumR (fun p : Nat => yV y p * ((cvP l c 0 p : Int) : Rat)) m = 0 := by
   intro m
   induction m with
   | zero => rfl
   | succ m ih =>
    show sumR (fun p : Nat => yV y p * ((cvP l c 0 p : Int) : Rat)) m + yV y m * ((0 : Int) : Rat) = 0
    have h0 : ((0 : Int) : Rat) = 0 := rfl
    rw [ih, h0]; grind
  rw [this]; rfl
 | n + 1, hn => by
  obtain ⟨_, _, ql⟩ := zb4 hv
  have hq := (ql n xd).2
  show sumR (fun i => sY y (gti l i).pd * ((gti c i : Int) : Rat)) n + sY y (gti l n).pd * ((gti c n : Int) : Rat) = _
  rw [sum_swap hv y c n xd]
  have e1 : sumR (fun p => yV y p * ((cvP l c (n + 1) p : Int) : Rat)) d.length = sumR (fun p => yV y p * ((cvP l c n p : Int) : Rat) + ((gti c n : Int) : Rat) * (if inB ((gti l n).pd.take (gti l n).pd.length) p = true then yV y p else 0)) d.length := sumR_congr fun p _ => by
   rw [List.take_length]
   show yV y p * (((cvP l c n p + if inB (gti l n).pd p = true then gti c n else 0 : Int)) : Rat) = _
   by_cases h : inB (gti l n).pd p = true
   ·
    rw [if_pos h, if_pos h]; push_cast; grind
   ·
    rw [if_neg h, if_neg h]; push_cast; grind
  rw [e1, sumR_add, sumR_mul, sum_in y (gti l n).pd d.length (fun k hk => ⟨(hq k hk).1, (hq k hk).2.1⟩) (fun k hk h0 => (hq k hk).2.2 h0) _ (Nat.le_refl _)]
  unfold sY
  grind
theorem prcP_val (l : List Sft) (c : List Int) : ∀ n, ((prcP l c n : Int) : Rat) = sumR (fun i => ((gti l i).cost : Rat) * ((gti c i : Int) : Rat)) n
 | 0 => rfl
 | n + 1 => by
  show ((prcP l c n + (gti l n).cost * gti c n : Int) : Rat) = sumR (fun i => ((gti l i).cost : Rat) * ((gti c i : Int) : Rat)) n + ((gti l n).cost : Rat) * ((gti c n : Int) : Rat)
  rw [← prcP_val l c n]; push_cast; rfl
theorem leaf_ok {d : List Int} {l : List Sft} (hv : zce d l = true) {lo hi : List Int} {y : List Fr} {K : Int} (hp : prvB d l lo hi y K = true) {c : List Int} (hin : ∀ i, i < l.length → gti lo i ≤ gti c i ∧ gti c i ≤ gti hi i) (hcov : ∀ p, p < d.length → gti d p ≤ cvP l c l.length p) : K ≤ prcP l c l.length := by
 unfold prvB mulB at hp
 simp only [Bool.and_eq_true, decide_eq_true_eq, Bool.not_eq_true'] at hp
 obtain ⟨⟨hyl, hyb⟩, hb2, hc0, hc1⟩ := hp
 have hyn : ∀ p, p < y.length → (gti y p).ok ∧ 0 ≤ (gti y p).n := fun p hp => by
  have h1 := List.any_eq_false.1 hyb (gti y p) (zds hp)
  unfold badM at h1
  simp only [Bool.or_eq_true, Bool.not_eq_true', decide_eq_true_eq, not_or] at h1
  exact ⟨(Fr.okB_iff _).1 (by simpa using h1.1), by omega⟩
 generalize hb : bdE d l lo hi y = b at hb2 hc0 hc1
 obtain ⟨s, z⟩ := b
 dsimp only at hb2 hc0 hc1
 subst hb2
 unfold bdE at hb
 by_cases h0 : (dotE (d.map Fr.of) y).e ≠ 0
 ·
  rw [if_pos h0] at hb; injection hb with _ h2; cases h2
 ·
  rw [if_neg h0] at hb
  obtain ⟨hdl, hdv⟩ := dotE_val (Decidable.not_not.1 h0)
  have h1 := bdG_val l lo hi y c hin l.length 0 _ s xd hb
  rw [hdv] at h1
  have hcm : s.ok ∧ (Fr.of (K - 1)).ok ∧ 0 < cmpN s (Fr.of (K - 1)) := by
   unfold cmpE at hc0 hc1
   split at hc0
   ·
    rename_i hk
    rw [if_pos hk] at hc1
    simp only [Bool.and_eq_true, Fr.okB_iff] at hk
    exact ⟨hk.1, hk.2, hc1⟩
   ·
    cases hc0
  have h2 : ¬ val s ≤ val (Fr.of (K - 1)) := fun h => by
   have := (cmpN_le hcm.1 hcm.2.1).2 h
   omega
  rw [val_of] at h2
  have e1 : sumR (fun k => val (gti (d.map Fr.of) k) * val (gti y k)) (d.map Fr.of).length = sumR (fun p => yV y p * ((gti d p : Int) : Rat)) d.length := by
   rw [List.length_map]
   exact sumR_congr fun p hp => by rw [ofL_gti hp, val_of]; unfold yV; grind
  rw [e1] at h1
  have e2 : sumR (fun j => (((gti l (0 + j)).cost : Rat) - sY y (gti l (0 + j)).pd) * ((gti c (0 + j) : Int) : Rat)) l.length = sumR (fun i => ((gti l i).cost : Rat) * ((gti c i : Int) : Rat)) l.length + - sumR (fun i => sY y (gti l i).pd * ((gti c i : Int) : Rat)) l.length := by
   rw [← sum_neg, ← sumR_add]
   exact sumR_congr fun i _ => by rw [Nat.zero_add]; grind
  rw [e2, ← prcP_val, sum_swap hv y c l.length (Nat.le_refl _)] at h1
  have e3 : sumR (fun p => yV y p * ((gti d p : Int) : Rat)) d.length ≤ sumR (fun p => yV y p * ((cvP l c l.length p : Int) : Rat)) d.length := sumR_le fun p hp =>
   Rat.mul_le_mul_of_nonneg_left (by exact_mod_cast hcov p hp) (by unfold yV; exact val_nn (hyn p xd))
  have e4 : ((K - 1 : Int) : Rat) < ((prcP l c l.length : Int) : Rat) := by grind
  have : K - 1 < prcP l c l.length := by exact_mod_cast e4
  omega
theorem tree_ok {d : List Int} {l : List Sft} (hv : zce d l = true) {K : Int} {c : List Int} (hcov : ∀ p, p < d.length → gti d p ≤ cvP l c l.length p) : ∀ (m : Nat) (b : Br) (lo hi : List Int) (n : Int), SizeOf.sizeOf b < m → lo.length = l.length → hi.length = l.length → (∀ i, i < l.length → gti lo i ≤ gti c i ∧ gti c i ≤ gti hi i) → (rgtE d l K b lo hi n).1 = true → K ≤ prcP l c l.length := by
 intro m
 induction m with
 | zero => intro b lo hi n h; omega
 | succ m ih =>
  intro b lo hi n hsz h1 h2 hin hr
  obtain ⟨s, t, L, y⟩ := b
  match L, hsz, hr with
  | [], _, hr =>
   rw [rgtE] at hr
   split at hr
   ·
    cases hr
   ·
    simp only [Bool.and_eq_true] at hr
    exact leaf_ok hv hr.2.2 hin hcov
  | [a, b], hsz, hr =>
   rw [rgtE] at hr
   split at hr
   ·
    cases hr
   ·
    split at hr
    ·
     cases hr
    ·
     rename_i hg
     have hg := Decidable.not_not.1 hg
     split at hr
     ·
      cases hr
     ·
      rename_i hf
      have hk : s.toNat < l.length := by omega
      simp at hsz
      by_cases hle : gti c s.toNat ≤ t
      ·
       refine ih a lo (setI hi s.toNat t) _ xd h1 (by rw [setI_len]; exact h2) (fun i hi' => ?_) (by simpa using hf)
       rw [setI_gti xd]
       have := hin i hi'
       split
       ·
        rename_i e; subst e; omega
       ·
        exact this
      ·
       refine ih b (setI lo s.toNat (t + 1)) hi _ xd (by rw [setI_len]; exact h1) h2 (fun i hi' => ?_) hr
       rw [setI_gti xd]
       have := hin i hi'
       split
       ·
        rename_i e; subst e; omega
       ·
        exact this
  | [_], _, hr =>
   rw [rgtE] at hr
   split at hr <;> cases hr
  | _ :: _ :: _ :: _, _, hr =>
   rw [rgtE] at hr
   split at hr <;> cases hr
theorem shF_cov (d : List Int) (l : List Sft) (c : List Int) : ∀ n k, shF d l c n k < 0 → ∀ p, k ≤ p → p < k + n → gti d p ≤ cvP l c l.length p
 | 0, k, _, p, h1, h2 => by omega
 | n + 1, k, h, p, h1, h2 => by
  rw [shF] at h
  split at h
  ·
   omega
  ·
   by_cases e : p = k
   ·
    subst e; omega
   ·
    exact shF_cov d l c n (k + 1) h p xd xd
theorem cheapest {d : List Int} {l : List Sft} {p : Pln} {b : Br} (h : chkE d l p b = true) {c : List Int} (hc : cntB l c = true) (hs : shE d l c < 0) : p.cost ≤ prcP l c l.length := by
 unfold chkE at h
 split at h
 ·
  rename_i hk
  obtain ⟨hv, _, _, _⟩ := hk
  obtain ⟨hl, hb⟩ := cntB_iff hc
  refine tree_ok hv (fun p hp => shF_cov d l c d.length 0 hs p (Nat.zero_le _) xd) (SizeOf.sizeOf b + 1) b (zcv l.length) (zcs l) 20000 (Nat.lt_succ_self _) (by simp [zcv]) (mostL_len l) (fun i hi => ?_) h
  have h0 : gti (zcv l.length) i = 0 := by
   unfold zcv gti
   rw [List.getElem?_replicate, if_pos hi]; rfl
  rw [h0, mostL_gti hi]
  exact hb i hi
 ·
  cases h
end Go.Proofs.YtllkbjcemecmjaaGreat.Aw
end
section
namespace Go.Proofs.YtllkbjcemecmjaaGreat.Aw
open Go.RowKit Go.Proofs
variable {P : Program} [IsP P]
def negB (a : Fr) : Bool := decide (a.n < 0)
theorem below1_pf (a : Fr) : Pure P 110 [eF a] (eB (negB a)) := by
 refine zcl (by rw [IsP.eq (P := P)]; exact Tryz.func110) rfl rfl rfl rfl rfl xa (.s _) (by simp only [argF]; rfl) ?_
 refine zag (zab (zaf rfl rfl (zaa rfl) (zb3 rfl rfl rfl rfl) ?_))
 refine za6 (zbm (id := 0) rfl) (za6 (zcb (d := 1) rfl rfl rfl) ?_)
 refine zac rfl (zad (zag (zab (zbz tf45_0 rfl (zbu ta3 rfl (zaf rfl rfl (zaa rfl) (za2 rfl rfl rfl) (zac rfl (zad (zai ?_)))))))))
 (refine za7 ?_; repeat (first | refine zbc ?_ | refine zbe ?_))
 exact zb6 (.inr rfl) rfl rfl
theorem below_pf (l : List Fr) : Pure P 109 [eL eF l] (eB (l.any negB)) := by
 have hc := containsFF_pf (P := P) 110 [] negB l lo_F (.fn _ _ xo) (fun a _ => below1_pf a)
 refine zcl (by rw [IsP.eq (P := P)]; exact Tryz.func109) rfl rfl rfl rfl rfl xa (.s _) (by simp only [argF]; rfl) ?_
 refine zag (zab (zac rfl (zad (zag (zab (zac rfl (zaf rfl rfl (zaa rfl) (zam rfl rfl (hc) (zae rfl (zae rfl zap))) (zac rfl (zad (zai ?_))))))))))
 (refine za7 ?_; repeat (first | refine zbc ?_ | refine zbe ?_))
 exact zb6 (.inr rfl) rfl rfl
def relC (c r : Int) : Bool := if r = 1 then decide (c ≤ 0) else if r = 2 then decide (0 ≤ c) else decide (c = 0)
theorem stands_pf (a : Fr) (r : Int) (b : Fr) : Pure P 108 [eF a, eI r, eF b] (eB (relC (cmpE a b).1 r)) := by
 have hc := fCmp_pf (P := P) a b
 refine zcl (by rw [IsP.eq (P := P)]; exact Tryz.func108) rfl rfl rfl rfl rfl xa (.s _) (by simp only [argF]; rfl) ?_
 refine zag (zab (zaf rfl rfl (zaa rfl) (zb3 rfl rfl rfl rfl) ?_))
 refine za6 (zbm (id := 0) rfl) (za6 (zcb (d := 3) rfl rfl rfl) ?_)
 refine zaf rfl rfl (zaa rfl) (zb3 rfl rfl rfl rfl) ?_
 refine za6 (zbm (id := 1) rfl) (za6 (zcb (d := 5) rfl rfl rfl) ?_)
 refine zac rfl (zad (zag (zab (zcx ta45 ti45 rfl (zcx ta45 ti45 rfl (zaf rfl rfl (zaa rfl) (zam rfl rfl (hc) (zae rfl (zae rfl zap))) (zac rfl (zac rfl (zac rfl (zac rfl (zac rfl (zad (zag (zag (zab (zac rfl (zad (zai (zas (zag ?_))))))))))))))))))))
 by_cases h1 : r = 1
 ·
  refine zab (zaf rfl rfl (zaa rfl) (zdc h1 (zbn rfl rfl rfl)) (zac rfl (zad (zai (za5 rfl (zag (zab (zac rfl (zaf rfl rfl (zaa rfl) (does_leq rfl rfl rfl) (zac rfl (zad (zai ?_))))))))))))
  (refine za7 ?_; repeat (first | refine zbc ?_ | refine zbe ?_))
  exact zb6 (.inr rfl) rfl (congrArg eB (by rw [relC, if_pos h1]))
 ·
  refine zab (zaf rfl rfl (zaa rfl) (dec_f h1 (zbn rfl rfl rfl)) (zac rfl (zad (zai (zau rfl (zag ?_))))))
  by_cases h2 : r = 2
  ·
   refine zab (zaf rfl rfl (zaa rfl) (zdc h2 (zbn rfl rfl rfl)) (zac rfl (zad (zai (za5 rfl (zag (zab (zac rfl (zaf rfl rfl (zaa rfl) (zcp rfl rfl rfl) (zac rfl (zad (zai ?_))))))))))))
   (refine za7 ?_; repeat (first | refine zbc ?_ | refine zbe ?_))
   exact zb6 (.inr rfl) rfl (congrArg eB (by rw [relC, if_neg h1, if_pos h2]))
  ·
   refine zab (zaf rfl rfl (zaa rfl) (dec_f h2 (zbn rfl rfl rfl)) (zac rfl (zad (zai (zau rfl (zar (zag (zab (zac rfl (zaf rfl rfl (zaa rfl) (zbn rfl rfl rfl) (zac rfl (zad (zai ?_)))))))))))))
   (refine za7 ?_; repeat (first | refine zbc ?_ | refine zbe ?_))
   exact zb6 (.inr rfl) rfl (congrArg eB (by rw [relC, if_neg h1, if_neg h2]))
def sgnB (r : Int) (a : Fr) : Bool := decide (¬ (r = 2 ∧ a.n < 0 ∨ r = 1 ∧ 0 < a.n))
def signsB (p : LP) (y : List Fr) : Bool := (List.range y.length).all fun j => sgnB (gti p.rel j) (gti y j)
theorem range_t {n : Nat} {p : Nat → Bool} (h : ∀ j, j < n → p j = true) : (List.range n).all p = true := by
 rw [List.all_eq_true]; intro j hj; exact h j (by simpa using hj)
theorem range_f {n k : Nat} {p : Nat → Bool} (hk : k < n) (h : p k = false) : (List.range n).all p = false := by
 rw [List.all_eq_false]; exact ⟨k, by simpa using hk, by rw [h]; simp⟩
theorem signed_pf (p : LP) (y : List Fr) (hl : y.length ≤ p.rel.length) : Pure P 97 [eP p, eL eF y] (eB (signsB p y)) := by
 refine zcl (by rw [IsP.eq (P := P)]; exact Tryz.func97) rfl rfl rfl rfl rfl xa (.s _) (by simp only [argF]; rfl) ?_
 refine zag ?_
 refine zda (d := 1) rfl (fun hmx => ?_)
 unfold maxLen at hmx
 refine zab (zaf rfl rfl (zaa rfl) (zb3 rfl rfl rfl rfl) ?_)
 refine za6 (zbm (id := 0) rfl) (za6 (zcb (d := 2) rfl rfl rfl) ?_)
 refine zac rfl (zad (zag (zag (zab (zac rfl (zaf rfl rfl (zaa rfl) (zao rfl ts30 rfl) (zac rfl (zad (zai (zas ?_))))))))))
 refine zb1 (S := Nat) (fun k => [(2, .ref (eP p).cells), (7, eL eF y), (8, eI y.length), (9, eI k)]) (fun _ => []) (fun k => k ≤ y.length ∧ ∀ j, j < k → sgnB (gti p.rel j) (gti y j) = true) (fun k => y.length - k) 0 (zb8 [] xf trivial ⟨.lo _ xc, .lo _ xa, .lo _ (.s _), .lo _ (.s _), trivial⟩) ⟨by omega, fun j hj => by omega⟩ (fun k hk => ?_)
 refine zag (zab ?_)
 refine za3 rfl rfl (zaa rfl) (za2 rfl rfl rfl) (fun h10 => ?_) (fun h10 => ?_)
 all_goals refine zad (zag ?_)
 all_goals (first | refine za5 rfl ?_ | refine zau rfl ?_)
 all_goals (repeat (first | refine zag ?_ | refine zar ?_ | refine zas ?_))
 ·
  have hlt : k < y.length := by omega
  have hlt2 : k < p.rel.length := by omega
  refine zab (zac rfl (zaf rfl rfl (zaa rfl) (zal rfl ts30 ti45 rfl rfl rfl (zbb xd) rfl) (zcx ta45 ti45 rfl (zaf rfl rfl (zaa rfl) (za1 rfl ti45 rfl rfl) (zac rfl (zba rfl (zaa rfl) (zaj rfl ti45 rfl rfl rfl rfl rfl rfl xf xf) (zad (zag (zab (zbz tf88_2 rfl (zbu ta22 rfl (zac rfl (zaf rfl rfl (zaa rfl) (zal rfl ts22 ti3 rfl rfl rfl (zbb xd) rfl) (zbu ta3 rfl ?_))))))))))))))
  refine za3 rfl rfl (zaa rfl) (zbn rfl rfl rfl) (fun h19 => ?_) (fun h19 => ?_)
  all_goals refine zac rfl ?_
  all_goals (first | refine zbz tf45_0 rfl ?_ | refine za4 rfl ?_)
  all_goals (first | refine zaf rfl rfl (zat rfl rfl rfl) (zaq rfl ta3 rfl rfl rfl rfl rfl) ?_ | refine za4 rfl ?_)
  all_goals (first | refine za3 rfl rfl (zat rfl rfl rfl) (za2 rfl rfl rfl) (fun h23 => ?_) (fun h23 => ?_) | refine za4 rfl ?_)
  all_goals refine zac rfl (zac rfl ?_)
  all_goals (first | refine zbz tf88_2 rfl ?_ | refine za4 rfl ?_)
  all_goals (first | refine zbu ta22 rfl ?_ | refine za4 rfl ?_)
  all_goals (first | refine zac rfl ?_ | refine za4 rfl ?_)
  all_goals (first | refine zaf rfl rfl (zat rfl rfl rfl) (zal rfl ts22 ti3 rfl rfl rfl (zbb (by omega)) rfl) ?_ | refine za4 rfl ?_)
  all_goals (first | refine zbu ta3 rfl ?_ | refine za4 rfl ?_)
  all_goals (first | refine za3 rfl rfl (zat rfl rfl rfl) (zbn rfl rfl rfl) (fun h31 => ?_) (fun h31 => ?_) | refine za4 rfl ?_)
  all_goals (first | refine zac rfl ?_ | refine za4 rfl ?_)
  all_goals (first | refine zbz tf45_0 rfl ?_ | refine za4 rfl ?_ | refine zcj rfl rfl (zbi rfl rfl rfl) ?_)
  all_goals (first | refine zaf rfl rfl (zat rfl rfl rfl) (zaq rfl ta3 rfl rfl rfl rfl rfl) ?_ | refine za4 rfl ?_ | refine zcj rfl rfl (zbi rfl rfl rfl) ?_)
  all_goals (first | refine za3 rfl rfl (zat rfl rfl rfl) (zb0 rfl rfl rfl) (fun h35 => ?_) (fun h35 => ?_) | refine za4 rfl ?_ | refine zcj rfl rfl (zbi rfl rfl rfl) ?_)
  all_goals (first | refine zac rfl ?_ | refine za4 rfl ?_)
  all_goals refine zac rfl (zad (zai ?_))
  all_goals (first | refine za5 rfl ?_ | refine zau rfl ?_)
  all_goals (repeat (first | refine zag ?_ | refine zai ?_ | refine zar ?_ | refine zbl ?_))
  all_goals first
   |
    refine zab (zac rfl (zad (zai ?_)))
    (refine za7 ?_; repeat (first | refine zbc ?_ | refine zbe ?_))
    exact zb6 (.inr rfl) rfl (congrArg eB (range_f hlt (by unfold sgnB; rw [decide_eq_false_iff_not]; omega)).symm)
   |
    refine zab (zaf rfl rfl (zaa rfl) (zax rfl rfl rfl (IntWalk.i64_in _ xd)) (zac rfl (zad (zai ?_))))
    have hs : sgnB (gti p.rel k) (gti y k) = true := by unfold sgnB; rw [decide_eq_true_eq]; omega
    refine ⟨k + 1, ⟨by omega, fun j hj => ?_⟩, by omega, zb8 [] xf trivial ⟨.lo _ xc, .lo _ xa, .lo _ (.s _), .lo _ (.s _), trivial⟩⟩
    by_cases e : j = k
    ·
     subst e; exact hs
    ·
     exact hk.2 j xd
 ·
  (refine zb9 ?_; repeat (first | refine zcr ?_ | refine zbt ?_ | refine zbk rfl ?_ | refine zbl ?_ | refine zai ?_ | refine zag ?_ | refine zar ?_ | refine zas ?_))
  refine zab (zac rfl (zad (zai ?_)))
  (refine za7 ?_; repeat (first | refine zbc ?_ | refine zbe ?_))
  exact zb6 (.inr rfl) rfl (congrArg eB (range_t (fun j hj => hk.2 j xd)).symm)
end Go.Proofs.YtllkbjcemecmjaaGreat.Aw
end
section
namespace Go.Proofs.YtllkbjcemecmjaaGreat.Aw
open Go.RowKit
structure KE (G G' : Cx) : Prop where
 step : G.Step G'
 mu0 : ∀ y, G.mu 0 = some y → G'.mu 0 = some y
 rows : zcc G.w G'.w
theorem KE.refl (G : Cx) : KE G G := ⟨.refl G, fun _ h => h, zcc.refl _⟩
theorem KE.trans {G H K : Cx} (h : KE G H) (k : KE H K) : KE G K := ⟨h.step.trans k.step, fun y x => k.mu0 y (h.mu0 y x), h.rows.trans k.rows⟩
theorem KE.of {G G' : Cx} (e : G.Ext G') : KE G G' := ⟨e.step, e.mu 0, e.rows⟩
def liftK (N : Nat) (G : Cx) (Q : Exit → Frm → List Ob → Prop) : Exit → Act → World → Prop :=
 fun e a' w' => ∃ G' F' σ', G'.w = w' ∧ KE G G' ∧ S8 N G' a' F' σ' ∧ Q e F' σ'
theorem liftK_mono {N : Nat} {G G1 : Cx} (h : KE G G1) {Q Q' : Exit → Frm → List Ob → Prop} (hq : ∀ e F σ, Q e F σ → Q' e F σ) {e : Exit} {a : Act} {w : World} (x : liftK N G1 Q e a w) : liftK N G Q' e a w := by
 obtain ⟨G', F', σ', h1, h2, h3, h4⟩ := x
 exact ⟨G', F', σ', h1, h.trans h2, h3, hq _ _ _ h4⟩
def KWp (P : Program) (N : Nat) (c : Code) (F : Frm) (σ : List Ob) (Q : Exit → Frm → List Ob → Prop) : Prop :=
 ∀ G a, S8 N G a F σ → c.wp P (liftK N G Q) a G.w
def KOps (P : Program) (N : Nat) (ops : Array Oper) (l : List Oper) (F : Frm) (σ : List Ob) (Q : Exit → Frm → List Ob → Prop) : Prop :=
 ∀ G a, S8 N G a F σ → wpList P ops (liftK N G Q) l a G.w
section
variable {P : Program} {N : Nat} {F : Frm} {σ : List Ob} {Q : Exit → Frm → List Ob → Prop}
theorem kw_seq {x y : Code} (h : KWp P N x F σ (AThen (fun F σ => KWp P N y F σ Q) Q)) : KWp P N (.seq x y) F σ Q := fun G a hs => by
 refine wp_seq (Code.wp_mono (fun e a1 w1 q => ?_) (h G a hs))
 obtain ⟨G', F', σ', rfl, h2, h3, h4⟩ := q
 cases e with
 | normal => exact Code.wp_mono (fun e a w q => liftK_mono h2 (fun _ _ _ x => x) q) (h4 G' a1 h3)
 | _ => exact ⟨G', F', σ', rfl, h2, h3, h4⟩
theorem kw_skip (h : Q .normal F σ) : KWp P N .skip F σ Q := fun G a hs => wp_skip ⟨G, F, σ, rfl, .refl G, hs, h⟩
theorem kw_exit {id : Nat} (h : Q (.exit id) F σ) : KWp P N (.exit id) F σ Q := fun G a hs => wp_exit ⟨G, F, σ, rfl, .refl G, hs, h⟩
theorem kw_ret (h : Q .ret F σ) : KWp P N .ret F σ Q := fun G a hs => wp_ret ⟨G, F, σ, rfl, .refl G, hs, h⟩
theorem kw_block {id : Nat} {c : Code} (h : KWp P N c F σ (ABlk id Q)) : KWp P N (.block id c) F σ Q := fun G a hs => by
 refine wp_block (Code.wp_mono (fun e a1 w1 q => ?_) (h G a hs))
 obtain ⟨G', F', σ', rfl, h2, h3, h4⟩ := q
 cases e with
 | exit id' =>
  simp only [ABlk] at h4
  simp only [Exit.inBlock]
  split
  ·
   rename_i e; rw [if_pos e] at h4; exact ⟨G', F', σ', rfl, h2, h3, h4⟩
  ·
   rename_i e; rw [if_neg e] at h4; exact ⟨G', F', σ', rfl, h2, h3, h4⟩
 | _ => exact ⟨G', F', σ', rfl, h2, h3, h4⟩
theorem kw_cond {c : Operand} {x y : Code} {b : Bool} (hc : F.eval c = .s (.bool b)) (ht : b = true → KWp P N x F σ Q) (hf : b = false → KWp P N y F σ Q) : KWp P N (.cond c x y) F σ Q := fun G a hs =>
 wp_cond_split (rep_bool hs.fr hc) (fun e => ht e G a hs) (fun e => hf e G a hs)
theorem kw_true {c : Operand} {x y : Code} (hc : F.eval c = .s (.bool true)) (ht : KWp P N x F σ Q) : KWp P N (.cond c x y) F σ Q := kw_cond hc (fun _ => ht) (fun e => by cases e)
theorem kw_false {c : Operand} {x y : Code} (hc : F.eval c = .s (.bool false)) (ht : KWp P N y F σ Q) : KWp P N (.cond c x y) F σ Q := kw_cond hc (fun e => by cases e) (fun _ => ht)
theorem kw_loop {c : Code} (I : Nat → Frm → List Ob → Prop) (m : Nat) (h0 : I m F σ)
  (round : ∀ m F σ, I m F σ → KWp P N c F σ (AThen (fun F' σ' => ∃ m', m' < m ∧ I m' F' σ') Q)) : KWp P N (.loop c) F σ Q := fun G a hs => by
 refine wp_loop_ghost (fun n a w => ∃ G' F' σ', G'.w = w ∧ KE G G' ∧ S8 N G' a F' σ' ∧ I n F' σ') m ⟨G, F, σ, rfl, .refl G, hs, h0⟩ ?_
 rintro n a w ⟨G', F', σ', rfl, h2, h3, h4⟩
 refine Code.wp_mono (fun e a1 w1 q => ?_) (round n F' σ' h4 G' a h3)
 obtain ⟨G2, F2, σ2, rfl, h5, h6, h7⟩ := q
 cases e with
 | normal => obtain ⟨m', hm, hi⟩ := h7; exact ⟨m', hm, ⟨G2, F2, σ2, rfl, h2.trans h5, h6, hi⟩⟩
 | _ => exact ⟨G2, F2, σ2, rfl, h2.trans h5, h6, h7⟩
theorem kw_region {id : Nat} {l : List Oper} (h : KOps P N l.toArray l F σ Q) : KWp P N (.region id l.toArray false) F σ Q := fun G a hs => wp_region_lit (h G a hs)
theorem kw_mono {c : Code} {Q' : Exit → Frm → List Ob → Prop} (h : KWp P N c F σ Q) (hq : ∀ e F σ, Q e F σ → Q' e F σ) : KWp P N c F σ Q' := fun G a hs =>
 Code.wp_mono (fun e a w q => liftK_mono (.refl G) hq q) (h G a hs)
end
section
variable {P : Program} {N : Nat} {F : Frm} {σ σ' : List Ob} {Q : Exit → Frm → List Ob → Prop} {ops : Array Oper} {o : Oper} {l : List Oper} {x : AV}
theorem kops_nil (h : Q .normal F σ) : KOps P N ops [] F σ Q := fun G a hs => ⟨G, F, σ, rfl, .refl G, hs, h⟩
theorem kops_op {d : Nat} (hd : o.dst = some d) (hN : Nat.blt d N = true) (hr : Runs ops F o true) (hD : Does P o F σ x σ') (k : KOps P N ops l ((d, x) :: F) σ' Q) : KOps P N ops (o :: l) F σ Q := fun G a hs => by
 unfold wpList
 rw [if_pos (hr.wanted hs.fr)]
 left
 refine hD G a _ _ hs.rel (fun y _ => zc4 hs.fr y) (fun v G' e r hv => ?_)
 rw [hd]
 exact zcm (fun e' a w q => liftK_mono (KE.of e) (fun _ _ _ x => x) q) _ _ _ (k G' _ ((hs.step e r).put (by simpa [Nat.blt_eq] using hN) hv))
theorem kops_eff (hd : o.dst = none) (hr : Runs ops F o true) (hD : Does P o F σ x σ') (k : KOps P N ops l F σ' Q) : KOps P N ops (o :: l) F σ Q := fun G a hs => by
 unfold wpList
 rw [if_pos (hr.wanted hs.fr)]
 left
 refine hD G a _ _ hs.rel (fun y _ => zc4 hs.fr y) (fun v G' e r hv => ?_)
 rw [hd]
 exact zcm (fun e' a w q => liftK_mono (KE.of e) (fun _ _ _ x => x) q) _ _ _ (k G' _ (hs.step e r))
theorem kops_skip {d : Nat} (hd : o.dst = some d) (hN : Nat.blt d N = true) (hr : Runs ops F o false) (k : KOps P N ops l ((d, .s undef) :: F) σ Q) : KOps P N ops (o :: l) F σ Q := fun G a hs => by
 unfold wpList
 rw [if_neg (by rw [hr.wanted hs.fr]; simp)]
 rw [hd]
 exact k G _ (hs.put (by simpa [Nat.blt_eq] using hN) (.s _))
end
def WeakK (N : Nat) (F : Frm) (σ : List Ob) (F' : Frm) (σ' : List Ob) : Prop := ∀ G a, S8 N G a F σ → ∃ G', G'.w = G.w ∧ KE G G' ∧ S8 N G' a F' σ'
theorem WeakK.refl {N : Nat} {F : Frm} {σ : List Ob} : WeakK N F σ F σ := fun G a h => ⟨G, rfl, .refl G, h⟩
section
variable {P : Program} {N : Nat} {F F' : Frm} {σ σ' : List Ob} {Q : Exit → Frm → List Ob → Prop}
theorem kw_weak {c : Code} (w : WeakK N F σ F' σ') (h : KWp P N c F' σ' Q) : KWp P N c F σ Q := fun G a hs => by
 obtain ⟨G1, e1, s1, h1⟩ := w G a hs
 rw [← e1]
 exact Code.wp_mono (fun e a w q => liftK_mono s1 (fun _ _ _ x => x) q) (h G1 a h1)
theorem kops_weak {ops : Array Oper} {l : List Oper} (w : WeakK N F σ F' σ') (h : KOps P N ops l F' σ' Q) : KOps P N ops l F σ Q := fun G a hs => by
 obtain ⟨G1, e1, s1, h1⟩ := w G a hs
 rw [← e1]
 exact zcm (fun e a w q => liftK_mono s1 (fun _ _ _ x => x) q) _ _ _ (h G1 a h1)
theorem kwk_st (ρ : List Nat) (h0 : ρ[0]? = some 0) (hn : ρ.Nodup) (hs : StL ρ σ ρ σ') (hf : FrRn F ρ F') : WeakK N F σ F' σ' := fun G a h =>
 ⟨G.ren ρ, rfl, ⟨⟨rfl, rfl, fun _ _ h => h, fun _ _ _ => rfl, fun _ _ h => .inl h, rfl, fun _ _ h => .inl h⟩, fun y hy => by simp [Cx.ren, h0, hy], zcc.refl _⟩, ⟨ren_rel h.rel hn (stRn_of ρ σ' hs), frRn_ok h.fr F' hf, h.df, h.nt⟩⟩
theorem kw_loops {c : Code} {S : Type} (fr : S → Frm) (st : S → List Ob) (inv : S → Prop) (ms : S → Nat) (s0 : S) (hw : WeakK N F σ (fr s0) (st s0)) (h0 : inv s0)
  (round : ∀ s, inv s → KWp P N c (fr s) (st s) (AThen (fun F' σ' => ∃ s', inv s' ∧ ms s' < ms s ∧ WeakK N F' σ' (fr s') (st s')) Q)) : KWp P N (.loop c) F σ Q := by
 refine kw_weak hw (kw_loop (fun m F σ => ∃ s, inv s ∧ ms s = m ∧ WeakK N F σ (fr s) (st s)) (ms s0) ⟨s0, h0, rfl, WeakK.refl⟩ (fun m F σ h => ?_))
 obtain ⟨s, h1, rfl, h3⟩ := h
 refine kw_weak h3 (kw_mono (round s h1) (fun e F σ q => ?_))
 cases e with
 | normal => obtain ⟨s', g1, g2, g3⟩ := q; exact ⟨ms s', g2, s', g1, rfl, g3⟩
 | _ => exact q
variable {ops : Array Oper} {o : Oper} {l : List Oper} {d : Nat}
theorem kops_opP {p : Prop} [Decidable p] (hd : o.dst = some d) (hN : Nat.blt d N = true) (hr : Runs ops F o true) (hD : Does P o F σ (.s (.bool (decide p))) σ) (k1 : p → KOps P N ops l ((d, .s (.bool true)) :: F) σ Q) (k2 : ¬ p → KOps P N ops l ((d, .s (.bool false)) :: F) σ Q) : KOps P N ops (o :: l) F σ Q := by
 by_cases h : p
 ·
  exact kops_op hd hN hr (zdc h hD) (k1 h)
 ·
  exact kops_op hd hN hr (dec_f h hD) (k2 h)
section
variable {fo : Operand} {ar : Array Operand} {ts : Array TypeId} {f : FuncId} {x : AV} {e n : Int}
end
end
section
variable {P : Program} {N : Nat} {F : Frm} {σ : List Ob} {Q : Exit → Frm → List Ob → Prop} {ops : Array Oper} {o : Oper} {l : List Oper} {d : Nat} {x : AV}
theorem kops_s (h : stv (opv o.op F) N ops o F = some (d, x)) (k : KOps P N ops l ((d, x) :: F) σ Q) : KOps P N ops (o :: l) F σ Q := kops_op (zbo h).1 (zbo h).2.1 (zbo h).2.2.1 (opv_does (zbo h).2.2.2) k
theorem kops_f {t f off n ft : Nat} (hf : zca P t f = some (off, ft, some n)) (h : stv (fdv o.op t f off n F) N ops o F = some (d, x)) (k : KOps P N ops l ((d, x) :: F) σ Q) : KOps P N ops (o :: l) F σ Q := kops_op (zbo h).1 (zbo h).2.1 (zbo h).2.2.1 (fdv_does hf (zbo h).2.2.2) k
theorem kops_l {t : Nat} (ha : zc8 P t = some false) (h : stv (ldv o.op t F) N ops o F = some (d, x)) (k : KOps P N ops l ((d, x) :: F) σ Q) : KOps P N ops (o :: l) F σ Q := kops_op (zbo h).1 (zbo h).2.1 (zbo h).2.2.1 (ldv_does ha (zbo h).2.2.2) k
theorem kops_w {t n bt : Nat} {z : Option Value} (ha : zc8 P t = some true) (hi : zb5 P t = some (z, n, bt)) (h : stv (lwv o.op t n F) N ops o F = some (d, x)) (k : KOps P N ops l ((d, x) :: F) σ Q) : KOps P N ops (o :: l) F σ Q := kops_op (zbo h).1 (zbo h).2.1 (zbo h).2.2.1 (lwv_does ha hi (zbo h).2.2.2) k
theorem kops_z (h : stz N ops o F = some d) (k : KOps P N ops l ((d, .s undef) :: F) σ Q) : KOps P N ops (o :: l) F σ Q := kops_skip (stz_ok h).1 (stz_ok h).2.1 (stz_ok h).2.2 k
end
end Go.Proofs.YtllkbjcemecmjaaGreat.Aw
end
section
namespace Go.Proofs.YtllkbjcemecmjaaGreat.Aw
open Go Go.RowKit Go.Proofs
section
variable {N : Nat} {F F' : Frm} {σ σ' : List Ob}
end
section
variable {N : Nat} {F : Frm} {σ : List Ob}
end
end Go.Proofs.YtllkbjcemecmjaaGreat.Aw
end
section
namespace Go.Proofs.YtllkbjcemecmjaaGreat.Aw
open Go Go.RowKit Go.Proofs
section
variable {N : Nat} {F F' : Frm} {σ σ' : List Ob}
theorem WeakK.weak (h : WeakK N F σ F' σ') : Weak N F σ F' σ' := fun G a hs => by
 obtain ⟨G', h1, h2, h3⟩ := h G a hs
 exact ⟨G', h1, h2.step, h3⟩
theorem WeakK.trans {F1 F2 : Frm} {σ1 σ2 : List Ob} (h : WeakK N F σ F1 σ1) (k : WeakK N F1 σ1 F2 σ2) : WeakK N F σ F2 σ2 := fun G a hs => by
 obtain ⟨G1, e1, s1, h1⟩ := h G a hs
 obtain ⟨G2, e2, s2, h2⟩ := k G1 a h1
 exact ⟨G2, e2.trans e1, s1.trans s2, h2⟩
theorem kwk_froz {id sz : Nat} {cs : List AV} (hs : σ[id]? = some (.row sz cs)) : WeakK N F σ F (σ.set id (.fz sz cs)) := fun G a h => by
 obtain ⟨h1, h2⟩ := froz_ok h.rel hs
 exact ⟨G.froz id, rfl, KE.of h1, h.step h1 h2⟩
theorem kwk_ref {d id sz k : Nat} {cs : List AV} {e : AV} (hd : F.get d = .ptr id sz k 0) (hs : σ[id]? = some (.fz sz cs)) (he : cs[k]? = some e) : WeakK N F σ ((d, .ref e.cells) :: F) σ := fun G a h =>
 ⟨G, rfl, .refl G, h.rel, h.fr.more (rep_fzp h.rel hs he (by rw [← hd]; exact h.fr d)), h.df, h.nt⟩
theorem lo_up {k : Nat} {x : AV} (h : Lo 0 x) : Lo k x := by
 induction h with
 | any => exact .any
 | s v => exact .s v
 | agg cs _ ih => exact .agg cs ih
 | emp => exact .emp
 | sl l _ ih => exact .sl l ih
 | ref cs _ ih => exact .ref cs ih
 | own id sz n h => omega
 | ptr id sz i j h => omega
 | fn f cs _ ih => exact .fn f cs ih
 | tup l _ ih => exact .tup l ih
 | mp id h => omega
 | sub id sz o n h => omega
def LoOb (k : Nat) : Ob → Prop
 | .row _ cs => ∀ e ∈ cs, ∀ c ∈ e.cells, Lo k c
 | .fz _ cs => ∀ e ∈ cs, ∀ c ∈ e.cells, Lo k c
 | .dead => True
 | .mp _ => True
def FrLo (F : Frm) (k : Nat) : Frm → Prop
 | [] => True
 | (d, y) :: F' => (F.get d = y ∧ Lo k y) ∧ FrLo F k F'
theorem kwk_cut {X : List Ob} (h0 : 0 < σ.length) (hσ : ∀ ob ∈ σ, LoOb σ.length ob) (hF : FrLo F σ.length F') : WeakK N F (σ ++ X) F' σ := fun G a h => by
 let G' : Cx := { G with mu := fun i => if i < σ.length then G.mu i else none }
 have hmu : ∀ i, i < σ.length → G'.mu i = G.mu i := fun i hi => if_pos hi
 have low : ∀ {v x}, Rep G v x → Lo σ.length x → Rep G' v x := fun hv hx => hv.low hx (fun _ _ h => h) (fun _ _ _ => rfl) (fun id y hid hy => by rw [hmu id hid]; exact hy) (fun _ => zcc.refl _)
 have hr := h.rel
 have rowlow : ∀ {b sz : Nat} {cs : List AV} {f : Nat × Nat → Prop}, (∀ e ∈ cs, ∀ c ∈ e.cells, Lo σ.length c) → RowAt G b sz cs f → RowAt G' b sz cs f := fun hlo ⟨cur, t, fr, g1, g2, g3, g4⟩ =>
  ⟨cur, t, fr, g1, g2, g3, fun k e he => ⟨(g4 k e he).1, (g4 k e he).2.1, fun j c hc => by
   obtain ⟨v, h6, h7⟩ := (g4 k e he).2.2 j c hc
   exact ⟨v, h6, low h7 (hlo e (List.mem_of_getElem? he) c (List.mem_of_getElem? hc))⟩⟩⟩
 refine ⟨G', rfl, ⟨⟨rfl, rfl, fun _ _ h => h, fun _ _ _ => rfl, fun _ _ h => .inl h, rfl, fun _ _ h => .inl h⟩, fun y hy => by rw [hmu 0 h0]; exact hy, zcc.refl _⟩, ⟨⟨hr.below, hr.le, hr.st, fun id ob hob => ?_, fun i j b hi hj hm hm' => ?_, fun id hid => if_neg xd⟩, ?_, h.df, h.nt⟩⟩
 ·
  have hid := (List.getElem?_eq_some_iff.1 hob).1
  have h1 := hr.obs id ob (by rw [List.getElem?_append_left hid]; exact hob)
  have hlo := hσ ob (List.mem_of_getElem? hob)
  cases ob with
  | dead => intro b hb; rw [hmu id hid] at hb; exact h1 b hb
  | row sz cs =>
   simp only [ObOk, hmu id hid] at h1 ⊢
   cases hx : G.mu id with
   | none => rw [hx] at h1; exact h1
   | some x =>
    rw [hx] at h1
    cases x with
    | none => exact h1
    | some b => exact ⟨rowlow hlo h1.1, h1.2⟩
  | fz sz cs =>
   simp only [ObOk, hmu id hid] at h1 ⊢
   cases hx : G.mu id with
   | none => rw [hx] at h1; exact h1
   | some x =>
    rw [hx] at h1
    cases x with
    | none => exact h1
    | some b => exact ⟨rowlow hlo h1.1, h1.2⟩
  | mp X =>
   obtain ⟨b, g1, g2, g3, g4, g5⟩ := h1
   refine ⟨b, (hmu id hid).trans g1, g2, g3, g4, fun j hj => g5 j ?_⟩
   by_cases hjl : j < σ.length
   ·
    rwa [hmu j hjl] at hj
   ·
    simp only [G', if_neg hjl] at hj; cases hj
 ·
  obtain ⟨sz, cs, h1⟩ := hi
  obtain ⟨sz', cs', h1'⟩ := hj
  have hil := (List.getElem?_eq_some_iff.1 h1).1
  have hjl := (List.getElem?_eq_some_iff.1 h1').1
  rw [hmu i hil] at hm
  rw [hmu j hjl] at hm'
  exact hr.inj i j b ⟨sz, cs, by rw [List.getElem?_append_left hil]; exact h1⟩ ⟨sz', cs', by rw [List.getElem?_append_left hjl]; exact h1'⟩ hm hm'
 ·
  have key : ∀ F', FrLo F σ.length F' → FOk G' a F' := by
   intro F'
   induction F' with
   | nil => intro _ d; exact .any _
   | cons p F' ih =>
    obtain ⟨d, y⟩ := p
    rintro ⟨⟨g1, g2⟩, g3⟩ t
    simp only [Frm.get]
    cases e : Nat.beq d t with
    | true =>
     have := Nat.eq_of_beq_eq_true e
     subst this
     have := h.fr d
     rw [g1] at this
     exact low this g2
    | false => exact ih g3 t
  exact key F' hF
end
section
variable {P : Program} {N : Nat} {F : Frm} {σ σ' : List Ob} {Q : Exit → Frm → List Ob → Prop} {ops : Array Oper} {o : Oper} {l : List Oper} {d : Nat} {fo : Operand} {ar : Array Operand} {ts : Array TypeId} {f : FuncId} {y : AV} {args caps : List AV}
end
end Go.Proofs.YtllkbjcemecmjaaGreat.Aw
end
section
namespace Go.Proofs.YtllkbjcemecmjaaGreat.Aw
open Go Go.RowKit Go.Proofs
section
variable {P : Program} {o : Oper} {F : Frm} {σ : List Ob}
end
section
variable {P : Program} {N : Nat} {F : Frm} {σ σ' : List Ob} {Q : Exit → Frm → List Ob → Prop} {ops : Array Oper} {o : Oper} {l : List Oper} {x : AV}
variable {d : Nat} {fo : Operand} {ar : Array Operand} {ts : Array TypeId} {f : FuncId} {y : AV} {args caps : List AV}
end
theorem kwk_sub {N : Nat} {F : Frm} {σ : List Ob} : ∀ {F'}, Sub F F' → WeakK N F σ F' σ := fun {F'} h G a hs => by
 refine ⟨G, rfl, .refl G, hs.rel, ?_, hs.df, hs.nt⟩
 have key : ∀ F', Sub F F' → FOk G a F' := by
  intro F'
  induction F' with
  | nil => intro _ d; exact .any _
  | cons p F' ih =>
   obtain ⟨d, y⟩ := p
   intro h t
   simp only [Frm.get]
   cases e : Nat.beq d t with
   | true => have := Nat.eq_of_beq_eq_true e; subst this; rw [← h.1]; exact hs.fr d
   | false => exact ih h.2 t
 exact key F' h
theorem kw_of {P : Program} {N : Nat} {F : Frm} {σ : List Ob} {Q : Exit → Frm → List Ob → Prop} {c : Code} (h : EWp P N c F σ Q) : KWp P N c F σ Q := fun G a hs =>
 Code.wp_mono (fun e a w q => by obtain ⟨G', F', σ', h1, h2, h3, h4⟩ := q; exact ⟨G', F', σ', h1, KE.of h2, h3, h4⟩) (h G a hs)
theorem kw_draw {P : Program} {N : Nat} {l : List Oper} {F : Frm} {σ : List Ob} {Q : Exit → Frm → List Ob → Prop} {id : Nat} (hm : P.follows .mixedOrders = true) (h : EDraw P N l F σ Q) : KWp P N (.region id l.toArray true) F σ Q := kw_of (ew_draw hm h)
theorem kdraw_ex {P : Program} {N : Nat} {l : List Oper} {F : Frm} {σ : List Ob} {Q : Exit → Frm → List Ob → Prop} (h : EX P N l.toArray l [] l F σ (fun F' σ' => Q .normal F' σ')) : EDraw P N l F σ Q := by
 obtain ⟨F', σ', out, ks, sts, h1, h2, h3⟩ := h
 exact edraw_steps h1 (by simpa using h2) h3
theorem kwk_own {N : Nat} {F : Frm} {σ : List Ob} {d : Nat} {x : AV} (sz : Nat) (hd : F.get d = x) (hx : x = .emp ∨ x = .s (.slice none 0 0)) : WeakK N F σ ((d, .own σ.length sz 0) :: F) (σ ++ [.row sz []]) := fun G a h => by
 have he := nil_ext h.rel
 refine ⟨G.new σ.length G.w none, rfl, .of he, nil_rel h.rel sz, (h.fr.ext he).more ?_, h.df, h.nt⟩
 have h1 := h.fr d
 rw [hd] at h1
 generalize a.tmps.getD d undef = v at h1
 rcases hx with rfl | rfl
 ·
  cases h1 with | emp A hA => exact .own0 σ.length sz A hA (by simp [Cx.new])
 ·
  cases h1; exact .own0 σ.length sz none (fun a ha => by cases ha) (by simp [Cx.new])
end Go.Proofs.YtllkbjcemecmjaaGreat.Aw
end
section
namespace Go.Proofs.YtllkbjcemecmjaaGreat.Aw.K1
open Go Go.RowKit Go.Proofs
structure KE (G G' : Cx) : Prop where
 step : G.Step G'
 mu0 : ∀ i y, i < 1 → G.mu i = some y → G'.mu i = some y
 rows : zcc G.w G'.w
 size : G.w.heap.size ≤ G'.w.heap.size
theorem KE.refl (G : Cx) : KE G G := ⟨.refl G, fun _ _ _ h => h, zcc.refl _, Nat.le_refl _⟩
theorem KE.trans {G H K : Cx} (h : KE G H) (k : KE H K) : KE G K := ⟨h.step.trans k.step, fun i y hi x => k.mu0 i y hi (h.mu0 i y hi x), h.rows.trans k.rows, Nat.le_trans h.size k.size⟩
theorem KE.of {G G' : Cx} (e : G.Ext G') : KE G G' := ⟨e.step, fun i y _ h => e.mu i y h, e.rows, e.size⟩
def liftK (N : Nat) (G : Cx) (Q : Exit → Frm → List Ob → Prop) : Exit → Act → World → Prop :=
 fun e a' w' => ∃ G' F' σ', G'.w = w' ∧ KE G G' ∧ S8 N G' a' F' σ' ∧ Q e F' σ'
theorem liftK_mono {N : Nat} {G G1 : Cx} (h : KE G G1) {Q Q' : Exit → Frm → List Ob → Prop} (hq : ∀ e F σ, Q e F σ → Q' e F σ) {e : Exit} {a : Act} {w : World} (x : liftK N G1 Q e a w) : liftK N G Q' e a w := by
 obtain ⟨G', F', σ', h1, h2, h3, h4⟩ := x
 exact ⟨G', F', σ', h1, h.trans h2, h3, hq _ _ _ h4⟩
def KWp (P : Program) (N : Nat) (c : Code) (F : Frm) (σ : List Ob) (Q : Exit → Frm → List Ob → Prop) : Prop :=
 ∀ G a, S8 N G a F σ → c.wp P (liftK N G Q) a G.w
def KOps (P : Program) (N : Nat) (ops : Array Oper) (l : List Oper) (F : Frm) (σ : List Ob) (Q : Exit → Frm → List Ob → Prop) : Prop :=
 ∀ G a, S8 N G a F σ → wpList P ops (liftK N G Q) l a G.w
section
variable {P : Program} {N : Nat} {F : Frm} {σ : List Ob} {Q : Exit → Frm → List Ob → Prop}
theorem kw_seq {x y : Code} (h : KWp P N x F σ (AThen (fun F σ => KWp P N y F σ Q) Q)) : KWp P N (.seq x y) F σ Q := fun G a hs => by
 refine wp_seq (Code.wp_mono (fun e a1 w1 q => ?_) (h G a hs))
 obtain ⟨G', F', σ', rfl, h2, h3, h4⟩ := q
 cases e with
 | normal => exact Code.wp_mono (fun e a w q => liftK_mono h2 (fun _ _ _ x => x) q) (h4 G' a1 h3)
 | _ => exact ⟨G', F', σ', rfl, h2, h3, h4⟩
theorem kw_skip (h : Q .normal F σ) : KWp P N .skip F σ Q := fun G a hs => wp_skip ⟨G, F, σ, rfl, .refl G, hs, h⟩
theorem kw_exit {id : Nat} (h : Q (.exit id) F σ) : KWp P N (.exit id) F σ Q := fun G a hs => wp_exit ⟨G, F, σ, rfl, .refl G, hs, h⟩
theorem kw_ret (h : Q .ret F σ) : KWp P N .ret F σ Q := fun G a hs => wp_ret ⟨G, F, σ, rfl, .refl G, hs, h⟩
theorem kw_block {id : Nat} {c : Code} (h : KWp P N c F σ (ABlk id Q)) : KWp P N (.block id c) F σ Q := fun G a hs => by
 refine wp_block (Code.wp_mono (fun e a1 w1 q => ?_) (h G a hs))
 obtain ⟨G', F', σ', rfl, h2, h3, h4⟩ := q
 cases e with
 | exit id' =>
  simp only [ABlk] at h4
  simp only [Exit.inBlock]
  split
  ·
   rename_i e; rw [if_pos e] at h4; exact ⟨G', F', σ', rfl, h2, h3, h4⟩
  ·
   rename_i e; rw [if_neg e] at h4; exact ⟨G', F', σ', rfl, h2, h3, h4⟩
 | _ => exact ⟨G', F', σ', rfl, h2, h3, h4⟩
theorem kw_cond {c : Operand} {x y : Code} {b : Bool} (hc : F.eval c = .s (.bool b)) (ht : b = true → KWp P N x F σ Q) (hf : b = false → KWp P N y F σ Q) : KWp P N (.cond c x y) F σ Q := fun G a hs =>
 wp_cond_split (rep_bool hs.fr hc) (fun e => ht e G a hs) (fun e => hf e G a hs)
theorem kw_true {c : Operand} {x y : Code} (hc : F.eval c = .s (.bool true)) (ht : KWp P N x F σ Q) : KWp P N (.cond c x y) F σ Q := kw_cond hc (fun _ => ht) (fun e => by cases e)
theorem kw_false {c : Operand} {x y : Code} (hc : F.eval c = .s (.bool false)) (ht : KWp P N y F σ Q) : KWp P N (.cond c x y) F σ Q := kw_cond hc (fun e => by cases e) (fun _ => ht)
theorem kw_loop {c : Code} (I : Nat → Frm → List Ob → Prop) (m : Nat) (h0 : I m F σ)
  (round : ∀ m F σ, I m F σ → KWp P N c F σ (AThen (fun F' σ' => ∃ m', m' < m ∧ I m' F' σ') Q)) : KWp P N (.loop c) F σ Q := fun G a hs => by
 refine wp_loop_ghost (fun n a w => ∃ G' F' σ', G'.w = w ∧ KE G G' ∧ S8 N G' a F' σ' ∧ I n F' σ') m ⟨G, F, σ, rfl, .refl G, hs, h0⟩ ?_
 rintro n a w ⟨G', F', σ', rfl, h2, h3, h4⟩
 refine Code.wp_mono (fun e a1 w1 q => ?_) (round n F' σ' h4 G' a h3)
 obtain ⟨G2, F2, σ2, rfl, h5, h6, h7⟩ := q
 cases e with
 | normal => obtain ⟨m', hm, hi⟩ := h7; exact ⟨m', hm, ⟨G2, F2, σ2, rfl, h2.trans h5, h6, hi⟩⟩
 | _ => exact ⟨G2, F2, σ2, rfl, h2.trans h5, h6, h7⟩
theorem kw_region {id : Nat} {l : List Oper} (h : KOps P N l.toArray l F σ Q) : KWp P N (.region id l.toArray false) F σ Q := fun G a hs => wp_region_lit (h G a hs)
theorem kw_mono {c : Code} {Q' : Exit → Frm → List Ob → Prop} (h : KWp P N c F σ Q) (hq : ∀ e F σ, Q e F σ → Q' e F σ) : KWp P N c F σ Q' := fun G a hs =>
 Code.wp_mono (fun e a w q => liftK_mono (.refl G) hq q) (h G a hs)
end
section
variable {P : Program} {N : Nat} {F : Frm} {σ σ' : List Ob} {Q : Exit → Frm → List Ob → Prop} {ops : Array Oper} {o : Oper} {l : List Oper} {x : AV}
theorem kops_nil (h : Q .normal F σ) : KOps P N ops [] F σ Q := fun G a hs => ⟨G, F, σ, rfl, .refl G, hs, h⟩
theorem kops_op {d : Nat} (hd : o.dst = some d) (hN : Nat.blt d N = true) (hr : Runs ops F o true) (hD : Does P o F σ x σ') (k : KOps P N ops l ((d, x) :: F) σ' Q) : KOps P N ops (o :: l) F σ Q := fun G a hs => by
 unfold wpList
 rw [if_pos (hr.wanted hs.fr)]
 left
 refine hD G a _ _ hs.rel (fun y _ => zc4 hs.fr y) (fun v G' e r hv => ?_)
 rw [hd]
 exact zcm (fun e' a w q => liftK_mono (KE.of e) (fun _ _ _ x => x) q) _ _ _ (k G' _ ((hs.step e r).put (by simpa [Nat.blt_eq] using hN) hv))
theorem kops_eff (hd : o.dst = none) (hr : Runs ops F o true) (hD : Does P o F σ x σ') (k : KOps P N ops l F σ' Q) : KOps P N ops (o :: l) F σ Q := fun G a hs => by
 unfold wpList
 rw [if_pos (hr.wanted hs.fr)]
 left
 refine hD G a _ _ hs.rel (fun y _ => zc4 hs.fr y) (fun v G' e r hv => ?_)
 rw [hd]
 exact zcm (fun e' a w q => liftK_mono (KE.of e) (fun _ _ _ x => x) q) _ _ _ (k G' _ (hs.step e r))
theorem kops_skip {d : Nat} (hd : o.dst = some d) (hN : Nat.blt d N = true) (hr : Runs ops F o false) (k : KOps P N ops l ((d, .s undef) :: F) σ Q) : KOps P N ops (o :: l) F σ Q := fun G a hs => by
 unfold wpList
 rw [if_neg (by rw [hr.wanted hs.fr]; simp)]
 rw [hd]
 exact k G _ (hs.put (by simpa [Nat.blt_eq] using hN) (.s _))
end
def WeakK (N : Nat) (F : Frm) (σ : List Ob) (F' : Frm) (σ' : List Ob) : Prop := ∀ G a, S8 N G a F σ → ∃ G', G'.w = G.w ∧ KE G G' ∧ S8 N G' a F' σ'
theorem WeakK.refl {N : Nat} {F : Frm} {σ : List Ob} : WeakK N F σ F σ := fun G a h => ⟨G, rfl, .refl G, h⟩
section
variable {P : Program} {N : Nat} {F F' : Frm} {σ σ' : List Ob} {Q : Exit → Frm → List Ob → Prop}
theorem kw_weak {c : Code} (w : WeakK N F σ F' σ') (h : KWp P N c F' σ' Q) : KWp P N c F σ Q := fun G a hs => by
 obtain ⟨G1, e1, s1, h1⟩ := w G a hs
 rw [← e1]
 exact Code.wp_mono (fun e a w q => liftK_mono s1 (fun _ _ _ x => x) q) (h G1 a h1)
theorem kops_weak {ops : Array Oper} {l : List Oper} (w : WeakK N F σ F' σ') (h : KOps P N ops l F' σ' Q) : KOps P N ops l F σ Q := fun G a hs => by
 obtain ⟨G1, e1, s1, h1⟩ := w G a hs
 rw [← e1]
 exact zcm (fun e a w q => liftK_mono s1 (fun _ _ _ x => x) q) _ _ _ (h G1 a h1)
theorem kw_loops {c : Code} {S : Type} (fr : S → Frm) (st : S → List Ob) (inv : S → Prop) (ms : S → Nat) (s0 : S) (hw : WeakK N F σ (fr s0) (st s0)) (h0 : inv s0)
  (round : ∀ s, inv s → KWp P N c (fr s) (st s) (AThen (fun F' σ' => ∃ s', inv s' ∧ ms s' < ms s ∧ WeakK N F' σ' (fr s') (st s')) Q)) : KWp P N (.loop c) F σ Q := by
 refine kw_weak hw (kw_loop (fun m F σ => ∃ s, inv s ∧ ms s = m ∧ WeakK N F σ (fr s) (st s)) (ms s0) ⟨s0, h0, rfl, WeakK.refl⟩ (fun m F σ h => ?_))
 obtain ⟨s, h1, rfl, h3⟩ := h
 refine kw_weak h3 (kw_mono (round s h1) (fun e F σ q => ?_))
 cases e with
 | normal => obtain ⟨s', g1, g2, g3⟩ := q; exact ⟨ms s', g2, s', g1, rfl, g3⟩
 | _ => exact q
variable {ops : Array Oper} {o : Oper} {l : List Oper} {d : Nat}
theorem kops_opP {p : Prop} [Decidable p] (hd : o.dst = some d) (hN : Nat.blt d N = true) (hr : Runs ops F o true) (hD : Does P o F σ (.s (.bool (decide p))) σ) (k1 : p → KOps P N ops l ((d, .s (.bool true)) :: F) σ Q) (k2 : ¬ p → KOps P N ops l ((d, .s (.bool false)) :: F) σ Q) : KOps P N ops (o :: l) F σ Q := by
 by_cases h : p
 ·
  exact kops_op hd hN hr (zdc h hD) (k1 h)
 ·
  exact kops_op hd hN hr (dec_f h hD) (k2 h)
end
section
variable {N : Nat} {F F' : Frm} {σ σ' : List Ob}
theorem WeakK.weak (h : WeakK N F σ F' σ') : Weak N F σ F' σ' := fun G a hs => by
 obtain ⟨G', h1, h2, h3⟩ := h G a hs
 exact ⟨G', h1, h2.step, h3⟩
theorem WeakK.trans {F1 F2 : Frm} {σ1 σ2 : List Ob} (h : WeakK N F σ F1 σ1) (k : WeakK N F1 σ1 F2 σ2) : WeakK N F σ F2 σ2 := fun G a hs => by
 obtain ⟨G1, e1, s1, h1⟩ := h G a hs
 obtain ⟨G2, e2, s2, h2⟩ := k G1 a h1
 exact ⟨G2, e2.trans e1, s1.trans s2, h2⟩
theorem kwk_froz {id sz : Nat} {cs : List AV} (hs : σ[id]? = some (.row sz cs)) : WeakK N F σ F (σ.set id (.fz sz cs)) := fun G a h => by
 obtain ⟨h1, h2⟩ := froz_ok h.rel hs
 exact ⟨G.froz id, rfl, KE.of h1, h.step h1 h2⟩
theorem kwk_ref {d id sz k : Nat} {cs : List AV} {e : AV} (hd : F.get d = .ptr id sz k 0) (hs : σ[id]? = some (.fz sz cs)) (he : cs[k]? = some e) : WeakK N F σ ((d, .ref e.cells) :: F) σ := fun G a h =>
 ⟨G, rfl, .refl G, h.rel, h.fr.more (rep_fzp h.rel hs he (by rw [← hd]; exact h.fr d)), h.df, h.nt⟩
theorem kwk_cut {X : List Ob} (h0 : 0 < σ.length) (hσ : ∀ ob ∈ σ, LoOb σ.length ob) (hF : FrLo F σ.length F') : WeakK N F (σ ++ X) F' σ := fun G a h => by
 let G' : Cx := { G with mu := fun i => if i < σ.length then G.mu i else none }
 have hmu : ∀ i, i < σ.length → G'.mu i = G.mu i := fun i hi => if_pos hi
 have low : ∀ {v x}, Rep G v x → Lo σ.length x → Rep G' v x := fun hv hx => hv.low hx (fun _ _ h => h) (fun _ _ _ => rfl) (fun id y hid hy => by rw [hmu id hid]; exact hy) (fun _ => zcc.refl _)
 have hr := h.rel
 have rowlow : ∀ {b sz : Nat} {cs : List AV} {f : Nat × Nat → Prop}, (∀ e ∈ cs, ∀ c ∈ e.cells, Lo σ.length c) → RowAt G b sz cs f → RowAt G' b sz cs f := fun hlo ⟨cur, t, fr, g1, g2, g3, g4⟩ =>
  ⟨cur, t, fr, g1, g2, g3, fun k e he => ⟨(g4 k e he).1, (g4 k e he).2.1, fun j c hc => by
   obtain ⟨v, h6, h7⟩ := (g4 k e he).2.2 j c hc
   exact ⟨v, h6, low h7 (hlo e (List.mem_of_getElem? he) c (List.mem_of_getElem? hc))⟩⟩⟩
 refine ⟨G', rfl, ⟨⟨rfl, rfl, fun _ _ h => h, fun _ _ _ => rfl, fun _ _ h => .inl h, rfl, fun _ _ h => .inl h⟩, fun i y hi hy => by rw [hmu i xd]; exact hy, zcc.refl _, Nat.le_refl _⟩, ⟨⟨hr.below, hr.le, hr.st, fun id ob hob => ?_, fun i j b hi hj hm hm' => ?_, fun id hid => if_neg xd⟩, ?_, h.df, h.nt⟩⟩
 ·
  have hid := (List.getElem?_eq_some_iff.1 hob).1
  have h1 := hr.obs id ob (by rw [List.getElem?_append_left hid]; exact hob)
  have hlo := hσ ob (List.mem_of_getElem? hob)
  cases ob with
  | dead => intro b hb; rw [hmu id hid] at hb; exact h1 b hb
  | row sz cs =>
   simp only [ObOk, hmu id hid] at h1 ⊢
   cases hx : G.mu id with
   | none => rw [hx] at h1; exact h1
   | some x =>
    rw [hx] at h1
    cases x with
    | none => exact h1
    | some b => exact ⟨rowlow hlo h1.1, h1.2⟩
  | fz sz cs =>
   simp only [ObOk, hmu id hid] at h1 ⊢
   cases hx : G.mu id with
   | none => rw [hx] at h1; exact h1
   | some x =>
    rw [hx] at h1
    cases x with
    | none => exact h1
    | some b => exact ⟨rowlow hlo h1.1, h1.2⟩
  | mp X =>
   obtain ⟨b, g1, g2, g3, g4, g5⟩ := h1
   refine ⟨b, (hmu id hid).trans g1, g2, g3, g4, fun j hj => g5 j ?_⟩
   by_cases hjl : j < σ.length
   ·
    rwa [hmu j hjl] at hj
   ·
    simp only [G', if_neg hjl] at hj; cases hj
 ·
  obtain ⟨sz, cs, h1⟩ := hi
  obtain ⟨sz', cs', h1'⟩ := hj
  have hil := (List.getElem?_eq_some_iff.1 h1).1
  have hjl := (List.getElem?_eq_some_iff.1 h1').1
  rw [hmu i hil] at hm
  rw [hmu j hjl] at hm'
  exact hr.inj i j b ⟨sz, cs, by rw [List.getElem?_append_left hil]; exact h1⟩ ⟨sz', cs', by rw [List.getElem?_append_left hjl]; exact h1'⟩ hm hm'
 ·
  have key : ∀ F', FrLo F σ.length F' → FOk G' a F' := by
   intro F'
   induction F' with
   | nil => intro _ d; exact .any _
   | cons p F' ih =>
    obtain ⟨d, y⟩ := p
    rintro ⟨⟨g1, g2⟩, g3⟩ t
    simp only [Frm.get]
    cases e : Nat.beq d t with
    | true =>
     have := Nat.eq_of_beq_eq_true e
     subst this
     have := h.fr d
     rw [g1] at this
     exact low this g2
    | false => exact ih g3 t
  exact key F' hF
theorem kwk_st (ρ : List Nat) (h0 : ρ[0]? = some 0) (hn : ρ.Nodup) (hs : StL ρ σ ρ σ') (hf : FrRn F ρ F') : WeakK N F σ F' σ' := fun G a h =>
 ⟨G.ren ρ, rfl, ⟨⟨rfl, rfl, fun _ _ h => h, fun _ _ _ => rfl, fun _ _ h => .inl h, rfl, fun _ _ h => .inl h⟩, fun i y hi hy => by
  match i, hi with
  | 0, _ => simp [Cx.ren, h0, hy], zcc.refl _, Nat.le_refl _⟩, ⟨ren_rel h.rel hn (stRn_of ρ σ' hs), frRn_ok h.fr F' hf, h.df, h.nt⟩⟩
theorem kwk_ownC {id sz sz2 : Nat} {e e' : AV} {pre post : List AV} (hs : σ[id]? = some (.row sz [e])) (h1 : e.cells = pre ++ .s (.slice none 0 0) :: post) (h2 : e'.cells = pre ++ .own σ.length sz2 0 :: post) :
  WeakK N F σ F (σ.set id (.row sz [e']) ++ [.row sz2 []]) := fun G a h => by
 have he := nil_ext h.rel
 have hr := nil_rel h.rel sz2
 have hid : id < σ.length := (List.getElem?_eq_some_iff.1 hs).1
 refine ⟨G.new σ.length G.w none, rfl, .of he, ?_, h.fr.ext he, h.df, h.nt⟩
 have hset : σ.set id (Ob.row sz [e']) ++ [Ob.row sz2 []] = (σ ++ [Ob.row sz2 []]).set id (Ob.row sz [e']) := by rw [List.set_append_left _ _ hid]
 rw [hset]
 refine reread_rel hr (by rw [List.getElem?_append_left hid]; exact hs) (fun h => by cases h) ?_
 rintro b f ⟨cur, t, fr, g1, g2, g3, g4⟩
 refine ⟨cur, t, fr, g1, g2, g3, fun k y hy => ?_⟩
 cases k with
 | succ k => simp at hy
 | zero =>
  simp at hy
  subst hy
  obtain ⟨k1, k2, k3⟩ := g4 0 e rfl
  rw [h1] at k1 k2 k3
  rw [h2]
  refine ⟨by simpa using k1, fun c hc => ?_, fun j c hc => ?_⟩
  ·
   simp only [List.mem_append, List.mem_cons] at hc
   rcases hc with hc | rfl | hc
   ·
    exact k2 c (by simp [hc])
   ·
    rfl
   ·
    exact k2 c (by simp [hc])
  ·
   by_cases hj : j = pre.length
   ·
    subst hj
    simp at hc
    subst hc
    obtain ⟨v, h6, h7⟩ := k3 pre.length (.s (.slice none 0 0)) xo
    refine ⟨v, h6, ?_⟩
    cases h7
    exact .own0 σ.length sz2 none (fun a ha => by cases ha) (by simp [Cx.new])
   ·
    have e : (pre ++ AV.s (.slice none 0 0) :: post)[j]? = some c := by
     rw [← hc]
     by_cases hlt : j < pre.length
     ·
      rw [List.getElem?_append_left hlt, List.getElem?_append_left hlt]
     ·
      rw [List.getElem?_append_right xd, List.getElem?_append_right xd]
      obtain ⟨i, hi⟩ : ∃ i, j - pre.length = i + 1 := ⟨j - pre.length - 1, by omega⟩
      rw [hi]; rfl
    exact k3 j c e
theorem kwk_sl {d id sz n : Nat} {cs : List AV} (hd : F.get d = .own id sz n) (hs : σ[id]? = some (.fz sz cs)) (hn : n = cs.length) : WeakK N F σ ((d, .sl cs) :: F) σ := fun G a h =>
 ⟨G, rfl, .refl G, h.rel, h.fr.more (rep_fz h.rel hs hn (by rw [← hd]; exact h.fr d)), h.df, h.nt⟩
theorem kwk_nil {d : Nat} (hd : F.get d = .s (.slice none 0 0)) : WeakK N F σ ((d, .sl []) :: F) σ := fun G a h =>
 ⟨G, rfl, .refl G, h.rel, h.fr.more (rep_nil (by rw [← hd]; exact h.fr d)), h.df, h.nt⟩
theorem kwk_own {d : Nat} {x : AV} (sz : Nat) (hd : F.get d = x) (hx : x = .emp ∨ x = .s (.slice none 0 0)) : WeakK N F σ ((d, .own σ.length sz 0) :: F) (σ ++ [.row sz []]) := fun G a h => by
 have he := nil_ext h.rel
 refine ⟨G.new σ.length G.w none, rfl, .of he, nil_rel h.rel sz, (h.fr.ext he).more ?_, h.df, h.nt⟩
 have h1 := h.fr d
 rw [hd] at h1
 generalize a.tmps.getD d undef = v at h1
 rcases hx with rfl | rfl
 ·
  cases h1 with | emp A hA => exact .own0 σ.length sz A hA (by simp [Cx.new])
 ·
  cases h1; exact .own0 σ.length sz none (fun a ha => by cases ha) (by simp [Cx.new])
end
section
variable {P : Program} {σ σ' : List Ob} {f : FuncId} {y : AV} {args : List AV}
theorem callE_fn {fn : Func} {c : Code} (hl : σ.length ≤ 1) (hf : P.funcs[f]? = some fn) (hname : (fn.name == "runtime.NumGoroutine") = false) (hb : fn.body = some c) (hn : args.length ≤ fn.ntmps)
  (h : KWp P fn.ntmps c (argF 0 args) σ (fun e F σ1 => (e = .normal ∨ e = .ret) ∧ σ1 = σ' ∧ ∃ xs, ResL P F σ1 fn.results.toList xs ∧ oneOf xs = y)) : CallE P f args σ y σ' := by
 refine ⟨enters_of hf hname hb, fun G vargs hrel hsz hrep => ?_⟩
 refine calls_of_wp hf hb ?_
 have hfo : FOk G { tmps := vargs ++ Array.replicate (fn.ntmps - vargs.size) undef, defers := [] } (argF 0 args) := by
  intro d
  rw [argF_get]
  simp only [Nat.zero_le, if_true, Nat.sub_zero]
  by_cases hd : d < args.length
  ·
   have h1 : (vargs ++ Array.replicate (fn.ntmps - vargs.size) undef).getD d undef = vargs[d]'(by omega) := by
    rw [Array.getD_eq_getD_getElem?, Array.getElem?_append_left xd]
    simp [show d < vargs.size by omega]
   rw [h1]
   have h2 : args.getD d .any = args[d] := by rw [List.getD_eq_getElem?_getD, List.getElem?_eq_getElem hd]; rfl
   rw [h2]
   exact hrep d _ _ (by simp [show d < vargs.size by omega]) (by simp [hd])
  ·
   have h2 : args.getD d .any = .any := by
    rw [List.getD_eq_getElem?_getD, List.getElem?_eq_none xd]; rfl
   rw [h2]; exact .any _
 have hs8 : S8 fn.ntmps G { tmps := vargs ++ Array.replicate (fn.ntmps - vargs.size) undef, defers := [] } (argF 0 args) σ := ⟨hrel, hfo, rfl, by simp; omega⟩
 refine Code.wp_mono (fun e a w q => ?_) (h G _ hs8)
 obtain ⟨G', F', σ1, rfl, h2, h3, he, rfl, xs, hrl, hy⟩ := q
 obtain ⟨v, h6, h7⟩ := results_run (fn := fn) h3.rel h3.fr hrl
 rw [hy] at h7
 have hext : G.Ext G' := ⟨h2.step.base, h2.step.w0, h2.step.st, h2.step.cell, fun id x hx => by
  by_cases hid : id < 1
  ·
   exact h2.mu0 id x hid hx
  ·
   rw [hrel.fresh id xd] at hx; exact absurd hx xo, h2.size, h2.rows, h2.step.stN, h2.step.pr, h2.step.prN⟩
 have post : ∃ (v' : Value) (G'' : Cx), Ending.returned v = .returned v' ∧ G''.w = G'.w ∧ G.Ext G'' ∧ Rel G'' σ1 ∧ Rep G'' v' y := ⟨v, G', rfl, rfl, hext, h3.rel, h7⟩
 rcases he with rfl | rfl
 ·
  exact ⟨h3.df, _, h6, post⟩
 ·
  exact ⟨h3.df, _, h6, post⟩
theorem callE_fn1 {fn : Func} {c : Code} {t : Nat} (hl : σ.length ≤ 1) (hf : P.funcs[f]? = some fn) (hname : (fn.name == "runtime.NumGoroutine") = false) (hb : fn.body = some c) (hn : args.length ≤ fn.ntmps) (hres : fn.results.toList = [.tmp t])
  (h : KWp P fn.ntmps c (argF 0 args) σ (fun e F σ1 => (e = .normal ∨ e = .ret) ∧ F.get t = y ∧ σ1 = σ')) : CallE P f args σ y σ' :=
 callE_fn hl hf hname hb hn (kw_mono h (fun e F σ1 ⟨h1, h2, h3⟩ => ⟨h1, h3, [y], by rw [hres]; exact .cons _ _ _ _ (.tmp t y h2) .nil, rfl⟩))
theorem callE_fn0 {fn : Func} {c : Code} (hl : σ.length ≤ 1) (hf : P.funcs[f]? = some fn) (hname : (fn.name == "runtime.NumGoroutine") = false) (hb : fn.body = some c) (hn : args.length ≤ fn.ntmps) (hres : fn.results.toList = [])
  (h : KWp P fn.ntmps c (argF 0 args) σ (fun e F σ1 => (e = .normal ∨ e = .ret) ∧ σ1 = σ')) : CallE P f args σ (.tup []) σ' :=
 callE_fn hl hf hname hb hn (kw_mono h (fun e F σ1 ⟨h1, h3⟩ => ⟨h1, h3, [], by rw [hres]; exact .nil, rfl⟩))
end
theorem kwk_sub {N : Nat} {F : Frm} {σ : List Ob} : ∀ {F'}, Sub F F' → WeakK N F σ F' σ := fun {F'} h G a hs => by
 refine ⟨G, rfl, .refl G, hs.rel, ?_, hs.df, hs.nt⟩
 have key : ∀ F', Sub F F' → FOk G a F' := by
  intro F'
  induction F' with
  | nil => intro _ d; exact .any _
  | cons p F' ih =>
   obtain ⟨d, y⟩ := p
   intro h t
   simp only [Frm.get]
   cases e : Nat.beq d t with
   | true => have := Nat.eq_of_beq_eq_true e; subst this; rw [← h.1]; exact hs.fr d
   | false => exact ih h.2 t
 exact key F' h
theorem kw_of {P : Program} {N : Nat} {F : Frm} {σ : List Ob} {Q : Exit → Frm → List Ob → Prop} {c : Code} (h : EWp P N c F σ Q) : KWp P N c F σ Q := fun G a hs =>
 Code.wp_mono (fun e a w q => by obtain ⟨G', F', σ', h1, h2, h3, h4⟩ := q; exact ⟨G', F', σ', h1, KE.of h2, h3, h4⟩) (h G a hs)
theorem kw_draw {P : Program} {N : Nat} {l : List Oper} {F : Frm} {σ : List Ob} {Q : Exit → Frm → List Ob → Prop} {id : Nat} (hm : P.follows .mixedOrders = true) (h : EDraw P N l F σ Q) : KWp P N (.region id l.toArray true) F σ Q := kw_of (ew_draw hm h)
theorem kdraw_ex {P : Program} {N : Nat} {l : List Oper} {F : Frm} {σ : List Ob} {Q : Exit → Frm → List Ob → Prop} (h : EX P N l.toArray l [] l F σ (fun F' σ' => Q .normal F' σ')) : EDraw P N l F σ Q := by
 obtain ⟨F', σ', out, ks, sts, h1, h2, h3⟩ := h
 exact edraw_steps h1 (by simpa using h2) h3
section
variable {P : Program} {N : Nat} {F : Frm} {σ : List Ob} {Q : Exit → Frm → List Ob → Prop} {ops : Array Oper} {o : Oper} {l : List Oper} {d : Nat} {x : AV}
theorem kops_s (h : stv (opv o.op F) N ops o F = some (d, x)) (k : KOps P N ops l ((d, x) :: F) σ Q) : KOps P N ops (o :: l) F σ Q := kops_op (zbo h).1 (zbo h).2.1 (zbo h).2.2.1 (opv_does (zbo h).2.2.2) k
theorem kops_f {t f off n ft : Nat} (hf : zca P t f = some (off, ft, some n)) (h : stv (fdv o.op t f off n F) N ops o F = some (d, x)) (k : KOps P N ops l ((d, x) :: F) σ Q) : KOps P N ops (o :: l) F σ Q := kops_op (zbo h).1 (zbo h).2.1 (zbo h).2.2.1 (fdv_does hf (zbo h).2.2.2) k
theorem kops_l {t : Nat} (ha : zc8 P t = some false) (h : stv (ldv o.op t F) N ops o F = some (d, x)) (k : KOps P N ops l ((d, x) :: F) σ Q) : KOps P N ops (o :: l) F σ Q := kops_op (zbo h).1 (zbo h).2.1 (zbo h).2.2.1 (ldv_does ha (zbo h).2.2.2) k
theorem kops_w {t n bt : Nat} {z : Option Value} (ha : zc8 P t = some true) (hi : zb5 P t = some (z, n, bt)) (h : stv (lwv o.op t n F) N ops o F = some (d, x)) (k : KOps P N ops l ((d, x) :: F) σ Q) : KOps P N ops (o :: l) F σ Q := kops_op (zbo h).1 (zbo h).2.1 (zbo h).2.2.1 (lwv_does ha hi (zbo h).2.2.2) k
theorem kops_z (h : stz N ops o F = some d) (k : KOps P N ops l ((d, .s undef) :: F) σ Q) : KOps P N ops (o :: l) F σ Q := kops_skip (stz_ok h).1 (stz_ok h).2.1 (stz_ok h).2.2 k
end
theorem kw_join {P : Program} {N : Nat} {F : Frm} {σ : List Ob} {Q : Exit → Frm → List Ob → Prop} {c c2 c3 : Code} (F1 : Frm) (σ1 : List Ob)
  (h : KWp P N c F σ (AThen (fun F σ => KWp P N c2 F σ (AThen (fun F' σ' => WeakK N F' σ' F1 σ1) Q)) (AThen (fun F' σ' => WeakK N F' σ' F1 σ1) Q)))
  (k : KWp P N c3 F1 σ1 Q) : KWp P N c F σ (AThen (fun F σ => KWp P N c2 F σ (AThen (fun F σ => KWp P N c3 F σ Q) Q)) (AThen (fun F σ => KWp P N c3 F σ Q) Q)) := by
 have w : ∀ e F σ, AThen (fun F' σ' => WeakK N F' σ' F1 σ1) Q e F σ → AThen (fun F σ => KWp P N c3 F σ Q) Q e F σ := fun e F σ q => by
  cases e with
  | normal => exact kw_weak q k
  | _ => exact q
 refine kw_mono h (fun e F σ q => ?_)
 cases e with
 | normal => exact kw_mono q w
 | _ => first | exact w .ret F σ q | exact w (.exit _) F σ q | exact w (.goto _) F σ q | exact w (.panic _) F σ q | exact w .outgrown F σ q
end Go.Proofs.YtllkbjcemecmjaaGreat.Aw.K1
end
section
namespace Go.Proofs.YtllkbjcemecmjaaGreat.Aw
open Go Go.RowKit Go.Proofs
theorem pureO_of {P : Program} {f : FuncId} {args : List AV} {m sz n : Nat} {σ' : List Ob} {cs : List AV} (hc : CallE P f args [] (.own m sz n) σ') (hm : σ'[m]? = some (.row sz cs)) (hn : n = cs.length) (hpos : 0 < n)
  (hcs : ∀ e ∈ cs, ∀ c ∈ e.cells, ∃ u, c = .s u) (hlo : ∀ a ∈ args, Lo 0 a) : PureO P f args sz cs := by
 refine ⟨hc.ent, fun G vargs hst hsz hrep => ?_⟩
 let G0 : Cx := { base := G.w.heap.size, w0 := G.w, w := G.w, mu := fun _ => none, St := G.St }
 have hrel : Rel G0 [] := ⟨⟨Below.refl _ _, hst.tab, hst.tab.lt⟩, Nat.le_refl _, fun b o h => h.elim (hst.st b o) False.elim, by simp, by rintro i j b ⟨_, _, h⟩; simp at h, fun _ _ => rfl⟩
 refine (hc.call G0 vargs hrel hsz (fun j v x h1 h2 => (hrep j v x h1 h2).low (hlo x (List.mem_of_getElem? h2)) (fun _ _ h => h) (fun _ _ _ => rfl) (fun id y hid => by omega) (fun h => by omega))).mono ?_
 rintro e w' ⟨v, G', rfl, rfl, he, hr', hv⟩
 refine ⟨v, rfl, ?_, .inr ?_⟩
 ·
  have h1 := hr'.below.toBelow
  rw [he.base, he.w0] at h1
  exact h1
 ·
  cases hv with
  | own0 id sz A hA hm => omega
  | own id sz n b cap hmu hle hcap hb =>
   have h1 := hr'.obs m _ hm
   simp only [ObOk, hmu] at h1
   obtain ⟨⟨cur, te, fr, g1, g2, g3, g4⟩, g5, g6⟩ := h1
   obtain ⟨cur2, e2, f2, k1, k2⟩ := hb
   rw [g1] at k1
   obtain ⟨rfl, rfl, rfl⟩ : cur = cur2 ∧ te = e2 ∧ fr = f2 := by cases k1; exact ⟨rfl, rfl, rfl⟩
   rw [g2] at g1
   rw [he.base] at g5
   subst hn
   refine ⟨b, cap, cur, te, rfl, g5, g1, k2, hle, hcap, fun k e hk => ?_⟩
   obtain ⟨q1, q2, q3⟩ := g4 k e hk
   refine ⟨q1, fun j c hj => ?_⟩
   obtain ⟨u, hu⟩ := hcs e (List.mem_of_getElem? hk) c (List.mem_of_getElem? hj)
   subst hu
   obtain ⟨v2, q4, q5⟩ := q3 j _ hj
   cases q5
   exact ⟨_, q4, rfl, q2 _ (List.mem_of_getElem? hj)⟩
variable {P : Program} [IsP P]
def eW (n : Int) : AV := .s (.int .u64 n)
theorem lo32 (n : Nat) (h : n < 26) : bitsV .and .u64 (n : Int) 4294967295 = n := by
 have : ∀ m : Fin 26, bitsV .and .u64 ((m.1 : Nat) : Int) 4294967295 = ((m.1 : Nat) : Int) := by decide
 exact this ⟨n, h⟩
theorem hi32 (n : Nat) (h : n < 26) : (n : Int).fdiv (2 ^ min (32 : Int).toNat IntKind.u64.bits) = 0 := by
 have : ∀ m : Fin 26, ((m.1 : Nat) : Int).fdiv (2 ^ min (32 : Int).toNat IntKind.u64.bits) = 0 := by decide
 exact this ⟨n, h⟩
theorem mul64_pf (n : Nat) (h : n < 26) : Pure P 82 [eW 1, eW n] (.tup [eW 0, eW n]) := by
 have h1 : bitsV .and .u64 1 4294967295 = 1 := by decide
 have h2 : (1 : Int).fdiv (2 ^ min (32 : Int).toNat IntKind.u64.bits) = 0 := by decide
 have h3 := lo32 n h
 have h4 := hi32 n h
 have h5 : IntKind.u64.wrap (1 * (n : Int)) = n := by rw [Int.one_mul]; exact IntWalk.u64_in _ xd
 have h6 : IntKind.u64.wrap (0 * (n : Int)) = 0 := by rw [Int.zero_mul]; decide
 have h7 : IntKind.u64.wrap (0 + 0) = 0 := by decide
 have h8 : bitsV .and .u64 0 4294967295 = 0 := by decide
 have h9 : (0 : Int).fdiv (2 ^ min (32 : Int).toNat IntKind.u64.bits) = 0 := by decide
 have h10 : IntKind.u64.wrap (1 * 0) = 0 := by decide
 have h11 : IntKind.u64.wrap (0 * 0) = 0 := by decide
 refine zcl (by rw [IsP.eq (P := P)]; exact Tryz.func82) rfl rfl rfl rfl rfl (zah (.s _) (zah (.s _) zak)) (.tup _ (zah (.s _) (zah (.s _) zak))) (by simp only [argF]; rfl) ?_
 refine zag (zab (zac rfl (zac rfl (zad (zag (zab (zac rfl (zaf rfl rfl (zaa rfl) (does_bits rfl (.inl rfl) rfl rfl h1) (zac rfl (zad (zag (zab (zac rfl (zaf rfl rfl (zaa rfl) (does_shift rfl rfl rfl xf (.inl ⟨rfl, h2⟩)) (zac rfl (zad (zag (zab (zac rfl (zaf rfl rfl (zaa rfl) (does_bits rfl (.inl rfl) rfl rfl h3) (zac rfl (zad (zag (zab (zac rfl (zaf rfl rfl (zaa rfl) (does_shift rfl rfl rfl xf (.inl ⟨rfl, h4⟩)) (zac rfl (zad (zag ?_)))))))))))))))))))))))))))))
 refine zab (zac rfl (zac rfl (zaf rfl rfl (zaa rfl) (does_mul rfl rfl rfl h5) (zac rfl (zad (zag (zab (zac rfl (zac rfl (zaf rfl rfl (zaa rfl) (does_mul rfl rfl rfl h6) (zac rfl (zaf rfl rfl (zaa rfl) (does_shift rfl rfl rfl xf (.inl ⟨rfl, h4⟩)) (zaf rfl rfl (zaa rfl) (zax rfl rfl rfl h7) (zac rfl (zad (zag (zab (zac rfl (zaf rfl rfl (zaa rfl) (does_bits rfl (.inl rfl) rfl rfl h8) (zac rfl (zad (zag (zab (zac rfl (zaf rfl rfl (zaa rfl) (does_shift rfl rfl rfl xf (.inl ⟨rfl, h9⟩)) ?_)))))))))))))))))))))))))
 refine zac rfl (zad (zag (zab (zac rfl (zac rfl (zac rfl (zaf rfl rfl (zaa rfl) (does_mul rfl rfl rfl h10) (zaf rfl rfl (zaa rfl) (zax rfl rfl rfl h7) (zac rfl (zad (zag (zab (zac rfl (zac rfl (zaf rfl rfl (zaa rfl) (does_mul rfl rfl rfl h11) (zac rfl (zaf rfl rfl (zaa rfl) (zax rfl rfl rfl h7) (zac rfl (zaf rfl rfl (zaa rfl) (does_shift rfl rfl rfl xf (.inl ⟨rfl, h9⟩)) (zaf rfl rfl (zaa rfl) (zax rfl rfl rfl h7) (zac rfl (zad (zag (zab (zac rfl ?_)))))))))))))))))))))))))
 refine zac rfl (zaf rfl rfl (zaa rfl) (does_mul rfl rfl rfl h5) (zac rfl (zad (zai ?_))))
 (refine za7 ?_; repeat (first | refine zbc ?_ | refine zbe ?_))
 exact post2 (.inr rfl) rfl rfl (.refl _) (.refl _)
theorem mul_pf (n : Nat) (h : n < 26) : Pure P 60 [eW 1, eW n] (.tup [eW 0, eW n]) := by
 have hm := mul64_pf (P := P) n h
 refine zcl (by rw [IsP.eq (P := P)]; exact Tryz.func60) rfl rfl rfl rfl rfl (zah (.s _) (zah (.s _) zak)) (.tup _ (zah (.s _) (zah (.s _) zak))) (by simp only [argF]; rfl) ?_
 refine zag (zab (zac rfl (zac rfl (zad (zag (zau rfl (zar (zag (zab (zac rfl (zac rfl (zaf rfl rfl (zaa rfl) (zam rfl rfl (hm) (zae rfl (zae rfl zap))) (zac rfl (zac rfl (zac rfl (zac rfl (zac rfl (zad (zag (zab (zac rfl (zac rfl (zac rfl (zac rfl (zad (zai ?_))))))))))))))))))))))))))
 (refine za7 ?_; repeat (first | refine zbc ?_ | refine zbe ?_))
 exact post2 (.inr rfl) rfl rfl (.refl _) (.refl _)
def repR (a : Fr) (n m : Nat) : List AV := List.replicate m (eF a) ++ List.replicate (n - m) (eF ⟨0, 0⟩)
theorem repR_len {a : Fr} {n m : Nat} (h : m ≤ n) : (repR a n m).length = n := by simp [repR]; omega
theorem repR_step {a : Fr} {n m : Nat} (h : m ≤ n) : laid (repR a n m) m (((repR a n m).take m).take (n - m)) = repR a n (m + min m (n - m)) := by
 have e1 : (repR a n m).take m = List.replicate m (eF a) := by unfold repR; rw [List.take_append_of_le_length xo, List.take_of_length_le xo]
 unfold laid
 rw [e1, List.take_replicate]
 have e2 : (repR a n m).drop (m + (List.replicate (min (n - m) m) (eF a)).length) = List.replicate (n - (m + min m (n - m))) (eF ⟨0, 0⟩) := by
  unfold repR
  rw [List.length_replicate, List.drop_append, List.length_replicate, List.drop_of_length_le xo, List.nil_append, List.drop_replicate]
  congr 1; omega
 rw [e2, List.replicate_append_replicate]
 unfold repR
 congr 2; omega
theorem lo_repR (a : Fr) (n m : Nat) : ∀ e ∈ repR a n m, ∀ c ∈ e.cells, Lo 0 c := fun e he => by
 unfold repR at he
 rcases List.mem_append.1 he with he | he
 ·
  rw [List.eq_of_mem_replicate he]; exact (lo_F _).cells
 ·
  rw [List.eq_of_mem_replicate he]; exact (lo_F _).cells
namespace K1
set_option maxHeartbeats 2000000 in
theorem repF_call (a : Fr) (n : Nat) (h : 1 ≤ n ∧ n ≤ 25) : CallE P 45 [eL eF [a], eI n] [] (.own 0 2 n) [.row 2 (List.replicate n (eF a))] := by
 have hm := mul_pf (P := P) n xd
 have hl1 : IntKind.u64.wrap ((([a] : List Fr).length : Nat) : Int) = 1 := by show IntKind.u64.wrap 1 = 1; decide
 have hmin : (List.map eF [a]).length.min n = 1 := by show min 1 n = 1; omega
 refine callE_fn1 xo (by rw [IsP.eq (P := P)]; exact Tryz.func45) rfl rfl (Nat.le_of_ble_eq_true rfl) rfl ?_
 simp only [argF]
 refine kw_seq (kw_region (kops_s rfl (kops_nil (kw_seq (kw_seq (kw_region (kops_s rfl (kops_op rfl rfl (zaa rfl) (dec_f xd (za2 rfl rfl rfl)) (kops_nil (zai (kw_false rfl (kw_skip (kw_seq (kw_region (kops_s rfl (kops_op rfl rfl (zaa rfl) (zao rfl ts30 rfl) (kops_op rfl rfl (zaa rfl) (does_conv rfl tu3 tk106 rfl hl1) (kops_s rfl (kops_op rfl rfl (zaa rfl) (does_conv rfl tu3 tk106 rfl (IntWalk.u64_in _ xd)) (kops_op rfl rfl (zaa rfl) (zam rfl rfl (hm) (zae rfl (zae rfl zap))) (kops_s rfl (kops_s rfl ?_))))))))))))))))))))))
 refine kops_s rfl (kops_s rfl (kops_s rfl (kops_nil (kw_seq (kw_seq (kw_region (kops_s rfl (kops_op rfl rfl (zaa rfl) (dec_f xf (zb0 rfl rfl rfl)) (kops_s rfl (kops_s rfl (kops_op rfl rfl (zat rfl rfl rfl) (dec_f xd (zb0 rfl rfl rfl)) (kops_s rfl (kops_nil (zai (kw_false rfl (kw_skip (kw_seq (kw_region (kops_s rfl (kops_op rfl rfl (zaa rfl) (does_conv rfl tu106 tk3 rfl (IntWalk.i64_in _ xd)) (kops_op rfl rfl (zaa rfl) (does_make rfl ts30 ti45 rfl rfl xf rfl rfl rfl rfl xd xd xd) (kops_s rfl ?_))))))))))))))))))))))
 refine kops_nil (kw_seq (kw_region (kops_s rfl (kops_s rfl ?_))))
 refine kops_op rfl rfl (zaa rfl) (does_copy (k := 0) (n := n) rfl ts30 ti45 xf rfl (.own rfl) rfl xo rfl (.sl _ (by intro e he; simp at he; subst he; rfl))) ?_
 refine kops_s rfl (kops_nil (kw_seq (kw_block ?_)))
 rw [hmin]
 have hst : laid (List.replicate n (eF ⟨0, 0⟩)) 0 ([eF a].take n) = repR a n 1 := by
  obtain ⟨k, rfl⟩ : ∃ k, n = k + 1 := ⟨n - 1, by omega⟩
  simp [laid, repR, List.replicate_succ]
 refine kw_loops (S := Nat) (fun m => [(7, .own 0 2 n), (8, eI m)]) (fun m => [.row 2 (repR a n m)]) (fun m => 1 ≤ m ∧ m ≤ n) (fun m => n - m) 1
  (kwk_st [0] rfl xf ⟨⟨_, rfl, .rowE (lo_repR _ _ _) hst⟩, trivial⟩ ⟨.own 0 0 2 _ _ rfl rfl, .lo _ (.s _), trivial⟩) ⟨by omega, by omega⟩ (fun m hm => ?_)
 have hrl := repR_len (a := a) hm.2
 have hst2 := repR_step (a := a) hm.2
 refine kw_seq (kw_seq (kw_region (kops_s rfl (kops_s rfl (kops_op rfl rfl (zaa rfl) (zc7 rfl ts30 rfl) ?_)))))
 refine kops_opP rfl rfl (zaa rfl) (za2 rfl rfl rfl) (fun h37 => ?_) (fun h37 => ?_)
 all_goals refine kops_nil (zai ?_)
 all_goals (first | refine kw_true rfl ?_ | refine kw_false rfl ?_)
 all_goals (repeat (first | refine zai ?_ | refine kw_skip ?_ | refine kw_block ?_))
 ·
  have hmin2 : ((repR a n m).take m).length.min (n - m) = min m (n - m) := by
   rw [List.length_take, hrl, Nat.min_eq_left hm.2]
  have hw : IntKind.i64.wrap ((m : Int) + ((((repR a n m).take m).length.min (n - m) : Nat) : Int)) = ((m + min m (n - m) : Nat) : Int) := by
   rw [hmin2, IntWalk.i64_in _ xd]; rfl
  refine kw_draw hmix ?_
  refine kdraw_ex ?_
  refine ex_s rfl (ex_s rfl (ex_s rfl (zay rfl rfl (zaa rfl) (fun _ => (does_slice_ol rfl ts30 ti45 rfl rfl xd rfl rfl xd)) (ex_s rfl (ex_s rfl (zay rfl rfl (zaa rfl) (fun _ => (does_slice_own rfl ts30 ti45 rfl rfl rfl xd)) ?_))))))
  refine zc9 (W := [0]) rfl rfl (zaa rfl) (does_copy (k := m) (n := n - m) rfl ts30 ti45 xf rfl .sub rfl (by rw [hrl]; omega) rfl (.pre 0 _ _ rfl rfl m (by rw [hrl]; omega))) (fun _ h => zbw h) ?_
  refine zay rfl rfl (zaa rfl) (fun _ => (zax rfl rfl rfl hw)) (ex_s rfl ?_)
  refine zcf xi ?_
  refine zbl (zai ?_)
  exact ⟨m + min m (n - m), ⟨by omega, by omega⟩, by omega, kwk_st [0] rfl xf ⟨⟨_, rfl, .rowE (lo_repR _ _ _) hst2⟩, trivial⟩ ⟨.own 0 0 2 _ _ rfl rfl, .lo _ (.s _), trivial⟩⟩
 ·
  have ei : m = n := by omega
  subst ei
  (refine kw_exit ?_; repeat (first | refine zcr ?_ | refine zbt ?_ | refine zbk rfl ?_ | refine zbl ?_ | refine zai ?_ | refine kw_seq ?_ | refine kw_skip ?_ | refine kw_block ?_))
  refine kw_region (kops_s rfl (kops_s rfl (kops_nil (zai ?_))))
  (refine kw_ret ?_; repeat (first | refine zbc ?_ | refine zbe ?_))
  exact ⟨.inr rfl, rfl, by simp [repR]⟩
end K1
end Go.Proofs.YtllkbjcemecmjaaGreat.Aw
end
section
namespace Go.Proofs.YtllkbjcemecmjaaGreat.Aw
open Go.RowKit Go.Proofs
variable {P : Program} [IsP P]
def colL (p : LP) (j : Nat) : List Fr := p.a.map fun r => gti r j
theorem colL_len (p : LP) (j : Nat) : (colL p j).length = p.a.length := by simp [colL]
theorem stake_snoc {α : Type} [Inhabited α] {l : List α} {k : Nat} (h : k < l.length) : l.take (k + 1) = l.take k ++ [gti l k] := by
 rw [List.take_add_one, zdh h]; rfl
theorem colL_gti {p : LP} {j k : Nat} (h : k < p.a.length) : gti (colL p j) k = gti (gti p.a k) j := by
 have h1 : (colL p j)[k]? = some (gti (gti p.a k) j) := by
  unfold colL
  rw [List.getElem?_map, zdh h]; rfl
 unfold gti at *
 rw [h1]; rfl
set_option maxHeartbeats 1000000 in
theorem column_pf (p : LP) (j : Nat) (hj : ∀ i, i < p.a.length → j < (gti p.a i).length) (hm : p.a.length ≤ 12) : Pure P 107 [eP p, eI j] (eL eF (colL p j)) := by
 refine zcl (by rw [IsP.eq (P := P)]; exact Tryz.func107) rfl rfl rfl rfl rfl xa xa (by simp only [argF]; rfl) ?_
 refine zag (zab (zaf rfl rfl (zaa rfl) (zb3 rfl rfl rfl rfl) ?_))
 refine za6 (zbm (id := 0) rfl) (za6 (zcb (d := 2) rfl rfl rfl) ?_)
 refine zac rfl (zad (zag (zab (zac rfl (zad (zag (zag (zab (zbz tf88_1 rfl (zbu ta86 rfl (zaf rfl rfl (zaa rfl) (zao rfl ts86 rfl) (zac rfl (zad (zai (zas ?_)))))))))))))))
 refine zbg (wk_own (d := 5) 2 rfl (.inr rfl)) ?_
 refine zb1 (S := Nat) (fun k => [(1, eI j), (9, eL (eL eF) p.a), (10, eI p.a.length), (11, eI k), (5, .own 0 2 k)]) (fun k => [.row 2 (((colL p j).take k).map eF)]) (fun k => k ≤ p.a.length) (fun k => p.a.length - k) 0 (zb8 [1] xf ⟨⟨_, rfl, .rowE (zaz) rfl⟩, trivial⟩ ⟨.lo _ (.s _), .lo _ xa, .lo _ (.s _), .lo _ (.s _), .own 1 0 2 _ _ rfl rfl, trivial⟩) (Nat.zero_le _) (fun k hk => ?_)
 have hcl := colL_len p j
 refine zag (zab ?_)
 refine za3 rfl rfl (zaa rfl) (za2 rfl rfl rfl) (fun h12 => ?_) (fun h12 => ?_)
 all_goals refine zad (zag ?_)
 all_goals (first | refine za5 rfl ?_ | refine zau rfl ?_)
 all_goals (repeat (first | refine zag ?_ | refine zar ?_ | refine zas ?_))
 ·
  have hlt : k < p.a.length := by omega
  have hjl := hj k hlt
  have htk : (((colL p j).take k).map eF).length = k := by simp; omega
  have hrow : ((colL p j).take (k + 1)).map eF = ((colL p j).take k).map eF ++ [eF (gti (gti p.a k) j)] := by
   rw [stake_snoc xd, List.map_append, colL_gti hlt]; rfl
  refine zab (zaf rfl rfl (zaa rfl) (zal rfl ts86 ti30 rfl rfl rfl (zbb xd) rfl) (zbu ta30 rfl (zac rfl (zad (zai (zab (zac rfl (zac rfl (zac rfl (zaf rfl rfl (zaa rfl) (zal rfl ts30 ti45 rfl rfl rfl (zbb xd) rfl) (zcx ta45 ti45 rfl (zaf rfl rfl (zaa rfl) (zco rfl ts30 ti45 rfl rfl xf xf rfl rfl rfl (.agg _ (zah (.s _) (zah (.s _) zak)))) ?_))))))))))))
  refine zaf rfl rfl (zaa rfl) (zbq rfl ts30 ti45 rfl xf rfl rfl xk rfl xe xg xg) ?_
  refine zac rfl (zad (zbl (zai (zab (zaf rfl rfl (zaa rfl) (zax rfl rfl rfl (IntWalk.i64_in _ xd)) (zac rfl (zad (zai ?_))))))))
  exact ⟨k + 1, by omega, by omega, zb8 [1] xf ⟨⟨_, rfl, .rowE xb (Eq.trans (b := ((colL p j).take k).map eF ++ [eF (gti (gti p.a k) j)]) rfl hrow.symm)⟩, trivial⟩ ⟨.lo _ (.s _), .lo _ xa, .lo _ (.s _), .lo _ (.s _), .own 1 0 2 _ _ rfl (by simp; omega), trivial⟩⟩
 ·
  (refine zb9 ?_; repeat (first | refine zcr ?_ | refine zbt ?_ | refine zbk rfl ?_ | refine zbl ?_ | refine zai ?_ | refine zag ?_ | refine zar ?_ | refine zas ?_))
  refine zab (zac rfl (zac rfl (zad (zai ?_))))
  (refine za7 ?_; repeat (first | refine zbc ?_ | refine zbe ?_))
  have e : (colL p j).take k = colL p j := List.take_of_length_le xd
  refine post1f (.inr rfl) rfl ?_
  rw [e]
  exact .own _ _ _ _ _ rfl rfl (by simp; omega)
theorem post_c {N : Nat} {F : Frm} {σ : List Ob} {ad : Nat} {ty : TypeId} {id sz k n bt : Nat} {z : Option Value} {ob : Ob} {cs : List AV} {e1 r : AV} {e : Exit} (he : e = .normal ∨ e = .ret) (ha : zc8 P ty = some true) (hi : zb5 P ty = some (z, n, bt)) (hp : F.get ad = .ptr id sz k 0) (hs : σ[id]? = some ob) (ho : rowOf ob = some (sz, cs)) (hk : cs[k]? = some e1) (hn : e1.cells.length = n) (hr : AV.agg e1.cells = r) : APost P [.cell ad ty] r e F σ :=
 ⟨he, [.agg e1.cells], .cons _ _ _ _ (.cells ad ty id sz k n bt z ob cs e1 ha hi hp hs ho hk hn) .nil, hr ▸ .refl _⟩
theorem swhole_pf (n : Int) : Pure P 88 [eI n] (eF (Fr.of n)) := by
 refine zcl (by rw [IsP.eq (P := P)]; exact Tryz.func88) rfl rfl rfl rfl rfl (zah (.s _) zak) (.agg _ (zah (.s _) (zah (.s _) zak))) (by simp only [argF]; rfl) ?_
 refine zag (zab (zaf rfl rfl (zaa rfl) (za1 rfl ti45 rfl rfl) (zad (zag (zab (zac rfl (zaf rfl rfl (zaa rfl) (za9 rfl ti45 tp45 rfl rfl) (zba rfl (zaa rfl) (zaj rfl ti45 rfl rfl rfl rfl rfl rfl xf xf) (zad (zai ?_))))))))))
 (refine za7 ?_; repeat (first | refine zbc ?_ | refine zbe ?_))
 exact post_c (N := 0) (.inr rfl) ta45 ti45 rfl rfl rfl rfl rfl rfl
def zbf (n : Nat) : List Fr := List.replicate n (Fr.of 0)
namespace K1
theorem zeros_call (n : Nat) (h : 1 ≤ n ∧ n ≤ 25) : CallE P 87 [eI n] [] (.own 0 2 n) [.row 2 (List.replicate n (eF (Fr.of 0)))] := by
 have hr := repF_call (P := P) (Fr.of 0) n h
 refine callE_fn1 xo (by rw [IsP.eq (P := P)]; exact Tryz.func87) rfl rfl (Nat.le_of_ble_eq_true rfl) rfl ?_
 simp only [argF]
 refine kw_seq (kw_region (kops_s rfl (kops_nil (kw_seq (kw_region (kops_op rfl rfl (zaa rfl) (zam rfl rfl ((swhole_pf 0)) (zae rfl zap)) (kops_op rfl rfl (zaa rfl) (zco rfl ts30 ti45 rfl rfl xf xf rfl rfl rfl (.agg _ (zah (.s _) (zah (.s _) zak)))) (kops_s rfl (kops_op rfl rfl (zaa rfl) (zbs rfl rfl hr (zae rfl (zae rfl zap))) (kops_s rfl (kops_nil (zai ?_))))))))))))
 (refine kw_ret ?_; repeat (first | refine zbc ?_ | refine zbe ?_))
 exact ⟨.inr rfl, rfl, rfl⟩
end K1
theorem repO {f : FuncId} {args : List AV} {a : Fr} {n : Nat} (h : CallE P f args [] (.own 0 2 n) [.row 2 (List.replicate n (eF a))]) (hn : 1 ≤ n) (hlo : ∀ a ∈ args, Lo 0 a) : PureO P f args 2 ((List.replicate n a).map eF) := by
 rw [List.map_replicate]
 refine pureO_of h rfl xo xd (fun e he c hc => ?_) hlo
 rw [List.eq_of_mem_replicate he] at hc
 simp only [eF, AV.cells, List.mem_cons, List.mem_nil_iff, or_false] at hc
 rcases hc with rfl | rfl <;> exact ⟨_, rfl⟩
theorem zeros_po (n : Nat) (h : 1 ≤ n ∧ n ≤ 25) : PureO P 87 [eI n] 2 ((zbf n).map eF) :=
 repO (K1.zeros_call n h) h.1 (zah (.s _) zak)
theorem zeros_pf (n : Nat) (h : 1 ≤ n ∧ n ≤ 12) : Pure P 87 [eI n] (eL eF (zbf n)) := by
 have hr := repO (K1.repF_call (P := P) (Fr.of 0) n ⟨h.1, by omega⟩) h.1 (zah (.sl _ (zah (lo_F _) zak)) (zah (.s _) zak))
 have hlz : Lo 0 (eL eF (zbf n)) := zan lo_F
 refine zcl (by rw [IsP.eq (P := P)]; exact Tryz.func87) rfl rfl rfl rfl rfl (zah (.s _) zak) xa (by simp only [argF]; rfl) ?_
 refine zag (zab (zac rfl (zad (zag (zab (zaf rfl rfl (zaa rfl) (zam rfl rfl ((swhole_pf 0)) (zae rfl zap)) (zaf rfl rfl (zaa rfl) (zco rfl ts30 ti45 rfl rfl xf xf rfl rfl rfl (.agg _ (zah (.s _) (zah (.s _) zak)))) (zac rfl (zaf rfl rfl (zaa rfl) (does_callO rfl rfl (hr) (zae rfl (zae rfl zap))) (zac rfl (zad (zai ?_))))))))))))
 refine zbg (zbm (id := 0) rfl) (zbg (wk_sl (d := 2) rfl rfl rfl) ?_)
 (refine za7 ?_; repeat (first | refine zbc ?_ | refine zbe ?_))
 exact zb6 (.inr rfl) rfl rfl
end Go.Proofs.YtllkbjcemecmjaaGreat.Aw
end
section
namespace Go.Proofs.YtllkbjcemecmjaaGreat.Aw
open Go.RowKit Go.Proofs
variable {P : Program} [IsP P]
def metF (p : LP) (x b : List Fr) : Nat → Nat → Bool × Int
 | 0, _ => (true, 0)
 | n + 1, k => if (dotE (gti p.a k) x).e ≠ 0 then (false, (dotE (gti p.a k) x).e) else if relC (cmpE ⟨(dotE (gti p.a k) x).n, (dotE (gti p.a k) x).d⟩ (gti b k)).1 (gti p.rel k) = true then metF p x b n (k + 1) else (false, 0)
def metR (p : LP) (x b : List Fr) : Bool × Int := metF p x b p.a.length 0
def metE (p : LP) (x b : List Fr) : Bool × Int := if x.any negB = true then (false, 0) else metR p x b
def seBI (r : Bool × Int) : AV := .tup [eB r.1, eI r.2]
theorem spost_bi {N : Nat} {F : Frm} {σ : List Ob} {t u : Nat} {r : Bool × Int} {b : Bool} {n : Int} {e : Exit} (he : e = .normal ∨ e = .ret) (h : F.get t = eB b) (h' : F.get u = eI n) (hr : r = (b, n)) : APost P [.tmp t, .tmp u] (seBI r) e F σ := by
 subst hr
 exact post2 he h h' (.refl _) (.refl _)
set_option maxHeartbeats 1000000 in
theorem met_pf (p : LP) (x b : List Fr) (h1 : p.rel.length = p.a.length) (h2 : b.length = p.a.length) (h3 : p.a.length ≤ 12) : Pure P 99 [eP p, eL eF x, eL eF b] (seBI (metE p x b)) := by
 have hb := below_pf (P := P) x
 refine zcl (by rw [IsP.eq (P := P)]; exact Tryz.func99) rfl rfl rfl rfl rfl xa (.tup _ (zah (.s _) (zah (.s _) zak))) (by simp only [argF]; rfl) ?_
 refine zag (zab (zaf rfl rfl (zaa rfl) (zb3 rfl rfl rfl rfl) ?_))
 refine za6 (zbm (id := 0) rfl) (za6 (zcb (d := 3) rfl rfl rfl) ?_)
 refine zac rfl (zac rfl (zad (zag (zag (zab (zac rfl (zaf rfl rfl (zaa rfl) (zam rfl rfl (hb) (zae rfl zap)) (zad (zai ?_)))))))))
 refine aw_cond rfl (fun h => ?_) (fun h => ?_)
 ·
  refine zag (zab (zac rfl (zac rfl (zad (zai ?_)))))
  (refine za7 ?_; repeat (first | refine zbc ?_ | refine zbe ?_))
  exact spost_bi (N := 0) (.inr rfl) rfl rfl (by unfold metE; rw [if_pos h])
 ·
  have HI : metE p x b = metF p x b p.a.length 0 := by unfold metE; rw [if_neg (by rw [h]; simp)]; rfl
  refine zar (zag (zag (zab (zbz tf88_1 rfl (zbu ta86 rfl (zaf rfl rfl (zaa rfl) (zao rfl ts86 rfl) (zac rfl (zad (zai (zas ?_))))))))))
  refine zb1 (S := Nat) (fun k => [(1, eL eF x), (2, eL eF b), (3, .ref (eP p).cells), (15, eL (eL eF) p.a), (16, eI p.a.length), (17, eI k)]) (fun _ => []) (fun k => k ≤ p.a.length ∧ metE p x b = metF p x b (p.a.length - k) k) (fun k => p.a.length - k) 0 (zb8 [] xf trivial ⟨.lo _ xa, .lo _ xa, .lo _ xc, .lo _ xa, .lo _ (.s _), .lo _ (.s _), trivial⟩) ⟨by omega, HI⟩ (fun k hk => ?_)
  obtain ⟨hk, HI⟩ := hk
  refine zag (zab ?_)
  refine za3 rfl rfl (zaa rfl) (za2 rfl rfl rfl) (fun h18 => ?_) (fun h18 => ?_)
  all_goals refine zad (zag ?_)
  all_goals (first | refine za5 rfl ?_ | refine zau rfl ?_)
  all_goals (repeat (first | refine zag ?_ | refine zar ?_ | refine zas ?_))
  ·
   have hlt : k < p.a.length := by omega
   rw [show p.a.length - k = (p.a.length - (k + 1)) + 1 by omega, metF] at HI
   have hd := fDot_pf (P := P) (gti p.a k) x
   generalize hdd : dotE (gti p.a k) x = d at *
   have hs := stands_pf (P := P) ⟨d.n, d.d⟩ (gti p.rel k) (gti b k)
   refine zab (zac rfl (zaf rfl rfl (zaa rfl) (zal rfl ts86 ti30 rfl rfl rfl (zbb xd) rfl) (zbu ta30 rfl (zac rfl (zac rfl (zad (zag (zab (zac rfl (zac rfl (zaf rfl rfl (zaa rfl) (zam rfl rfl (hd) (zae rfl (zae rfl zap))) (zac rfl (zac rfl (zac rfl (zaf rfl rfl (zaa rfl) (za1 rfl ti45 rfl rfl) (zba rfl (zaa rfl) (zaj rfl ti45 rfl rfl rfl rfl rfl rfl xf xf) (zac rfl (zad (zag (zag (zab (zac rfl ?_))))))))))))))))))))))
   refine za3 rfl rfl (zaa rfl) (zbp rfl rfl rfl) (fun h29 => ?_) (fun h29 => ?_)
   all_goals refine zad (zai ?_)
   all_goals (first | refine za5 rfl ?_ | refine zau rfl ?_)
   all_goals (repeat (first | refine zag ?_ | refine zar ?_))
   ·
    rw [if_pos xd] at HI
    refine zab (zac rfl (zac rfl (zac rfl (zad (zai ?_)))))
    (refine za7 ?_; repeat (first | refine zbc ?_ | refine zbe ?_))
    exact spost_bi (N := 0) (.inr rfl) rfl rfl HI
   ·
    rw [if_neg xd] at HI
    refine zb2 hmix ?_
    refine zbx xi ?_
    refine zby rfl rfl (zaa rfl) (za8 rfl ta45 ti45 rfl rfl rfl rfl rfl) (qx_f tf88_2 rfl (qx_l ta22 rfl (qx_s rfl (zby rfl rfl (zaa rfl) (zal rfl ts22 ti3 rfl rfl rfl (zbb xd) rfl) (qx_l ta3 rfl (qx_s rfl (qx_s rfl (zby rfl rfl (zaa rfl) (zal rfl ts30 ti45 rfl rfl rfl (zbb xd) rfl) (qx_w ta45 ti45 rfl ?_)))))))))
    refine qx_opB rfl rfl (zaa rfl) (zam rfl rfl (hs) (zae rfl (zae rfl (zae rfl zap)))) (fun h41 => ?_) (fun h41 => ?_)
    all_goals refine zby rfl rfl (zaa rfl) (zbj rfl rfl) ?_
    all_goals refine zdg ?_
    all_goals refine zai ?_
    all_goals (first | refine za5 rfl ?_ | refine zau rfl ?_)
    all_goals (repeat (first | refine zag ?_ | refine zai ?_ | refine zar ?_ | refine zbl ?_))
    all_goals first
     |
      refine zab (zac rfl (zac rfl (zad (zai ?_))))
      (refine za7 ?_; repeat (first | refine zbc ?_ | refine zbe ?_))
      exact spost_bi (N := 0) (.inr rfl) rfl rfl (by rw [HI, if_neg (by rw [h41]; simp)])
     |
      refine zab (zaf rfl rfl (zaa rfl) (zax rfl rfl rfl (IntWalk.i64_in _ xd)) (zac rfl (zad (zai ?_))))
      rw [if_pos h41] at HI
      exact ⟨k + 1, ⟨by omega, HI⟩, by omega, zb8 [] xf trivial ⟨.lo _ xa, .lo _ xa, .lo _ xc, .lo _ xa, .lo _ (.s _), .lo _ (.s _), trivial⟩⟩
  ·
   rw [show p.a.length - k = 0 by omega] at HI
   (refine zb9 ?_; repeat (first | refine zcr ?_ | refine zbt ?_ | refine zbk rfl ?_ | refine zbl ?_ | refine zai ?_ | refine zag ?_ | refine zar ?_ | refine zas ?_))
   refine zab (zac rfl (zac rfl (zad (zai ?_))))
   (refine za7 ?_; repeat (first | refine zbc ?_ | refine zbe ?_))
   exact spost_bi (N := 0) (.inr rfl) rfl rfl HI
theorem validP_iff {p : LP} (h : validP p = true) : (1 ≤ p.c.length ∧ p.c.length ≤ 12 ∧ 1 ≤ p.a.length ∧ p.a.length ≤ 12 ∧ p.rel.length = p.a.length ∧ p.c.all Fr.okB = true ∧ p.b.length = p.a.length ∧ p.b.all Fr.okB = true) ∧ ∀ k, k < p.a.length → (gti p.a k).length = p.c.length ∧ (gti p.a k).all Fr.okB = true ∧ relB (gti p.rel k) = true := by
 unfold validP at h
 rw [Bool.and_eq_true, headB_iff] at h
 refine ⟨h.1, fun k hk => ?_⟩
 have h1 := List.all_eq_true.1 h.2 k (by simpa using hk)
 unfold rowB at h1
 rw [Bool.and_eq_true, fineB_iff] at h1
 exact ⟨by omega, h1.1.2, h1.2⟩
def rhs (p : LP) (z : Bool) : List Fr := if z = true then zbf p.a.length else p.b
end Go.Proofs.YtllkbjcemecmjaaGreat.Aw
end
section
namespace Go.Proofs.YtllkbjcemecmjaaGreat.Aw
open Go.RowKit Go.Proofs
variable {P : Program} [IsP P]
def undF (p : LP) (y most : List Fr) : Nat → Nat → Bool × Int
 | 0, _ => (true, 0)
 | n + 1, k => if (dotE (colL p k) y).e ≠ 0 then (false, (dotE (colL p k) y).e) else if relC (cmpE ⟨(dotE (colL p k) y).n, (dotE (colL p k) y).d⟩ (gti most k)).1 1 = true then undF p y most n (k + 1) else (false, 0)
def undR (p : LP) (y most : List Fr) : Bool × Int := undF p y most p.c.length 0
theorem undF_t (p : LP) (y most : List Fr) : ∀ n k, (undF p y most n k).1 = true → (undF p y most n k).2 = 0
 | 0, _, _ => rfl
 | n + 1, k, h => by
  rw [undF] at h ⊢
  split at h
  ·
   cases h
  ·
   rename_i h1
   rw [if_neg h1]
   split at h
   ·
    rename_i h2
    rw [if_pos h2]
    exact undF_t p y most n (k + 1) h
   ·
    cases h
theorem undR_t {p : LP} {y most : List Fr} (h : (undR p y most).1 = true) : (undR p y most).2 = 0 := undF_t p y most _ _ h
theorem valid_col {p : LP} (hv : validP p = true) {k : Nat} (hk : k < p.c.length) : ∀ i, i < p.a.length → k < (gti p.a i).length := by
 obtain ⟨_, qr⟩ := validP_iff hv
 intro i hi
 rw [(qr i hi).1]; exact hk
set_option maxHeartbeats 1000000 in
theorem under_pf (p : LP) (y most : List Fr) (hv : validP p = true) (hm : most.length = p.c.length) : Pure P 98 [eP p, eL eF y, eL eF most] (seBI (undR p y most)) := by
 obtain ⟨⟨q1, q2, q3, q4, q5, q6, q7, q8⟩, qr⟩ := validP_iff hv
 have HI : undR p y most = undF p y most p.c.length 0 := rfl
 generalize undR p y most = R at HI ⊢
 refine zcl (by rw [IsP.eq (P := P)]; exact Tryz.func98) rfl rfl rfl rfl rfl xa (.tup _ (zah (.s _) (zah (.s _) zak))) (by simp only [argF]; rfl) ?_
 refine zag (zab (zaf rfl rfl (zaa rfl) (zb3 rfl rfl rfl rfl) ?_))
 refine za6 (zbm (id := 0) rfl) (za6 (zcb (d := 3) rfl rfl rfl) ?_)
 refine zac rfl (zac rfl (zad (zag (zag (zab (zbz tf88_0 rfl (zbu ta30 rfl (zaf rfl rfl (zaa rfl) (zao rfl ts30 rfl) (zac rfl (zad (zai (zas ?_))))))))))))
 refine zb1 (S := Nat) (fun k => [(1, eL eF y), (2, eL eF most), (3, .ref (eP p).cells), (13, eI p.c.length), (14, eI k)]) (fun _ => []) (fun k => k ≤ p.c.length ∧ R = undF p y most (p.c.length - k) k) (fun k => p.c.length - k) 0 (zb8 [] xf trivial ⟨.lo _ xa, .lo _ xa, .lo _ xc, .lo _ (.s _), .lo _ (.s _), trivial⟩) ⟨by omega, HI⟩ (fun k hk => ?_)
 obtain ⟨hk, HI⟩ := hk
 refine zag (zab ?_)
 refine za3 rfl rfl (zaa rfl) (za2 rfl rfl rfl) (fun h15 => ?_) (fun h15 => ?_)
 all_goals refine zad (zag ?_)
 all_goals (first | refine za5 rfl ?_ | refine zau rfl ?_)
 all_goals (repeat (first | refine zag ?_ | refine zar ?_ | refine zas ?_))
 ·
  have hlt : k < p.c.length := by omega
  have hlm : k < most.length := by omega
  rw [show p.c.length - k = (p.c.length - (k + 1)) + 1 by omega, undF] at HI
  have hcol := column_pf (P := P) p k (valid_col hv hlt) q4
  have hd := fDot_pf (P := P) (colL p k) y
  generalize hdd : dotE (colL p k) y = d at *
  have hs := stands_pf (P := P) ⟨d.n, d.d⟩ 1 (gti most k)
  generalize relC (cmpE ⟨d.n, d.d⟩ (gti most k)).1 1 = rr at HI hs
  refine zab (zac rfl (zac rfl (zad (zag (zab (zcx ta88 ti88 rfl (zac rfl (zaf rfl rfl (zaa rfl) (zam rfl rfl (hcol) (zae rfl (zae rfl zap))) (zac rfl (zaf rfl rfl (zaa rfl) (zam rfl rfl (hd) (zae rfl (zae rfl zap))) (zac rfl (zac rfl (zac rfl (zaf rfl rfl (zaa rfl) (za1 rfl ti45 rfl rfl) (zba rfl (zaa rfl) (zaj rfl ti45 rfl rfl rfl rfl rfl rfl xf xf) (zac rfl (zad (zag (zag (zab (zac rfl ?_)))))))))))))))))))))
  refine za3 rfl rfl (zaa rfl) (zbp rfl rfl rfl) (fun h26 => ?_) (fun h26 => ?_)
  all_goals refine zad (zai ?_)
  all_goals (first | refine za5 rfl ?_ | refine zau rfl ?_)
  all_goals (repeat (first | refine zag ?_ | refine zar ?_))
  ·
   rw [if_pos xd] at HI
   refine zab (zac rfl (zac rfl (zac rfl (zad (zai ?_)))))
   (refine za7 ?_; repeat (first | refine zbc ?_ | refine zbe ?_))
   exact spost_bi (N := 0) (.inr rfl) rfl rfl HI
  ·
   rw [if_neg xd] at HI
   refine zb2 hmix ?_
   refine zbx xi ?_
   refine zby rfl rfl (zaa rfl) (za8 rfl ta45 ti45 rfl rfl rfl rfl rfl) (qx_s rfl (qx_s rfl (zby rfl rfl (zaa rfl) (zal rfl ts30 ti45 rfl rfl rfl (zbb xd) rfl) (qx_w ta45 ti45 rfl ?_))))
   refine qx_opB rfl rfl (zaa rfl) (zam rfl rfl (hs) (zae rfl (zae rfl (zae rfl zap)))) (fun h33 => ?_) (fun h33 => ?_)
   all_goals refine zby rfl rfl (zaa rfl) (zbj rfl rfl) ?_
   all_goals refine zdg ?_
   all_goals refine zai ?_
   all_goals (first | refine za5 rfl ?_ | refine zau rfl ?_)
   all_goals (repeat (first | refine zag ?_ | refine zai ?_ | refine zar ?_ | refine zbl ?_))
   all_goals first
    |
     refine zab (zac rfl (zac rfl (zad (zai ?_))))
     (refine za7 ?_; repeat (first | refine zbc ?_ | refine zbe ?_))
     exact spost_bi (N := 0) (.inr rfl) rfl rfl (by rw [HI, if_neg (by rw [h33]; simp)])
    |
     refine zab (zaf rfl rfl (zaa rfl) (zax rfl rfl rfl (IntWalk.i64_in _ xd)) (zac rfl (zad (zai ?_))))
     rw [if_pos h33] at HI
     exact ⟨k + 1, ⟨by omega, HI⟩, by omega, zb8 [] xf trivial ⟨.lo _ xa, .lo _ xa, .lo _ xc, .lo _ (.s _), .lo _ (.s _), trivial⟩⟩
 ·
  rw [show p.c.length - k = 0 by omega] at HI
  (refine zb9 ?_; repeat (first | refine zcr ?_ | refine zbt ?_ | refine zbk rfl ?_ | refine zbl ?_ | refine zai ?_ | refine zag ?_ | refine zar ?_ | refine zas ?_))
  refine zab (zac rfl (zac rfl (zad (zai ?_))))
  (refine za7 ?_; repeat (first | refine zbc ?_ | refine zbe ?_))
  exact spost_bi (N := 0) (.inr rfl) rfl rfl HI
def wanted (p : LP) (z : Bool) : List Fr := if z = true then zbf p.c.length else p.c
end Go.Proofs.YtllkbjcemecmjaaGreat.Aw
end
section
namespace Go.Proofs.YtllkbjcemecmjaaGreat.Aw
open Go.RowKit Go.Proofs
variable {P : Program} [IsP P]
theorem validP_len {p : LP} (h : validP p = true) : p.rel.length = p.a.length ∧ p.b.length = p.a.length ∧ p.a.length ≤ 12 ∧ p.c.length ≤ 12 := by
 obtain ⟨⟨q1, q2, q3, q4, q5, q6, q7, q8⟩, qr⟩ := validP_iff h
 exact ⟨q5, q7, q4, q2⟩
def solB (p : LP) (x : List Fr) : Bool := fineB x p.c.length && ((metE p x p.b).1 && decide ((metE p x p.b).2 = 0))
theorem solution_pf (p : LP) (x : List Fr) (hv : validP p = true) : Pure P 96 [eP p, eL eF x] (eB (solB p x)) := by
 obtain ⟨q1, q2, q3, q4⟩ := validP_len hv
 have hm := met_pf (P := P) p x p.b q1 q2 q3
 unfold solB
 generalize metE p x p.b = r at hm ⊢
 obtain ⟨b, e⟩ := r
 refine zcl (by rw [IsP.eq (P := P)]; exact Tryz.func96) rfl rfl rfl rfl rfl xa (.s _) (by simp only [argF]; rfl) ?_
 refine zag (zab (zaf rfl rfl (zaa rfl) (zb3 rfl rfl rfl rfl) ?_))
 refine za6 (zbm (id := 0) rfl) (za6 (zcb (d := 2) rfl rfl rfl) ?_)
 refine zac rfl (zad (zag (zag (zab (zac rfl (zbz tf88_0 rfl (zbu ta30 rfl (zaf rfl rfl (zaa rfl) (zao rfl ts30 rfl) ?_))))))))
 refine zcn rfl rfl (zaa rfl) (zam rfl rfl (fine_pf _ _) (zae rfl (zae rfl zap))) (fun h11 => ?_) (fun h11 => ?_)
 all_goals refine zaf rfl rfl (zaa rfl) (zbj rfl rfl) (zad (zai ?_))
 all_goals (first | refine za5 rfl ?_ | refine zau rfl ?_)
 all_goals (repeat (first | refine zag ?_ | refine zar ?_))
 ·
  refine zab (zcx ta88 ti88 rfl (zac rfl (zbz tf88_3 rfl (zbu ta30 rfl (zaf rfl rfl (zaa rfl) (zam rfl rfl (hm) (zae rfl (zae rfl (zae rfl zap)))) (zac rfl (zac rfl (zac rfl (zac rfl (zac rfl (zad (zag ?_))))))))))))
  cases b
  all_goals all_goals refine zab ?_
  all_goals all_goals refine zaf rfl rfl (zaa rfl) (mv_s (.inl rfl) rfl) ?_
  all_goals all_goals refine zaf rfl rfl (zaa rfl) (mv_s (.inl rfl) rfl) ?_
  all_goals (all_goals (first | refine zaf rfl rfl (zat rfl rfl rfl) (mv_s (.inl rfl) rfl) ?_ | refine zcj rfl rfl (runs_nt rfl rfl rfl) ?_ | refine zcj rfl rfl (zbi rfl rfl rfl) ?_))
  all_goals (all_goals (first | refine za3 rfl rfl (zat rfl rfl rfl) (zbn rfl rfl rfl) (fun h24 => ?_) (fun h24 => ?_) | refine zcn rfl rfl (zat rfl rfl rfl) (zbn rfl rfl rfl) (fun h24 => ?_) (fun h24 => ?_) | refine zcj rfl rfl (runs_nt rfl rfl rfl) ?_ | refine zcj rfl rfl (zbi rfl rfl rfl) ?_))
  all_goals (all_goals (first | refine zaf rfl rfl (zaa rfl) (pickT_s rfl rfl rfl) ?_ | refine zaf rfl rfl (zaa rfl) (pickF_s rfl rfl rfl) ?_ | refine zaf rfl rfl (zaa rfl) (does_pickT rfl rfl rfl) ?_ | refine zaf rfl rfl (zaa rfl) (does_pickF rfl rfl rfl) ?_))
  all_goals all_goals refine zaf rfl rfl (zaa rfl) (mv_s (.inr rfl) rfl) ?_
  all_goals all_goals refine zad ?_
  all_goals (all_goals (repeat (first | refine zag ?_ | refine zai ?_ | refine zar ?_ | refine zbl ?_ | refine zas ?_)))
  all_goals refine za7 ?_
  all_goals (exact zb6 (.inr rfl) rfl (congrArg eB (by first | (simp [h11]; done) | (dsimp only at h24; simp [h11, h24]; done))))
 ·
  refine zab (zac rfl (zad (zai ?_)))
  (refine za7 ?_; repeat (first | refine zbc ?_ | refine zbe ?_))
  exact zb6 (.inr rfl) rfl (congrArg eB (by simp [h11]))
end Go.Proofs.YtllkbjcemecmjaaGreat.Aw
end
