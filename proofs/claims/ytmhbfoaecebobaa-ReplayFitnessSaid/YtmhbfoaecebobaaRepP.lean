/-
  Replays, plainly: the silent search, transitions that are taken, words that are played. Conditions: none.
-/
import Derived.Test.YtmhbfoaecebobaaFire2
import Derived.Test.YtmhbfoaecebobaaWf2
import Derived.Test.YtmhbfoaecebobaaKey2
import Derived.Test.YtmhbfoaecebobaaNamed
namespace Go.Proofs.Ytmhbfoaecebobaa
set_option linter.unusedSimpArgs false
set_option linter.unusedVariables false
open Go.RowKit

/-- something that was met: a number, a marking, the transitions that lead to it -/
structure Nd where
  k : Int
  m : List Int
  run : List Int
  deriving Inhabited
def silB (n : Net) (t : Nat) : Bool := (gti n.trans t).label.toList.isEmpty
def stepS (n : Net) (x : Nd) (q : List Nd) (t : Nat) : List Nd :=
  if silB n t = false ∨ q.length = 200 then q
  else if (FireE n x.m t).2 ≠ 0 ∨ (FireE n x.m t).1 ∈ q.map Nd.m then q
  else q ++ [⟨0, (FireE n x.m t).1, x.run ++ [(t : Int)]⟩]
def roundS (n : Net) (x : Nd) (q : List Nd) : Nat → List Nd
  | 0 => q
  | k + 1 => stepS n x (roundS n x q k) k
def srch (n : Net) (good : List Int → Bool) : Nat → Nat → List Nd → Option (List Int)
  | 0, _, _ => none
  | f + 1, i, q => if i < q.length then if good (gti q i).m then some (gti q i).run else srch n good f (i + 1) (roundS n (gti q i) q n.trans.length) else none
def silE (n : Net) (good : List Int → Bool) (m : List Int) : Option (List Int) := srch n good 201 0 [⟨0, m, []⟩]

def runTo (n : Net) : List Int → List Int → Option (List Int)
  | m, [] => some m
  | m, t :: l => if 0 ≤ t ∧ t < n.trans.length ∧ (FireE n m t).2 = 0 then runTo n (FireE n m t).1 l else none
theorem runTo_snoc {n : Net} : ∀ {l : List Int} {m m' : List Int} {t : Int}, runTo n m l = some m' → 0 ≤ t → t < n.trans.length → (FireE n m' t).2 = 0 → runTo n m (l ++ [t]) = some (FireE n m' t).1
  | [], m, m', t, h, h1, h2, h3 => by
    simp only [runTo, Option.some.injEq] at h
    subst h
    simp [runTo, h1, h2, h3]
  | a :: l, m, m', t, h, h1, h2, h3 => by
    rw [runTo] at h
    rw [List.cons_append, runTo]
    split at h
    · rename_i hc
      rw [if_pos hc]
      exact runTo_snoc h h1 h2 h3
    · cases h
/-- what holds of the list of those that were met -/
structure QI (n : Net) (m0 : List Int) (q : List Nd) : Prop where
  len : q.length ≤ 200
  at_ : ∀ i, i < q.length → markB n (gti q i).m = true ∧ (gti q i).run.length ≤ i ∧ runTo n m0 (gti q i).run = some (gti q i).m
theorem gti_app {α : Type} [Inhabited α] (a b : List α) (i : Nat) : gti (a ++ b) i = if i < a.length then gti a i else gti b (i - a.length) := by
  unfold gti
  split
  · rename_i h; rw [List.getElem?_append_left h]
  · rename_i h; rw [List.getElem?_append_right (by omega)]
theorem FireE_mark {n : Net} {m : List Int} {t : Int} (hm : markB n m = true) (h : (FireE n m t).2 = 0) : markB n (FireE n m t).1 = true := by
  unfold FireE at h ⊢
  rw [if_pos hm] at h ⊢
  exact fireE_mark hm h
theorem QI.init {n : Net} {m0 : List Int} (h : markB n m0 = true) : QI n m0 [⟨0, m0, []⟩] :=
  ⟨by simp, fun i hi => by
    obtain rfl : i = 0 := by simpa using hi
    exact ⟨h, by simp [gti], rfl⟩⟩
theorem stepS_pre (n : Net) (x : Nd) (q : List Nd) (t : Nat) : ∃ r, stepS n x q t = q ++ r := by
  unfold stepS
  split
  · exact ⟨[], by simp⟩
  · split
    · exact ⟨[], by simp⟩
    · exact ⟨_, rfl⟩
theorem roundS_pre (n : Net) (x : Nd) (q : List Nd) : ∀ k, ∃ r, roundS n x q k = q ++ r
  | 0 => ⟨[], by simp [roundS]⟩
  | k + 1 => by
    obtain ⟨r, hr⟩ := roundS_pre n x q k
    obtain ⟨r', hr'⟩ := stepS_pre n x (roundS n x q k) k
    exact ⟨r ++ r', by rw [roundS, hr', hr, List.append_assoc]⟩
theorem QI.step {n : Net} {m0 : List Int} {q : List Nd} (h : QI n m0 q) {i : Nat} (hi : i < q.length) {t : Nat} (ht : t < n.trans.length) : QI n m0 (stepS n (gti q i) q t) := by
  unfold stepS
  split
  · exact h
  · rename_i h1
    split
    · exact h
    · rename_i h2
      obtain ⟨hm, hl, hr⟩ := h.at_ i hi
      have h2' : (FireE n (gti q i).m t).2 = 0 := by
        rcases Decidable.em ((FireE n (gti q i).m t).2 = 0) with h | h
        · exact h
        · exact absurd (.inl h) h2
      refine ⟨?_, fun j hj => ?_⟩
      · have := h.len
        have : q.length ≠ 200 := fun e => h1 (.inr e)
        simp
        omega
      · rw [gti_app]
        split
        · rename_i hjl; exact h.at_ j hjl
        · rename_i hjl
          have : j - q.length = 0 := by simp at hj; omega
          rw [this]
          refine ⟨FireE_mark hm h2', ?_, runTo_snoc hr (by omega) (by omega) h2'⟩
          simp [gti]
          unfold gti at hl
          omega
theorem gti_pre {α : Type} [Inhabited α] {a b : List α} {i : Nat} (h : i < a.length) : gti (a ++ b) i = gti a i := by rw [gti_app, if_pos h]
theorem roundS_at {n : Net} {q : List Nd} {i : Nat} (hi : i < q.length) (x : Nd) (k : Nat) : i < (roundS n x q k).length ∧ gti (roundS n x q k) i = gti q i := by
  obtain ⟨r, hr⟩ := roundS_pre n x q k
  rw [hr, gti_pre hi]
  exact ⟨by simp; omega, rfl⟩
theorem QI.round {n : Net} {m0 : List Int} {q : List Nd} (h : QI n m0 q) {i : Nat} (hi : i < q.length) : ∀ {k : Nat}, k ≤ n.trans.length → QI n m0 (roundS n (gti q i) q k)
  | 0, _ => h
  | k + 1, hk => by
    obtain ⟨h1, h2⟩ := roundS_at (n := n) hi (gti q i) k
    have := (QI.round h hi (k := k) (by omega)).step h1 (t := k) (by omega)
    rw [h2] at this
    exact this
theorem srch_some {n : Net} {good : List Int → Bool} {m0 : List Int} : ∀ {f i : Nat} {q : List Nd} {way : List Int}, QI n m0 q → srch n good f i q = some way → ∃ m', runTo n m0 way = some m' ∧ good m' = true ∧ markB n m' = true ∧ way.length < 200
  | 0, i, q, way, _, h => by cases h
  | f + 1, i, q, way, hq, h => by
    rw [srch] at h
    split at h
    · rename_i hi
      split at h
      · rename_i hg
        injection h with h
        subst h
        obtain ⟨h1, h2, h3⟩ := hq.at_ i hi
        exact ⟨_, h3, hg, h1, by have := hq.len; omega⟩
      · exact srch_some (hq.round hi (Nat.le_refl _)) h
    · cases h
theorem silE_some {n : Net} {good : List Int → Bool} {m : List Int} {way : List Int} (hm : markB n m = true) (h : silE n good m = some way) : ∃ m', runTo n m way = some m' ∧ good m' = true ∧ markB n m' = true ∧ way.length < 200 := srch_some (QI.init hm) h
/-- the key tells markings apart -/
theorem keyL_inj : ∀ {a b : List Int}, (∀ x ∈ a, 0 ≤ x ∧ x ≤ 255) → (∀ x ∈ b, 0 ≤ x ∧ x ≤ 255) → keyL a = keyL b → a = b
  | [], [], _, _, _ => rfl
  | [], y :: b, _, _, h => by simp [keyL] at h
  | x :: a, [], _, _, h => by simp [keyL] at h
  | x :: a, y :: b, ha, hb, h => by
    have e1 : keyL (x :: a) = [UInt8.ofNat x.toNat, 0] ++ keyL a := rfl
    have e2 : keyL (y :: b) = [UInt8.ofNat y.toNat, 0] ++ keyL b := rfl
    rw [e1, e2] at h
    simp only [List.cons_append, List.nil_append, List.cons.injEq, true_and] at h
    have hx := ha x (List.mem_cons_self ..)
    have hy := hb y (List.mem_cons_self ..)
    have h1 := byte_of hx.1 hx.2
    have h2 := byte_of hy.1 hy.2
    rw [h.1, h2] at h1
    rw [h1, keyL_inj (fun z hz => ha z (List.mem_cons_of_mem _ hz)) (fun z hz => hb z (List.mem_cons_of_mem _ hz)) h.2]
theorem mem_gti' {α : Type} [Inhabited α] {l : List α} {a : α} (h : a ∈ l) : ∃ k, k < l.length ∧ gti l k = a := by
  obtain ⟨k, hk, rfl⟩ := List.getElem_of_mem h
  exact ⟨k, hk, by unfold gti; rw [List.getElem?_eq_getElem hk]; rfl⟩
theorem markB_small {n : Net} {m : List Int} (h : markB n m = true) : ∀ x ∈ m, 0 ≤ x ∧ x ≤ 255 := by
  intro x hx
  unfold markB at h
  simp only [Bool.and_eq_true] at h
  obtain ⟨k, _, rfl⟩ := mem_gti' hx
  have := mark2B_at h.2 k
  omega
theorem markB_len {n : Net} {m : List Int} (h : markB n m = true) : 1 ≤ m.length ∧ m.length ≤ 40 ∧ (m.length : Int) = n.places := by
  unfold markB at h
  simp only [Bool.and_eq_true] at h
  have := mark2B_len h.2
  have := validB_places h.1
  omega
def keysOf (q : List Nd) : List (List UInt8) := (q.map fun x => keyL x.m).reverse
theorem keysOf_snoc (q : List Nd) (x : Nd) : keysOf (q ++ [x]) = keyL x.m :: keysOf q := by simp [keysOf]
theorem keysOf_len (q : List Nd) : (keysOf q).length = q.length := by simp [keysOf]
theorem QI.key {n : Net} {m0 : List Int} {q : List Nd} (h : QI n m0 q) {m : List Int} (hm : markB n m = true) : decide (keyL m ∈ keysOf q) = decide (m ∈ q.map Nd.m) := by
  rw [decide_eq_decide]
  unfold keysOf
  rw [List.mem_reverse]
  constructor
  · intro hk
    obtain ⟨x, hx, e⟩ := List.mem_map.1 hk
    obtain ⟨i, hi, rfl⟩ := mem_gti' hx
    have := keyL_inj (markB_small (h.at_ i hi).1) (markB_small hm) e
    exact List.mem_map.2 ⟨_, hx, this⟩
  · intro hk
    obtain ⟨x, hx, rfl⟩ := List.mem_map.1 hk
    exact List.mem_map.2 ⟨x, hx, rfl⟩
end Go.Proofs.Ytmhbfoaecebobaa
