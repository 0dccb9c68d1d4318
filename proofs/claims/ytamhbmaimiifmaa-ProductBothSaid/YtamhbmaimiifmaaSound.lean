/-
  Of moves that lead from the start to the end: the word and the run: plain. Conditions: none.
-/
import Derived.Test.YtamhbmaimiifmaaRun
import Derived.Test.YtamhbmaimiifmaaWord
namespace Go.Proofs.Ytamhbmaimiifmaa
set_option linter.unusedSimpArgs false
set_option linter.unusedVariables false
open Go.RowKit

def runM (n : Net) : List Int → List Int → Option (List Int)
  | m, [] => some m
  | m, t :: ts => if (fireE n m t).2 = 0 then runM n (fireE n m t).1 ts else none
def runG (n : Net) : List Int → List Int → Int → List Int × Int × Int
  | m, [], i => (m, i, 0)
  | m, t :: ts, i => if (fireE n m t).2 = 0 then runG n (fireE n m t).1 ts (i + 1) else ([], i, (fireE n m t).2)
def RunE (n : Net) (m l : List Int) : List Int × Int × Int := if markB n m then (if 1000 < l.length then ([], 0, 5) else runG n m l 0) else ([], 0, 1)
theorem runG_M {n : Net} : ∀ {ts m x : List Int} {i : Int}, runM n m ts = some x → runG n m ts i = (x, i + ts.length, 0)
  | [], m, x, i, h => by simp [runM] at h; simp [runG, h]
  | t :: ts, m, x, i, h => by
    rw [runM] at h
    split at h
    · rename_i h0
      rw [runG, if_pos h0, runG_M h]
      simp
      omega
    · cases h
theorem at_flat {α : Type} (f : Stp → List α) (g : List Stp → Nat → List α) (hg0 : ∀ l, g l 0 = []) (hg : ∀ l k, g l (k + 1) = g l k ++ f (gti l k)) (l : List Stp) : ∀ k, k ≤ l.length → g l k = (l.take k).flatMap f
  | 0, _ => by simp [hg0]
  | k + 1, h => by
    rw [hg, at_flat f g hg0 hg l k (by omega)]
    have : l.take (k + 1) = l.take k ++ [gti l k] := by
      rw [List.take_succ_eq_append_getElem (by omega)]
      unfold gti
      rw [List.getElem?_eq_getElem (by omega)]
      rfl
    rw [this, List.flatMap_append]
    simp
theorem wordAt_flat (l : List Stp) : wordAt l l.length = l.flatMap wordOf := by
  rw [at_flat wordOf wordAt (fun _ => rfl) (fun _ _ => rfl) l _ (Nat.le_refl _), List.take_length]
theorem runAt_flat (l : List Stp) : runAt l l.length = l.flatMap runOf := by
  rw [at_flat runOf runAt (fun _ => rfl) (fun _ _ => rfl) l _ (Nat.le_refl _), List.take_length]
theorem FireE_of {n : Net} {m : List Int} (h : markB n m = true) (t : Int) : FireE n m t = fireE n m t := by rw [FireE, h]; rfl
theorem atB_drop {w : List ByteArray} {p : Int} {a : ByteArray} (hp : 0 ≤ p) (h : atB w p a = true) : w.drop p.toNat = a :: w.drop (p + 1).toNat ∧ p + 1 ≤ w.length := by
  unfold atB at h
  simp only [Bool.and_eq_true, decide_eq_true_eq] at h
  have hlt : p.toNat < w.length := by omega
  rw [drop_gti hlt, h.2, show (p + 1).toNat = p.toNat + 1 by omega]
  exact ⟨rfl, by omega⟩
/-- one move -/
theorem apply_sound {n : Net} {w : List ByteArray} {s : List Int} {m : Stp} (hs : stateB n w s = true) (hk : kindB m.kind = true) (h : (applyE n w s m).2 = 0) :
    w.drop (gti s 0).toNat = wordOf m ++ w.drop (gti (applyE n w s m).1 0).toNat ∧ ∀ ts, runM n (s.drop 1) (runOf m ++ ts) = runM n ((applyE n w s m).1.drop 1) ts := by
  obtain ⟨h1, h2, h3, h4, h5⟩ := stateB_iff.1 hs
  have hkb : 1 ≤ m.kind ∧ m.kind ≤ 4 := by unfold kindB at hk; simp at hk; exact hk
  unfold applyE at h ⊢
  by_cases c1 : m.kind = 2
  · rw [if_pos c1] at h ⊢
    by_cases c2 : m.trans ≠ -1
    · rw [if_pos c2] at h; simp at h
    rw [if_neg c2] at h ⊢
    by_cases c3 : nameB m.act = false
    · rw [if_pos c3] at h; simp at h
    rw [if_neg c3] at h ⊢
    by_cases c4 : atB w (gti s 0) m.act = false
    · rw [if_pos c4] at h; simp at h
    rw [if_neg c4] at h ⊢
    have ha := atB_drop h3 (by simpa using c4)
    simp only [gti_cons0, List.drop_succ_cons, List.drop_zero]
    refine ⟨?_, fun ts => ?_⟩
    · rw [ha.1, wordOf, if_pos (.inr c1)]; rfl
    · rw [runOf, if_neg (by simpa using c1)]; rfl
  · rw [if_neg c1] at h ⊢
    by_cases c2 : m.trans < 0 ∨ (n.trans.length : Int) ≤ m.trans
    · rw [if_pos c2] at h; simp at h
    rw [if_neg c2] at h ⊢
    by_cases c3 : m.act ≠ (gti n.trans m.trans.toNat).label ∨ (gti n.trans m.trans.toNat).label.toList.isEmpty ≠ decide (m.kind = 4)
    · rw [if_pos c3] at h; simp at h
    rw [if_neg c3] at h ⊢
    by_cases c4 : m.kind = 1 ∧ atB w (gti s 0) m.act = false
    · rw [if_pos c4] at h; simp at h
    rw [if_neg c4] at h ⊢
    by_cases c5 : (FireE n (s.drop 1) m.trans).2 ≠ 0
    · rw [if_pos c5] at h; exact absurd h c5
    rw [if_neg c5] at h ⊢
    simp only [gti_cons0, List.drop_succ_cons, List.drop_zero]
    rw [FireE_of h5] at c5 ⊢
    refine ⟨?_, fun ts => ?_⟩
    · by_cases hk1 : m.kind = 1
      · rw [if_pos hk1, wordOf, if_pos (.inl hk1)]
        have ha := atB_drop h3 (a := m.act) (by cases h : atB w (gti s 0) m.act <;> simp_all)
        exact ha.1
      · rw [if_neg hk1, wordOf, if_neg (by omega)]; rfl
    · rw [runOf, if_pos c1]
      show runM n (s.drop 1) (m.trans :: ts) = _
      rw [runM, if_pos (by simpa using c5)]
theorem runA_sound {n : Net} {w : List ByteArray} : ∀ {l : List Stp} {s e : List Int}, stateB n w s = true → (∀ m ∈ l, kindB m.kind = true) → runA n w s l = some e →
    w.drop (gti s 0).toNat = l.flatMap wordOf ++ w.drop (gti e 0).toNat ∧ runM n (s.drop 1) (l.flatMap runOf) = some (e.drop 1)
  | [], s, e, hs, hk, h => by
    simp [runA] at h
    subst h
    simp [runM]
  | m :: l, s, e, hs, hk, h => by
    rw [runA] at h
    split at h
    · rename_i h0
      obtain ⟨h1, h2⟩ := apply_sound hs (hk m (List.mem_cons_self ..)) h0
      obtain ⟨h3, h4⟩ := runA_sound (apply_state hs h0) (fun x hx => hk x (List.mem_cons_of_mem _ hx)) h
      rw [List.flatMap_cons, List.flatMap_cons, h1, h3, h2, h4, List.append_assoc]
      exact ⟨rfl, rfl⟩
    · cases h
theorem check_sound {n : Net} {w : List ByteArray} {c : Cst} {l : List Stp} {k : Int} (h : checkB n w c l k = true) :
    validB n = true ∧ wordB w = true ∧ vcB c = true ∧ fineB l = true ∧ costAt c l l.length = k ∧ wordAt l l.length = w ∧ runM n (oneL n.places.toNat n.source) (runAt l l.length) = some (oneL n.places.toNat n.sink) := by
  unfold checkB at h
  simp only [Bool.and_eq_true, decide_eq_true_eq] at h
  obtain ⟨⟨⟨⟨h1, h2⟩, h3, h4⟩, h5⟩, h6⟩ := h
  refine ⟨h1, h2, h3, h4, h5, ?_⟩
  cases hr : runA n w (startS n) l with
  | none => rw [hr] at h6; cases h6
  | some e =>
    rw [hr] at h6
    have he : e = endS n w := by simpa [endB] using h6
    subst he
    obtain ⟨h7, h8⟩ := runA_sound (start_state h1 h2) (fun m hm => by
      obtain ⟨k, hk, rfl⟩ := mem_gti hm
      exact fineB_kind h4 hk) hr
    rw [wordAt_flat, runAt_flat]
    constructor
    · simp only [startS, endS, gti_cons0] at h7
      simpa using h7.symm
    · simpa [startS, endS] using h8
end Go.Proofs.Ytamhbmaimiifmaa
