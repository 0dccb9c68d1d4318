/-
  What a list of moves does to a state: plain. Conditions: none.
-/
import Derived.Test.YtamhbmaimiifmaaCost
import Derived.Test.YtamhbmaimiifmaaApply2
namespace Go.Proofs.Ytamhbmaimiifmaa
set_option linter.unusedSimpArgs false
set_option linter.unusedVariables false
open Go.RowKit

theorem FireE_mark {n : Net} {m : List Int} {t : Int} (h : (FireE n m t).2 = 0) : markB n (FireE n m t).1 = true := by
  unfold FireE at h ⊢
  split
  · rename_i hm; rw [if_pos hm] at h; exact fireE_mark hm h
  · rename_i hm; rw [if_neg hm] at h; simp at h
theorem gti_cons0 {α : Type} [Inhabited α] (x : α) (l : List α) : gti (x :: l) 0 = x := by simp [gti]
theorem gti_cons {α : Type} [Inhabited α] (x : α) (l : List α) (k : Nat) : gti (x :: l) (k + 1) = gti l k := by simp [gti]
theorem apply_state {n : Net} {w : List ByteArray} {s : List Int} {m : Stp} (hs : stateB n w s = true) (h : (applyE n w s m).2 = 0) : stateB n w (applyE n w s m).1 = true := by
  obtain ⟨h1, h2, h3, h4, h5⟩ := stateB_iff.1 hs
  rw [stateB_iff]
  have hat : ∀ a, ¬ atB w (gti s 0) a = false → gti s 0 + 1 ≤ w.length := by
    intro a ha
    unfold atB at ha
    simp at ha
    omega
  refine ⟨h1, ?_⟩
  unfold applyE at h ⊢
  by_cases c1 : m.kind = 2
  · rw [if_pos c1] at h ⊢
    by_cases c2 : m.trans ≠ -1
    · rw [if_pos c2] at h; simp at h
    rw [if_neg c2] at h ⊢
    by_cases c3 : nameB m.act = false
    · rw [if_pos c3] at h; simp at h
    rw [if_neg c3] at h ⊢
    by_cases c4 : atB w (gti s 0) m.act = false
    · rw [if_pos c4] at h; simp at h
    rw [if_neg c4] at h ⊢
    have := hat _ c4
    simp only [gti_cons0, List.length_cons, List.drop_succ_cons, List.drop_zero]
    exact ⟨by omega, by omega, this, h5⟩
  · rw [if_neg c1] at h ⊢
    by_cases c2 : m.trans < 0 ∨ (n.trans.length : Int) ≤ m.trans
    · rw [if_pos c2] at h; simp at h
    rw [if_neg c2] at h ⊢
    by_cases c3 : m.act ≠ (gti n.trans m.trans.toNat).label ∨ (gti n.trans m.trans.toNat).label.toList.isEmpty ≠ decide (m.kind = 4)
    · rw [if_pos c3] at h; simp at h
    rw [if_neg c3] at h ⊢
    by_cases c4 : m.kind = 1 ∧ atB w (gti s 0) m.act = false
    · rw [if_pos c4] at h; simp at h
    rw [if_neg c4] at h ⊢
    by_cases c5 : (FireE n (s.drop 1) m.trans).2 ≠ 0
    · rw [if_pos c5] at h; exact absurd h c5
    rw [if_neg c5] at h ⊢
    simp only [gti_cons0, List.length_cons, List.drop_succ_cons, List.drop_zero]
    refine ⟨by omega, by split <;> omega, ?_, FireE_mark (by simpa using c5)⟩
    split
    · rename_i hk
      exact hat _ (fun hf => c4 ⟨hk, hf⟩)
    · exact h4
theorem all01_mk : ∀ {m : List Int}, (∀ k, k < m.length → 0 ≤ gti m k ∧ gti m k ≤ 100) → all01 m = true
  | [], _ => rfl
  | x :: m, h => by
    have h0 := h 0 (by simp)
    rw [gti_cons0] at h0
    rw [all01, if_neg (by omega)]
    exact all01_mk (fun k hk => by have := h (k + 1) (by simp; omega); rwa [gti_cons] at this)
theorem oneL_mark {n : Net} (p : Int) (h : 1 ≤ n.places) : mark2B n (oneL n.places.toNat p) = true := by
  rw [mark2B, if_neg (by rw [oneL_len]; omega)]
  refine all01_mk (fun k hk => ?_)
  unfold oneL
  rw [gti_set]
  split
  · omega
  · unfold gti
    rw [List.getElem?_replicate]
    split <;> simp
def startS (n : Net) : List Int := 0 :: oneL n.places.toNat n.source
def endS (n : Net) (w : List ByteArray) : List Int := (w.length : Int) :: oneL n.places.toNat n.sink
theorem start_state {n : Net} {w : List ByteArray} (h1 : validB n = true) (h2 : wordB w = true) : stateB n w (startS n) = true := by
  rw [stateB_iff]
  unfold startS
  simp only [gti_cons0, List.length_cons, List.drop_succ_cons, List.drop_zero]
  refine ⟨h2, by omega, by omega, by omega, ?_⟩
  rw [markB, h1, oneL_mark _ (validB_places h1).1]
  rfl
def runA (n : Net) (w : List ByteArray) : List Int → List Stp → Option (List Int)
  | s, [] => some s
  | s, m :: ms => if (applyE n w s m).2 = 0 then runA n w (applyE n w s m).1 ms else none
def endB (n : Net) (w : List ByteArray) : Option (List Int) → Bool
  | some s => decide (s = endS n w)
  | none => false
def checkB (n : Net) (w : List ByteArray) (c : Cst) (l : List Stp) (k : Int) : Bool :=
  validB n && wordB w && (vcB c && fineB l) && decide (costAt c l l.length = k) && endB n w (runA n w (startS n) l)
theorem fineB_kind {l : List Stp} (h : fineB l = true) {k : Nat} (hk : k < l.length) : kindB (gti l k).kind = true := by
  unfold fineB at h
  simp only [Bool.and_eq_true, List.all_eq_true] at h
  exact h.2 _ (gti_mem hk)
theorem ApplyE_of {n : Net} {w : List ByteArray} {s : List Int} {m : Stp} (hs : stateB n w s = true) (hk : kindB m.kind = true) : ApplyE n w s m = applyE n w s m := by
  rw [ApplyE, hs, hk]; rfl
end Go.Proofs.Ytamhbmaimiifmaa
