/-
  The possible moves, by the product and by the reference, are the same: plain. Conditions: none.
-/
import Derived.Test.YtamhbmaimiifmaaMoves2
namespace Go.Proofs.Ytamhbmaimiifmaa
set_option linter.unusedSimpArgs false
set_option linter.unusedVariables false
open Go.RowKit

def canB (n : Net) (w : List ByteArray) (s : List Int) (m : Stp) : Bool := decide ((ApplyE n w s m).2 = 0)
theorem filtAt_eq (n : Net) (w : List ByteArray) (s : List Int) (al : List Stp) : ∀ k, k ≤ al.length → filtAt n w s al k = (al.take k).filter (canB n w s)
  | 0, _ => by simp [filtAt]
  | k + 1, h => by
    have : al.take (k + 1) = al.take k ++ [gti al k] := by
      rw [List.take_succ_eq_append_getElem (by omega)]
      unfold gti
      rw [List.getElem?_eq_getElem (by omega)]
      rfl
    rw [filtAt, filtAt_eq n w s al k (by omega), this, List.filter_append]
    congr 1
    unfold canB
    by_cases hc : (ApplyE n w s (gti al k)).2 = 0 <;> simp [hc]
theorem empty_of {s : ByteArray} (h : s.toList.isEmpty = true) : s = ByteArray.empty := by
  by_cases he : s = ByteArray.empty
  · exact he
  · rw [isEmpty_ne he] at h; cases h
section
variable {n : Net} {w : List ByteArray} {s : List Int} (hz : stateB n w s = true)
include hz
theorem can_eq {m : Stp} (hk : kindB m.kind = true) : canB n w s m = decide ((applyE n w s m).2 = 0) := by
  unfold canB ApplyE
  rw [hz, hk]
  rfl
theorem can_sync {k : Nat} (hk : k < n.trans.length) : canB n w s ⟨1, k, (gti n.trans k).label⟩ = (fires n (s.drop 1) k && (!(gti n.trans k).label.toList.isEmpty && atB w (gti s 0) (gti n.trans k).label)) := by
  rw [can_eq hz (by rfl)]
  unfold applyE fires
  simp only [Int.toNat_natCast]
  generalize List.drop 1 s = tl
  rw [if_neg (by decide), if_neg (by omega)]
  cases he : (gti n.trans k).label.toList.isEmpty <;> cases ha : atB w (gti s 0) (gti n.trans k).label <;> by_cases hf : (FireE n tl k).2 = 0 <;> simp [hf]
theorem can_model {k : Nat} (hk : k < n.trans.length) : canB n w s ⟨if (gti n.trans k).label.toList.isEmpty then 4 else 3, k, (gti n.trans k).label⟩ = fires n (s.drop 1) k := by
  rw [can_eq hz (by split <;> rfl)]
  unfold applyE fires
  simp only [Int.toNat_natCast]
  generalize List.drop 1 s = tl
  cases he : (gti n.trans k).label.toList.isEmpty
  · simp only [Bool.false_eq_true, if_false]
    rw [if_neg (by decide), if_neg (by omega)]
    by_cases hf : (FireE n tl k).2 = 0 <;> simp [hf]
  · simp only [if_true]
    rw [if_neg (by decide), if_neg (by omega)]
    by_cases hf : (FireE n tl k).2 = 0 <;> simp [hf]
theorem can_log (hp : gti s 0 < w.length) : canB n w s ⟨2, -1, gti w (gti s 0).toNat⟩ = true := by
  obtain ⟨h1, h2, h3, h4, h5⟩ := stateB_iff.1 hz
  rw [can_eq hz (by rfl)]
  unfold applyE
  have hn : nameB (gti w (gti s 0).toNat) = true := by
    unfold wordB at h1
    simp only [Bool.and_eq_true, List.all_eq_true] at h1
    exact h1.2 _ (gti_mem (by omega))
  have ha : atB w (gti s 0) (gti w (gti s 0).toNat) = true := by unfold atB; simp [hp]
  simp [hn, ha]
theorem filt_sync : ∀ k, k ≤ n.trans.length → (allA n k).filter (canB n w s) = syncAt n w (gti s 0) (s.drop 1) k
  | 0, _ => rfl
  | k + 1, h => by
    rw [allA, syncAt, List.filter_append, filt_sync k (by omega)]
    congr 1
    unfold syncOf
    rw [← can_sync hz (by omega)]
    cases hc : canB n w s ⟨1, k, (gti n.trans k).label⟩ <;> simp [hc]
theorem filt_model : ∀ k, k ≤ n.trans.length → (allB n k).filter (canB n w s) = modelAt n (s.drop 1) k
  | 0, _ => rfl
  | k + 1, h => by
    rw [allB, modelAt, List.filter_append, filt_model k (by omega)]
    congr 1
    unfold modelOf
    have hm := can_model hz (k := k) (by omega)
    rw [← hm]
    cases he : (gti n.trans k).label.toList.isEmpty
    · rw [he] at hm
      simp only [Bool.false_eq_true, if_false] at hm ⊢
      cases hc : canB n w s ⟨3, k, (gti n.trans k).label⟩ <;> simp [hc]
    · rw [he] at hm
      simp only [if_true] at hm ⊢
      rw [empty_of he]
      cases hc : canB n w s ⟨4, k, ByteArray.empty⟩ <;> simp [hc]
theorem moves_same : filtAt n w s (rAll n w (gti s 0)) (rAll n w (gti s 0)).length = movesL n w s := by
  rw [filtAt_eq n w s _ _ (Nat.le_refl _), List.take_length]
  unfold rAll movesL
  rw [List.filter_append, List.filter_append, filt_sync hz _ (Nat.le_refl _), filt_model hz _ (Nat.le_refl _), List.append_assoc]
  congr 2
  unfold logOf
  split
  · rename_i hp
    simp [can_log hz hp]
  · rfl
end
end Go.Proofs.Ytamhbmaimiifmaa
