/-
  How many moves can be applied, and their ranks: plain. Conditions: none.
-/
import Derived.Test.YtamhbmaimiifmaaPossP
namespace Go.Proofs.Ytamhbmaimiifmaa
set_option linter.unusedSimpArgs false
set_option linter.unusedVariables false
open Go.RowKit

def cA (n : Net) (w : List ByteArray) (s : List Int) (kd t : Int) (acts : List ByteArray) : Nat → Int
  | 0 => 0
  | j + 1 => cA n w s kd t acts j + if canB n w s ⟨kd, t, gti acts j⟩ then 1 else 0
def cT (n : Net) (w : List ByteArray) (s : List Int) (kd : Int) (acts : List ByteArray) : Nat → Int
  | 0 => 0
  | i + 1 => cT n w s kd acts i + cA n w s kd ((i : Int) - 1) acts acts.length
def cK (n : Net) (w : List ByteArray) (s : List Int) (acts : List ByteArray) : Nat → Int
  | 0 => 0
  | k + 1 => cK n w s acts k + cT n w s ((k : Int) + 1) acts (n.trans.length + 1)
theorem cA_bd (n : Net) (w : List ByteArray) (s : List Int) (kd t : Int) (acts : List ByteArray) : ∀ j, 0 ≤ cA n w s kd t acts j ∧ cA n w s kd t acts j ≤ j
  | 0 => by simp [cA]
  | j + 1 => by
    have := cA_bd n w s kd t acts j
    simp only [cA]
    split <;> omega
theorem cT_bd (n : Net) (w : List ByteArray) (s : List Int) (kd : Int) (acts : List ByteArray) : ∀ i, 0 ≤ cT n w s kd acts i ∧ cT n w s kd acts i ≤ i * acts.length
  | 0 => by simp [cT]
  | i + 1 => by
    have h1 := cT_bd n w s kd acts i
    have h2 := cA_bd n w s kd ((i : Int) - 1) acts acts.length
    simp only [cT]
    rw [show ((i + 1 : Nat) : Int) * (acts.length : Int) = i * acts.length + acts.length by rw [Int.natCast_add, Int.add_mul]; simp]
    omega
theorem filter_one {a0 : ByteArray} : ∀ {l : List ByteArray}, l.Nodup → a0 ∈ l → (l.filter fun a => decide (a = a0)).length = 1
  | [], _, h => by cases h
  | a :: l, hn, h => by
    rw [List.nodup_cons] at hn
    rw [List.filter_cons]
    by_cases ha : a = a0
    · subst ha
      have : (l.filter fun b => decide (b = a)) = [] := by
        rw [List.filter_eq_nil_iff]
        intro b hb
        simp
        intro e
        subst e
        exact hn.1 hb
      simp [this]
    · rcases List.mem_cons.1 h with rfl | h
      · exact absurd rfl ha
      · simp [ha, filter_one hn.2 h]
theorem cA_filter (n : Net) (w : List ByteArray) (s : List Int) (kd t : Int) (acts : List ByteArray) : ∀ j, j ≤ acts.length → cA n w s kd t acts j = (((acts.take j).filter fun a => canB n w s ⟨kd, t, a⟩).length : Int)
  | 0, _ => by simp [cA]
  | j + 1, h => by
    have : acts.take (j + 1) = acts.take j ++ [gti acts j] := by
      rw [List.take_succ_eq_append_getElem (by omega)]
      unfold gti
      rw [List.getElem?_eq_getElem (by omega)]
      rfl
    rw [cA, cA_filter n w s kd t acts j (by omega), this, List.filter_append, List.length_append]
    cases hc : canB n w s ⟨kd, t, gti acts j⟩ <;> simp [hc]
theorem cA_one {n : Net} {w : List ByteArray} {s : List Int} {kd t : Int} {acts : List ByteArray} {a0 : ByteArray} {c : Bool} (h : ∀ a, canB n w s ⟨kd, t, a⟩ = (decide (a = a0) && c)) (hn : acts.Nodup) (hm : c = true → a0 ∈ acts) : cA n w s kd t acts acts.length = if c then 1 else 0 := by
  rw [cA_filter n w s kd t acts _ (Nat.le_refl _), List.take_length]
  have : (fun a => canB n w s ⟨kd, t, a⟩) = fun a => (decide (a = a0) && c) := funext h
  rw [this]
  cases c
  · simp
  · simp only [Bool.and_true, if_true]
    rw [filter_one hn (hm rfl)]
    rfl
theorem cA_zero {n : Net} {w : List ByteArray} {s : List Int} {kd t : Int} {acts : List ByteArray} (h : ∀ a, canB n w s ⟨kd, t, a⟩ = false) : cA n w s kd t acts acts.length = 0 := by
  rw [cA_filter n w s kd t acts _ (Nat.le_refl _), List.take_length]
  have : (fun a => canB n w s ⟨kd, t, a⟩) = fun _ => false := funext h
  rw [this]
  simp
section
variable {n : Net} {w : List ByteArray} {s : List Int} (hz : stateB n w s = true) {acts : List ByteArray} (hn : acts.Nodup) (hw : ∀ i, i < w.length → gti w i ∈ acts)
include hz hn hw
theorem cT_log : ∀ k, cT n w s 2 acts (k + 1) = ((logOf w (gti s 0)).length : Int)
  | 0 => by
    simp only [cT]
    rw [cA_one (a0 := gti w (gti s 0).toNat) (c := decide (gti s 0 < w.length)) ?_ hn ?_]
    · unfold logOf
      by_cases hp : gti s 0 < w.length <;> simp [hp]
    · intro a
      rw [can_two hz]
      simp
      rw [Bool.and_comm]
    · intro hp
      have := (stateB_iff.1 hz).2.2.1
      exact hw _ (by have := of_decide_eq_true hp; omega)
  | k + 1 => by
    rw [cT, cT_log k, cA_zero (fun a => by rw [can_two hz]; simp; try omega)]
    simp
end
section
variable {n : Net} {w : List ByteArray} {s : List Int} (hz : stateB n w s = true) {acts : List ByteArray} (hn : acts.Nodup) (hl : ∀ i, i < n.trans.length → (gti n.trans i).label ∈ acts) (hw : ∀ i, i < w.length → gti w i ∈ acts)
include hz hn hl
theorem cT_sync : ∀ k, k ≤ n.trans.length → cT n w s 1 acts (k + 1) = ((syncAt n w (gti s 0) (s.drop 1) k).length : Int)
  | 0, _ => by
    simp only [cT, syncAt]
    rw [cA_zero (fun a => by rw [can_pos hz (by rfl) (by decide)]; simp)]
    rfl
  | k + 1, h => by
    rw [cT, cT_sync k (by omega), syncAt, List.length_append]
    have e : (((k + 1 : Nat) : Int) - 1) = k := by omega
    rw [e, cA_one (a0 := (gti n.trans k).label) (c := fires n (s.drop 1) k && (!(gti n.trans k).label.toList.isEmpty && atB w (gti s 0) (gti n.trans k).label)) ?_ hn (fun _ => hl k (by omega))]
    · unfold syncOf
      split <;> simp
    · intro a
      rw [can_pos hz (by rfl) (by decide), Int.toNat_natCast]
      have hk : (k : Int) < n.trans.length := by omega
      by_cases ha : a = (gti n.trans k).label
      · subst ha
        cases (gti n.trans k).label.toList.isEmpty <;> cases atB w (gti s 0) (gti n.trans k).label <;> cases fires n (s.drop 1) k <;> simp [hk]
      · simp [ha]
theorem cT_model : ∀ k, k ≤ n.trans.length → cT n w s 3 acts (k + 1) + cT n w s 4 acts (k + 1) = ((modelAt n (s.drop 1) k).length : Int)
  | 0, _ => by
    simp only [cT, modelAt]
    rw [cA_zero (fun a => by rw [can_pos hz (by rfl) (by decide)]; simp), cA_zero (fun a => by rw [can_pos hz (by rfl) (by decide)]; simp)]
    rfl
  | k + 1, h => by
    have ih := cT_model k (by omega)
    have e3 : cT n w s 3 acts (k + 1 + 1) = cT n w s 3 acts (k + 1) + cA n w s 3 (((k + 1 : Nat) : Int) - 1) acts acts.length := rfl
    have e4 : cT n w s 4 acts (k + 1 + 1) = cT n w s 4 acts (k + 1) + cA n w s 4 (((k + 1 : Nat) : Int) - 1) acts acts.length := rfl
    rw [e3, e4, modelAt, List.length_append]
    have e : (((k + 1 : Nat) : Int) - 1) = k := by omega
    have hk : (k : Int) < n.trans.length := by omega
    have h3 := cA_one (kd := 3) (t := k) (a0 := (gti n.trans k).label) (c := fires n (s.drop 1) k && !(gti n.trans k).label.toList.isEmpty) (fun a => by
      rw [can_pos hz (by rfl) (by decide), Int.toNat_natCast]
      by_cases ha : a = (gti n.trans k).label
      · subst ha
        cases (gti n.trans k).label.toList.isEmpty <;> cases fires n (s.drop 1) k <;> simp [hk]
      · simp [ha]) hn (fun _ => hl k (by omega))
    have h4 := cA_one (kd := 4) (t := k) (a0 := (gti n.trans k).label) (c := fires n (s.drop 1) k && (gti n.trans k).label.toList.isEmpty) (fun a => by
      rw [can_pos hz (by rfl) (by decide), Int.toNat_natCast]
      by_cases ha : a = (gti n.trans k).label
      · subst ha
        cases (gti n.trans k).label.toList.isEmpty <;> cases fires n (s.drop 1) k <;> simp [hk]
      · simp [ha]) hn (fun _ => hl k (by omega))
    rw [e, h3, h4]
    have hm : ((modelOf n (s.drop 1) k).length : Int) = (if (fires n (s.drop 1) k && !(gti n.trans k).label.toList.isEmpty) = true then 1 else 0) + (if (fires n (s.drop 1) k && (gti n.trans k).label.toList.isEmpty) = true then 1 else 0) := by
      unfold modelOf
      cases fires n (s.drop 1) k <;> cases (gti n.trans k).label.toList.isEmpty <;> simp
    omega
include hw
theorem cK_all : cK n w s acts 4 = ((movesL n w s).length : Int) := by
  simp only [cK]
  have h1 := cT_sync hz hn hl n.trans.length (Nat.le_refl _)
  have h2 := cT_log hz hn hw n.trans.length
  have h3 := cT_model hz hn hl n.trans.length (Nat.le_refl _)
  unfold movesL
  simp only [List.length_append]
  have e1 : cT n w s (((0 : Nat) : Int) + 1) acts (n.trans.length + 1) = cT n w s 1 acts (n.trans.length + 1) := rfl
  have e2 : cT n w s (((1 : Nat) : Int) + 1) acts (n.trans.length + 1) = cT n w s 2 acts (n.trans.length + 1) := rfl
  have e3 : cT n w s (((2 : Nat) : Int) + 1) acts (n.trans.length + 1) = cT n w s 3 acts (n.trans.length + 1) := rfl
  have e4 : cT n w s (((3 : Nat) : Int) + 1) acts (n.trans.length + 1) = cT n w s 4 acts (n.trans.length + 1) := rfl
  rw [e1, e2, e3, e4]
  omega
end
def rankE (m : Stp) : Int := if m.kind = 1 then m.trans else if m.kind = 2 then 100 else 200 + m.trans
theorem syncAt_asc (n : Net) (w : List ByteArray) (p : Int) (m : List Int) : ∀ k, (syncAt n w p m k).Pairwise (fun a b => rankE a < rankE b) ∧ ∀ a ∈ syncAt n w p m k, 0 ≤ rankE a ∧ rankE a < k
  | 0 => by simp [syncAt]
  | k + 1 => by
    obtain ⟨h1, h2⟩ := syncAt_asc n w p m k
    have h3 : ∀ a ∈ syncOf n w p m k, rankE a = k := by
      intro a ha
      unfold syncOf at ha
      split at ha
      · simp at ha; subst ha; simp [rankE]
      · cases ha
    refine ⟨?_, fun a ha => ?_⟩
    · rw [syncAt, List.pairwise_append]
      refine ⟨h1, ?_, fun a ha b hb => ?_⟩
      · unfold syncOf; split <;> simp
      · rw [h3 b hb]; exact (h2 a ha).2
    · rw [syncAt, List.mem_append] at ha
      rcases ha with ha | ha
      · have := h2 a ha; omega
      · rw [h3 a ha]; omega
theorem modelAt_asc (n : Net) (m : List Int) : ∀ k, (modelAt n m k).Pairwise (fun a b => rankE a < rankE b) ∧ ∀ a ∈ modelAt n m k, 200 ≤ rankE a ∧ rankE a < 200 + k
  | 0 => by simp [modelAt]
  | k + 1 => by
    obtain ⟨h1, h2⟩ := modelAt_asc n m k
    have h3 : ∀ a ∈ modelOf n m k, rankE a = 200 + k := by
      intro a ha
      unfold modelOf at ha
      split at ha
      · split at ha
        · simp at ha; subst ha; simp [rankE]
        · simp at ha; subst ha; simp [rankE]
      · cases ha
    refine ⟨?_, fun a ha => ?_⟩
    · rw [modelAt, List.pairwise_append]
      refine ⟨h1, ?_, fun a ha b hb => ?_⟩
      · unfold modelOf; split; (split <;> simp); simp
      · rw [h3 b hb]; exact (h2 a ha).2
    · rw [modelAt, List.mem_append] at ha
      rcases ha with ha | ha
      · have := h2 a ha; omega
      · rw [h3 a ha]; omega
theorem moves_asc {n : Net} {w : List ByteArray} {s : List Int} (h : n.trans.length ≤ 60) : (movesL n w s).Pairwise (fun a b => rankE a < rankE b) ∧ ∀ a ∈ movesL n w s, 0 ≤ rankE a ∧ rankE a ≤ 300 := by
  obtain ⟨h1, h2⟩ := syncAt_asc n w (gti s 0) (s.drop 1) n.trans.length
  obtain ⟨h3, h4⟩ := modelAt_asc n (s.drop 1) n.trans.length
  have h5 : ∀ a ∈ logOf w (gti s 0), rankE a = 100 := by
    intro a ha
    unfold logOf at ha
    split at ha
    · simp at ha; subst ha; simp [rankE]
    · cases ha
  unfold movesL
  refine ⟨?_, fun a ha => ?_⟩
  · rw [List.pairwise_append, List.pairwise_append]
    refine ⟨h1, ⟨?_, h3, fun a ha b hb => ?_⟩, fun a ha b hb => ?_⟩
    · unfold logOf; split <;> simp
    · rw [h5 a ha]; have := h4 b hb; omega
    · have := h2 a ha
      rcases List.mem_append.1 hb with hb | hb
      · rw [h5 b hb]; omega
      · have := h4 b hb; omega
  · rcases List.mem_append.1 ha with ha | ha
    · have := h2 a ha; omega
    · rcases List.mem_append.1 ha with ha | ha
      · rw [h5 a ha]; omega
      · have := h4 a ha; omega
theorem asc_at {l : List Stp} (h : l.Pairwise (fun a b => rankE a < rankE b)) {k : Nat} (hk : k + 1 < l.length) : rankE (gti l k) < rankE (gti l (k + 1)) := by
  rw [List.pairwise_iff_getElem] at h
  have := h k (k + 1) (by omega) hk (by omega)
  unfold gti
  rw [List.getElem?_eq_getElem (by omega), List.getElem?_eq_getElem hk]
  exact this
end Go.Proofs.Ytamhbmaimiifmaa
