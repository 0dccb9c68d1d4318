/-
  The possible moves: each can be applied, no other one can, they are in their order, each once: plain. Conditions: none.
-/
import Derived.Test.YtamhbmaimiifmaaMovesP
import Derived.Test.YtamhbmaimiifmaaIdx
namespace Go.Proofs.Ytamhbmaimiifmaa
set_option linter.unusedSimpArgs false
set_option linter.unusedVariables false
open Go.RowKit

theorem hasM_iff {x : Stp} {l : List Stp} : hasM x l = true ↔ x ∈ l := by
  unfold hasM
  rw [List.any_eq_true]
  constructor
  · rintro ⟨a, ha, h⟩; rw [eqM_iff] at h; rw [h]; exact ha
  · intro h; exact ⟨x, h, eqM_iff.2 rfl⟩
theorem hasS_iff {x : ByteArray} {l : List ByteArray} : hasS x l = true ↔ x ∈ l := by
  unfold hasS
  rw [List.any_eq_true]
  constructor
  · rintro ⟨a, ha, h⟩; have := of_decide_eq_true h; rw [this]; exact ha
  · intro h; exact ⟨x, h, decide_eq_true rfl⟩
theorem mem_allA {n : Net} : ∀ {k i : Nat}, i < k → (⟨1, i, (gti n.trans i).label⟩ : Stp) ∈ allA n k
  | k + 1, i, h => by
    rw [allA, List.mem_append]
    by_cases hi : i = k
    · right; subst hi; simp
    · left; exact mem_allA (by omega)
theorem mem_allB {n : Net} : ∀ {k i : Nat}, i < k → (⟨if (gti n.trans i).label.toList.isEmpty then 4 else 3, i, (gti n.trans i).label⟩ : Stp) ∈ allB n k
  | k + 1, i, h => by
    rw [allB, List.mem_append]
    by_cases hi : i = k
    · right; subst hi; simp
    · left; exact mem_allB (by omega)
section
variable {n : Net} {w : List ByteArray} {s : List Int} (hz : stateB n w s = true)
include hz
theorem can_pos {kd t : Int} {a : ByteArray} (hk : kindB kd = true) (h2 : kd ≠ 2) : canB n w s ⟨kd, t, a⟩ = (decide (0 ≤ t) && (decide (t < n.trans.length) && (decide (a = (gti n.trans t.toNat).label) && (decide ((gti n.trans t.toNat).label.toList.isEmpty = decide (kd = 4)) && (!(decide (kd = 1) && !atB w (gti s 0) a) && fires n (s.drop 1) t.toNat))))) := by
  rw [can_eq hz hk]
  unfold applyE fires
  simp only
  rw [if_neg h2]
  by_cases h0 : 0 ≤ t
  · obtain ⟨j, rfl⟩ : ∃ j : Nat, t = j := ⟨t.toNat, by omega⟩
    simp only [Int.toNat_natCast]
    by_cases h1 : (j : Int) < n.trans.length
    · rw [if_neg (by omega)]
      generalize List.drop 1 s = tl
      by_cases ha : a = (gti n.trans j).label
      · by_cases he : (gti n.trans j).label.toList.isEmpty = decide (kd = 4)
        · by_cases hk1 : kd = 1
          · cases hat : atB w (gti s 0) a
            · simp [ha, he, hk1, h1, hat, ha ▸ hat]
            · by_cases hf : (FireE n tl j).2 = 0 <;> simp [ha, he, hk1, h1, ha ▸ hat, hf]
          · by_cases hf : (FireE n tl j).2 = 0 <;> simp [ha, he, hk1, h1, hf]
        · simp [ha, he]
      · simp [ha]
    · rw [if_pos (by omega)]
      simp [h1]
  · rw [if_pos (by omega)]
    simp [h0]
theorem can_two {t : Int} {a : ByteArray} : canB n w s ⟨2, t, a⟩ = (decide (t = -1) && (decide (gti s 0 < w.length) && decide (a = gti w (gti s 0).toNat))) := by
  obtain ⟨h1, h2, h3, h4, h5⟩ := stateB_iff.1 hz
  rw [can_eq hz (by rfl)]
  unfold applyE
  simp only [if_true]
  by_cases ht : t = -1
  · by_cases hp : gti s 0 < w.length
    · have hn : nameB (gti w (gti s 0).toNat) = true := by
        unfold wordB at h1
        simp only [Bool.and_eq_true, List.all_eq_true] at h1
        exact h1.2 _ (gti_mem (by omega))
      by_cases ha : a = gti w (gti s 0).toNat
      · subst ha
        have hat : atB w (gti s 0) (gti w (gti s 0).toNat) = true := by unfold atB; simp [hp]
        simp [ht, hn, hat, hp]
      · have hat : atB w (gti s 0) a = false := by unfold atB; simp [hp]; exact fun h => ha h.symm
        cases hna : nameB a <;> simp [ht, hna, hat, hp, ha]
    · have hat : atB w (gti s 0) a = false := by unfold atB; simp [hp]
      cases hna : nameB a <;> simp [ht, hna, hat, hp]
  · simp [ht]
theorem mem_moves {x : Stp} : x ∈ movesL n w s ↔ x ∈ rAll n w (gti s 0) ∧ canB n w s x = true := by
  rw [← moves_same hz, filtAt_eq n w s _ _ (Nat.le_refl _), List.take_length, List.mem_filter]
theorem can_mem {x : Stp} (hk : kindB x.kind = true) : hasM x (movesL n w s) = canB n w s x := by
  rw [Bool.eq_iff_iff, hasM_iff, mem_moves hz]
  refine ⟨fun h => h.2, fun h => ⟨?_, h⟩⟩
  obtain ⟨kd, t, a⟩ := x
  simp only at hk
  unfold rAll
  rw [List.mem_append, List.mem_append]
  have hkb : 1 ≤ kd ∧ kd ≤ 4 := by unfold kindB at hk; simp at hk; exact hk
  by_cases h2 : kd = 2
  · subst h2
    rw [can_two hz] at h
    simp only [Bool.and_eq_true, decide_eq_true_eq] at h
    left; right
    unfold logOf
    rw [if_pos h.2.1, h.1, h.2.2]
    simp
  · rw [can_pos hz hk h2] at h
    simp only [Bool.and_eq_true, decide_eq_true_eq] at h
    obtain ⟨h0, h1, ha, he, _⟩ := h
    obtain ⟨j, rfl⟩ : ∃ j : Nat, t = j := ⟨t.toNat, by omega⟩
    rw [Int.toNat_natCast] at ha he
    subst ha
    by_cases hk1 : kd = 1
    · subst hk1
      left; left
      exact mem_allA (by omega)
    · right
      have := mem_allB (n := n) (k := n.trans.length) (i := j) (by omega)
      by_cases hk4 : kd = 4
      · subst hk4
        rw [he] at this
        simpa using this
      · obtain rfl : kd = 3 := by omega
        rw [he] at this
        simpa using this
end
/-- an activity more, unless it is there -/
def addS (l : List ByteArray) (x : ByteArray) : List ByteArray := if hasS x l then l else l ++ [x]
theorem addS_nodup {l : List ByteArray} {x : ByteArray} (h : l.Nodup) : (addS l x).Nodup := by
  unfold addS
  split
  · exact h
  · rename_i hx
    rw [List.nodup_append]
    refine ⟨h, by simp, fun a ha b hb e => hx ?_⟩
    simp at hb
    subst hb e
    exact hasS_iff.2 ha
theorem addS_mem {l : List ByteArray} {x y : ByteArray} : y ∈ addS l x ↔ y ∈ l ∨ y = x := by
  unfold addS
  split
  · rename_i hx
    constructor
    · exact .inl
    · rintro (h | rfl)
      · exact h
      · exact hasS_iff.1 hx
  · simp
theorem addS_len {l : List ByteArray} {x : ByteArray} : (addS l x).length ≤ l.length + 1 := by
  unfold addS; split <;> simp
def actsT (n : Net) : Nat → List ByteArray
  | 0 => [ByteArray.empty]
  | k + 1 => addS (actsT n k) (gti n.trans k).label
def actsW (n : Net) (w : List ByteArray) : Nat → List ByteArray
  | 0 => actsT n n.trans.length
  | k + 1 => addS (actsW n w k) (gti w k)
theorem actsT_ok (n : Net) : ∀ k, (actsT n k).Nodup ∧ (actsT n k).length ≤ k + 1 ∧ ∀ i, i < k → (gti n.trans i).label ∈ actsT n k
  | 0 => by simp [actsT]
  | k + 1 => by
    obtain ⟨h1, h2, h3⟩ := actsT_ok n k
    refine ⟨addS_nodup h1, ?_, fun i hi => ?_⟩
    · have := addS_len (l := actsT n k) (x := (gti n.trans k).label)
      rw [actsT]; omega
    · rw [actsT, addS_mem]
      by_cases hik : i = k
      · right; rw [hik]
      · left; exact h3 i (by omega)
theorem actsW_ok (n : Net) (w : List ByteArray) : ∀ k, (actsW n w k).Nodup ∧ (actsW n w k).length ≤ n.trans.length + 1 + k ∧ (∀ i, i < n.trans.length → (gti n.trans i).label ∈ actsW n w k) ∧ ∀ i, i < k → gti w i ∈ actsW n w k
  | 0 => by
    obtain ⟨h1, h2, h3⟩ := actsT_ok n n.trans.length
    exact ⟨h1, by rw [actsW]; omega, h3, fun i hi => by omega⟩
  | k + 1 => by
    obtain ⟨h1, h2, h3, h4⟩ := actsW_ok n w k
    refine ⟨addS_nodup h1, ?_, fun i hi => ?_, fun i hi => ?_⟩
    · have := addS_len (l := actsW n w k) (x := gti w k)
      rw [actsW]; omega
    · rw [actsW, addS_mem]; left; exact h3 i hi
    · rw [actsW, addS_mem]
      by_cases hik : i = k
      · right; rw [hik]
      · left; exact h4 i (by omega)
end Go.Proofs.Ytamhbmaimiifmaa
