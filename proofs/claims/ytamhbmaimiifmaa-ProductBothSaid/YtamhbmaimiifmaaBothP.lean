/-
  A run that is built move by move: plain. Conditions: none.
-/
import Derived.Test.YtamhbmaimiifmaaPossQ
import Derived.Test.YtamhbmaimiifmaaRun
namespace Go.Proofs.Ytamhbmaimiifmaa
set_option linter.unusedSimpArgs false
set_option linter.unusedVariables false
open Go.RowKit

theorem runA_snoc {n : Net} {w : List ByteArray} {x : Stp} : ∀ {l : List Stp} {s t : List Int}, runA n w s l = some t → (applyE n w t x).2 = 0 → runA n w s (l ++ [x]) = some (applyE n w t x).1
  | [], s, t, h, ha => by
    simp only [runA, Option.some.injEq] at h
    subst h
    simp only [List.nil_append, runA, if_pos ha]
  | m :: ms, s, t, h, ha => by
    rw [runA] at h
    split at h
    · rename_i h0
      rw [List.cons_append, runA, if_pos h0]
      exact runA_snoc h ha
    · cases h
theorem costAt_app {c : Cst} (l : List Stp) (x : Stp) : ∀ k, k ≤ l.length → costAt c (l ++ [x]) k = costAt c l k
  | 0, _ => rfl
  | k + 1, h => by
    rw [costAt, costAt, costAt_app l x k (by omega)]
    congr 3
    unfold gti
    rw [List.getElem?_append_left (by omega)]
theorem costAt_snoc {c : Cst} (l : List Stp) (x : Stp) : costAt c (l ++ [x]) (l ++ [x]).length = costAt c l l.length + priceE c x.kind := by
  rw [List.length_append, List.length_singleton, costAt, costAt_app l x _ (Nat.le_refl _)]
  congr 3
  unfold gti
  simp
/-- moves that lead from the start to the place p of the word and the marking m, with their cost -/
structure BI (n : Net) (w : List ByteArray) (c : Cst) (p : Int) (m : List Int) (l : List Stp) (k : Int) : Prop where
  run : runA n w (startS n) l = some (p :: m)
  mark : markB n m = true
  kinds : ∀ x ∈ l, kindB x.kind = true
  cost : costAt c l l.length = k
theorem BI.start {n : Net} {w : List ByteArray} {c : Cst} (hv : validB n = true) : BI n w c 0 (oneL n.places.toNat n.source) [] 0 := by
  refine ⟨rfl, ?_, (fun x hx => absurd hx (by simp)), rfl⟩
  rw [markB, hv, oneL_mark _ (validB_places hv).1]
  rfl
theorem BI.add {n : Net} {w : List ByteArray} {c : Cst} {p q : Int} {m m' : List Int} {l : List Stp} {k : Int} {x : Stp} (h : BI n w c p m l k) (hk : kindB x.kind = true) (ha : applyE n w (p :: m) x = (q :: m', 0)) (hm : markB n m' = true) :
    BI n w c q m' (l ++ [x]) (k + priceE c x.kind) := by
  refine ⟨?_, hm, ?_, ?_⟩
  · rw [runA_snoc h.run (by rw [ha]), ha]
  · intro y hy
    rcases List.mem_append.1 hy with hy | hy
    · exact h.kinds y hy
    · rw [List.mem_singleton.1 hy]; exact hk
  · rw [costAt_snoc, h.cost]
theorem word_at {w : List ByteArray} (h : wordB w = true) {k : Nat} (hk : k < w.length) : nameB (gti w k) = true := by
  unfold wordB at h
  simp only [Bool.and_eq_true, List.all_eq_true] at h
  exact h.2 _ (gti_mem hk)
theorem BI.log {n : Net} {w : List ByteArray} {c : Cst} {p : Nat} {m : List Int} {l : List Stp} {k : Int} (h : BI n w c p m l k) (hw : wordB w = true) (hp : p < w.length) :
    BI n w c ((p + 1 : Nat) : Int) m (l ++ [⟨2, -1, gti w p⟩]) (k + c.log) := by
  have := h.add (x := ⟨2, -1, gti w p⟩) (q := ((p + 1 : Nat) : Int)) (m' := m) rfl ?_ h.mark
  · exact this
  · unfold applyE
    have ha : atB w (gti ((p : Int) :: m) 0) (gti w p) = true := by
      rw [gti_cons0, atB]
      simp [hp]
    rw [if_pos rfl, if_neg (by simp), if_neg (by rw [word_at hw hp]; simp), if_neg (by rw [ha]; simp), gti_cons0]
    simp
/-- the move of the model with a transition -/
def modS (n : Net) (t : Int) : Stp := ⟨if (gti n.trans t.toNat).label.toList.isEmpty then 4 else 3, t, (gti n.trans t.toNat).label⟩
theorem BI.fire {n : Net} {w : List ByteArray} {c : Cst} {p : Int} {m m' : List Int} {l : List Stp} {k t : Int} (h : BI n w c p m l k) (h0 : 0 ≤ t) (h1 : t < n.trans.length) (hf : FireE n m t = (m', 0)) :
    BI n w c p m' (l ++ [modS n t]) (k + priceE c (modS n t).kind) := by
  refine h.add ?_ ?_ ?_
  · unfold modS; simp only; split <;> decide
  · unfold applyE modS
    simp only
    obtain ⟨z, hz⟩ : ∃ z, (gti n.trans t.toNat).label.toList.isEmpty = z := ⟨_, rfl⟩
    rw [hz]
    have hd : List.drop 1 (p :: m) = m := rfl
    cases z
    · simp only [Bool.false_eq_true, if_false]
      rw [if_neg (by decide), if_neg (by omega), if_neg (by simp), if_neg (by simp), hd, hf, if_neg (by simp), if_neg (by decide), gti_cons0]
    · simp only [if_true]
      rw [if_neg (by decide), if_neg (by omega), if_neg (by simp), if_neg (by simp), hd, hf, if_neg (by simp), if_neg (by decide), gti_cons0]
  · have := FireE_mark (n := n) (m := m) (t := t) (by rw [hf])
    rwa [hf] at this
theorem enabledL_mem {m : List Int} {t : Int} : ∀ {ts : List Tr} {i : Nat}, t ∈ enabledL m i ts → ∃ j : Nat, t = ((i + j : Nat) : Int) ∧ j < ts.length ∧ enB (gti ts j) m = true
  | [], i, h => by cases h
  | x :: ts, i, h => by
    rw [enabledL] at h
    have step : t ∈ enabledL m (i + 1) ts → ∃ j : Nat, t = ((i + j : Nat) : Int) ∧ j < (x :: ts).length ∧ enB (gti (x :: ts) j) m = true := by
      intro h
      obtain ⟨j, e, hj, he⟩ := enabledL_mem h
      refine ⟨j + 1, by rw [e]; congr 1; omega, by simp; omega, by rw [gti_cons]; exact he⟩
    split at h
    · rename_i hx
      rcases List.mem_cons.1 h with h | h
      · exact ⟨0, by simpa using h, by simp, by rw [gti_cons0]; exact hx⟩
      · exact step h
    · exact step h
theorem enabled_fire {n : Net} {m : List Int} {t : Int} (hm : markB n m = true) (h : t ∈ enabledL m 0 n.trans) : 0 ≤ t ∧ t < n.trans.length ∧ ((FireE n m t).2 = 0 ∨ (FireE n m t).2 = 5) := by
  obtain ⟨j, rfl, hj, he⟩ := enabledL_mem h
  simp only [Nat.zero_add]
  refine ⟨by omega, by omega, ?_⟩
  rw [FireE, hm, if_pos rfl, fireE, if_neg (by omega), if_pos (by simpa using he)]
  split
  · exact Or.inr rfl
  · exact Or.inl rfl
theorem BI.check {n : Net} {w : List ByteArray} {c : Cst} {m : List Int} {l : List Stp} {k : Int} (h : BI n w c (w.length : Int) m l k) (hv : validB n = true) (hw : wordB w = true) (hc : vcB c = true) (hl : l.length ≤ 4000) :
    checkB n w c l k = decide (m = oneL n.places.toNat n.sink) := by
  unfold checkB
  rw [hv, hw, hc, h.run, endB, endS, h.cost]
  have : fineB l = true := by
    unfold fineB
    simp only [Bool.and_eq_true, List.all_eq_true, decide_eq_true_eq]
    exact ⟨hl, h.kinds⟩
  rw [this]
  simp
/-- what is left to go -/
theorem runA_step {n : Net} {w : List ByteArray} {s t : List Int} {l : List Stp} {k : Nat} (hk : k < l.length) (h : runA n w s (l.drop k) = some t) :
    (applyE n w s (gti l k)).2 = 0 ∧ runA n w (applyE n w s (gti l k)).1 (l.drop (k + 1)) = some t := by
  have e : l.drop k = gti l k :: l.drop (k + 1) := by
    rw [List.drop_eq_getElem_cons hk]
    congr 1
    unfold gti
    rw [List.getElem?_eq_getElem hk]
    rfl
  rw [e, runA] at h
  split at h
  · exact ⟨by assumption, h⟩
  · cases h
theorem BI.cost_bd {n : Net} {w : List ByteArray} {c : Cst} {p : Int} {m : List Int} {l : List Stp} {k : Int} (h : BI n w c p m l k) (hc : vcB c = true) : 0 ≤ k ∧ k ≤ 1000 * l.length := by
  have := costAt_bd hc l l.length
  rw [h.cost] at this
  exact this
/-- the word's moves in the log -/
def logsW (w : List ByteArray) : Nat → List Stp
  | 0 => []
  | k + 1 => logsW w k ++ [⟨2, -1, gti w k⟩]
theorem logsW_len (w : List ByteArray) : ∀ k, (logsW w k).length = k
  | 0 => rfl
  | k + 1 => by rw [logsW, List.length_append, logsW_len w k]; rfl
theorem BI.logs {n : Net} {w : List ByteArray} {c : Cst} (hv : validB n = true) (hw : wordB w = true) : ∀ k : Nat, k ≤ w.length → BI n w c (k : Int) (oneL n.places.toNat n.source) (logsW w k) (k * c.log)
  | 0, _ => by simpa [logsW] using BI.start (w := w) (c := c) hv
  | k + 1, h => by
    have := (BI.logs (c := c) hv hw k (by omega)).log hw (by omega)
    rw [logsW, show (((k + 1 : Nat) : Int) * c.log) = k * c.log + c.log by rw [Int.natCast_add, Int.add_mul]; simp]
    exact this
end Go.Proofs.Ytamhbmaimiifmaa
