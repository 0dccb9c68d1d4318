/-
  A map from strings to booleans that the call makes, as the set of the keys that were stored with true. Conditions: none.
-/
import Derived.Test.YtmhbfoaecebobaaKey2
import Derived.Maps.Own
import Derived.Maps.Views
namespace Go.Proofs.Ytmhbfoaecebobaa
set_option linter.unusedSimpArgs false
set_option linter.unusedVariables false
open Go.RowKit Go.Maps Go.WideMaps

theorem str_law : Keyed Try.prog 9 := string_keyed Try.underlying9
theorem zeroBo (w : World) : (zeroValue 4).run Try.prog w = .ok (.bool false) w := by kernel_rfl
/-- block b is a map in which the keys of a list are true, and no others -/
def SetAt (w : World) (b : Nat) (ks : List (List UInt8)) : Prop :=
  ∃ D : DataW Unit, w.ownsMap Try.prog 9 (plainElem Try.prog 4) b ks.length D ∧ ∀ l : List UInt8, D.atKey (.string l) (.lit (.bool false)) = .lit (.bool (decide (l ∈ ks)))
theorem SetAt.made (w : World) : SetAt (w.alloc (.map #[] 0)) w.heap.size [] :=
  ⟨.map [], World.ownsMap_made w _ _ _, fun l => by simp [DataW.atKey]⟩
set_option maxRecDepth 100000 in
theorem plainElem_bool_inv {v : Value} {x : Bool} {ps : List MemPlace} (h : plainElem (H := Unit) Try.prog 4 v = some (.lit (.bool x), ps)) : v = .bool x := by
  unfold plainElem at h
  rw [Try.underlying4] at h
  split at h
  · simp at h; simp_all
  · simp_all
  · simp_all
  · cases h
set_option maxRecDepth 100000 in
theorem SetAt.look {w : World} {b : Nat} {ks : List (List UInt8)} (h : SetAt w b ks) (l : List UInt8) (hl : l.length ≤ 1000000) :
    (Instr.lookup 90 (.map (some b)) (.string ⟨l.toArray⟩) false).run Try.prog w = .ok (.bool (decide (l ∈ ks))) w := by
  obtain ⟨D, ho, hD⟩ := h
  obtain ⟨v, ps, hrun, hv⟩ := ho.lookup str_law Try.underlying90 (zeroBo w) (plainElem_bool Try.underlying4 false) (key := .string ⟨l.toArray⟩) (keyOf_string_mk Try.underlying9 (by simp [ByteArray.size, maxLen]; omega))
  simp only [] at hv
  rw [hD] at hv
  rw [plainElem_bool_inv hv] at hrun
  exact hrun
theorem ownsMap_isMap {w : World} {b n : Nat} {D : DataW Unit} (h : w.ownsMap Try.prog 9 (plainElem Try.prog 4) b n D) : IsMap D := by
  obtain ⟨es, clock, _, _, _, rfl⟩ := h
  exact ⟨_, rfl⟩
set_option maxRecDepth 100000 in
theorem SetAt.put {w : World} {b : Nat} {ks : List (List UInt8)} (h : SetAt w b ks) (l : List UInt8) (hl : l.length ≤ 1000000) (hk : ks.length ≤ 1000000) :
    ∃ w', (Instr.mapUpdate 90 (.map (some b)) (.string ⟨l.toArray⟩) (.bool true)).run Try.prog w = .ok () w' ∧ SetAt w' b (l :: ks) ∧ w.grownBy w' (some b) := by
  obtain ⟨D, ho, hD⟩ := h
  obtain ⟨w', hrun, h2, h3⟩ := ho.update str_law Try.underlying90 (by unfold maxLen; omega) (key := .string ⟨l.toArray⟩) (keyOf_string_mk Try.underlying9 (by simp [ByteArray.size, maxLen]; omega)) (plainElem_bool Try.underlying4 true)
  refine ⟨w', hrun, ⟨_, h2, fun l' => ?_⟩, h3⟩
  by_cases e : l' = l
  · subst e
    rw [atKey_put_same (ownsMap_isMap ho) (by first | trivial | simp [WideAt.IsKeyLit])]
    simp
  · rw [atKey_put_other (by intro h; injection h with h; exact e h), hD]
    simp [e]
end Go.Proofs.Ytmhbfoaecebobaa
