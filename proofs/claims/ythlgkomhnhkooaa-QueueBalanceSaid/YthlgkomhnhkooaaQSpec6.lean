/-
  Plain mathematics of the queue's chain, as the reference computes it: one row of the probabilities of leaving. No program in sight. Conditions: none.
-/
import Derived.Test.YthlgkomhnhkooaaQSpec5
namespace Go.Proofs.Ythlgkomhnhkooaa
set_option linter.unusedSimpArgs false
set_option linter.unusedVariables false

/-- row j of the probabilities of leaving -/
def lrow (stay serve : Fr) : Nat → Option (List Fr)
  | 0 => some [oneF]
  | j + 1 => (lrow stay serve j).bind fun l => rowS l stay serve (j + 2)
theorem leaveS_lrow {stay serve : Fr} : ∀ {j : Nat} {ll : List (List Fr)}, leaveS stay serve j = some ll → ll.length = j + 1 ∧ ∀ i, i ≤ j → lrow stay serve i = some ((ll[i]?).getD [])
  | 0, ll, h => by
    simp [leaveS] at h; subst h
    refine ⟨rfl, fun i hi => ?_⟩
    obtain rfl : i = 0 := by omega
    rfl
  | j + 1, ll, h => by
    unfold leaveS at h
    cases hr : leaveS stay serve j with
    | none => rw [hr] at h; cases h
    | some r =>
      rw [hr] at h
      have ⟨g1, g2⟩ := leaveS_lrow hr
      cases hc : rowS ((r[j]?).getD []) stay serve (j + 2) with
      | none => simp [hc] at h
      | some c =>
        simp [hc] at h; subst h
        refine ⟨by simp [g1], fun i hi => ?_⟩
        rcases Nat.lt_or_ge i (j + 1) with h1 | h1
        · rw [List.getElem?_append_left (by omega)]
          exact g2 i (by omega)
        · obtain rfl : i = j + 1 := by omega
          rw [List.getElem?_append_right (by omega)]
          simp [g1]
          unfold lrow
          rw [g2 j (by omega)]
          exact hc
theorem leaveS_lrow_none {stay serve : Fr} : ∀ {j : Nat}, leaveS stay serve j = none → lrow stay serve j = none
  | 0, h => by simp [leaveS] at h
  | j + 1, h => by
    unfold leaveS at h
    unfold lrow
    cases hr : leaveS stay serve j with
    | none => rw [leaveS_lrow_none hr]; rfl
    | some r =>
      rw [hr] at h
      rw [(leaveS_lrow hr).2 j (by omega)]
      cases hc : rowS ((r[j]?).getD []) stay serve (j + 2) with
      | none => exact hc
      | some c => simp [hc] at h
def lrowQ (serve : Fr) (j : Nat) : Option (List Fr) := (fsub oneF serve).bind fun stay => lrow stay serve j
theorem leaveQ_some {se : Fr} {sv : Nat} {b : List (List Fr)} (h : leaveQ se sv = some b) : ∀ i, i ≤ sv → lrowQ se i = some ((b[i]?).getD []) := by
  unfold leaveQ at h
  cases hs : fsub oneF se with
  | none => rw [hs] at h; cases h
  | some st =>
    rw [hs] at h
    intro i hi
    unfold lrowQ
    rw [hs]
    exact (leaveS_lrow h).2 i hi
theorem leaveQ_none {se : Fr} {sv : Nat} (h : leaveQ se sv = none) : lrowQ se sv = none := by
  unfold leaveQ at h
  unfold lrowQ
  cases hs : fsub oneF se with
  | none => rfl
  | some st =>
    rw [hs] at h
    exact leaveS_lrow_none h

end Go.Proofs.Ythlgkomhnhkooaa
