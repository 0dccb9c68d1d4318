/-
  Texts joined: AwT, AwQ. Conditions: none.
-/
import Derived.Test.YtmhbfoaecebobaaJF10
import Derived.Test.YtmhbfoaecebobaaJF11
section
namespace Go.Proofs.Ytmhbfoaecebobaa.Aw
set_option linter.unusedSimpArgs false
set_option linter.unusedVariables false
open Go Go.Proofs Go.RowKit
/-- nil in a struct of the call's own, as an empty finished slice -/
theorem wk_nilC {N : Nat} {F : Frm} {σ : List Ob} {id sz : Nat} {e e' : AV} {pre post : List AV} (hs : σ[id]? = some (.row sz [e])) (h1 : e.cells = pre ++ .s (.slice none 0 0) :: post) (h2 : e'.cells = pre ++ .sl [] :: post) :
    Weak N F σ F (σ.set id (.row sz [e'])) := fun G a h => by
  refine ⟨G, rfl, .refl G, ?_, h.fr, h.df, h.nt⟩
  refine reread_rel h.rel hs (fun h => by cases h) ?_
  rintro b f ⟨cur, t, fr, g1, g2, g3, g4⟩
  refine ⟨cur, t, fr, g1, g2, g3, fun k y hy => ?_⟩
  cases k with
  | succ k => simp at hy
  | zero =>
    simp at hy
    subst hy
    obtain ⟨k1, k2, k3⟩ := g4 0 e rfl
    rw [h1] at k1 k2 k3
    rw [h2]
    refine ⟨by simpa using k1, fun c hc => ?_, fun j c hc => ?_⟩
    · simp only [List.mem_append, List.mem_cons] at hc
      rcases hc with hc | rfl | hc
      · exact k2 c (by simp [hc])
      · rfl
      · exact k2 c (by simp [hc])
    · by_cases hj : j = pre.length
      · subst hj
        simp at hc
        subst hc
        obtain ⟨v, h6, h7⟩ := k3 pre.length (.s (.slice none 0 0)) (by simp)
        exact ⟨v, h6, rep_nil h7⟩
      · have e : (pre ++ AV.s (.slice none 0 0) :: post)[j]? = some c := by
          rw [← hc]
          by_cases hlt : j < pre.length
          · rw [List.getElem?_append_left hlt, List.getElem?_append_left hlt]
          · rw [List.getElem?_append_right (by omega), List.getElem?_append_right (by omega)]
            obtain ⟨i, hi⟩ : ∃ i, j - pre.length = i + 1 := ⟨j - pre.length - 1, by omega⟩
            rw [hi]; rfl
        exact k3 j c e
end Go.Proofs.Ytmhbfoaecebobaa.Aw
end
section
namespace Go.Proofs.Ytmhbfoaecebobaa.Aw
set_option linter.unusedSimpArgs false
set_option linter.unusedVariables false
open Go.RowKit
section
variable {P : Program} {N : Nat} {l : List Oper} {F F1 : Frm} {σ σ1 : List Ob} {Q : Exit → Frm → List Ob → Prop}
end
end Go.Proofs.Ytmhbfoaecebobaa.Aw
end
