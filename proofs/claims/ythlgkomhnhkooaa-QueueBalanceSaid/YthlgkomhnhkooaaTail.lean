/-
  A region that draws its order and whose last operation waits for all others: the others in whatever order, then the last. Conditions: none.
-/
import Derived.Test.YthlgkomhnhkooaaBase
namespace Go.Proofs.Ythlgkomhnhkooaa
set_option linter.unusedSimpArgs false
set_option linter.unusedVariables false
open Go.RowKit

section
variable {P : Program} {pre : List Oper} {last : Oper} {Q : Exit → Act → World → Prop} {S : World → Prop}

/-- the last operation waits for each of the others; each of the others waits for earlier ones alone, and is guarded by none but these -/
def lastB (pre : List Oper) (last : Oper) : Bool :=
  (List.range pre.length).all (fun i => last.after.any fun e => Region.binds .any e && e.on == i) &&
  (List.range pre.length).all (fun i => match pre[i]? with
    | none => true
    | some o => (o.after.all fun e => !Region.binds .any e || decide (e.on < i)) && (match o.guard with | none => true | some (j, _) => decide (j < pre.length))) &&
  last.guard.isNone && last.after.all (fun e => !Region.binds .any e || decide (e.on < pre.length))

structure LastOk (pre : List Oper) (last : Oper) : Prop where
  waits : ∀ i, i < pre.length → ∃ e ∈ last.after, Region.binds .any e = true ∧ e.on = i
  early : ∀ (i : Nat) (o : Oper), pre[i]? = some o → ∀ e ∈ o.after, Region.binds .any e = true → e.on < i
  guards : ∀ (i : Nat) (o : Oper), pre[i]? = some o → ∀ (j : Nat) (b : Bool), o.guard = some (j, b) → j < pre.length
  free : last.guard = none
  on : ∀ e ∈ last.after, Region.binds .any e = true → e.on < pre.length

theorem lastOk_of (h : lastB pre last = true) : LastOk pre last := by
  unfold lastB at h
  simp only [Bool.and_eq_true, List.all_eq_true, List.mem_range, Array.any_eq_true', beq_iff_eq] at h
  obtain ⟨⟨⟨h1, h2⟩, h3⟩, h4⟩ := h
  refine ⟨fun i hi => ?_, fun i o ho e he hb => ?_, fun i o ho j b hj => ?_, by simpa using h3, fun e he hb => ?_⟩
  · obtain ⟨e, he, hb, ho⟩ := h1 i hi
    exact ⟨e, he, hb, ho⟩
  · have hi : i < pre.length := (List.getElem?_eq_some_iff.1 ho).1
    have := h2 i hi
    rw [ho] at this
    simp only [Bool.and_eq_true, Array.all_eq_true', Bool.or_eq_true, Bool.not_eq_true', decide_eq_true_eq] at this
    rcases this.1 e he with h | h
    · rw [hb] at h; cases h
    · exact h
  · have hi : i < pre.length := (List.getElem?_eq_some_iff.1 ho).1
    have := h2 i hi
    rw [ho] at this
    simp only [Bool.and_eq_true] at this
    have h5 := this.2
    rw [hj] at h5
    simpa using h5
  · simp only [Array.all_eq_true', Bool.or_eq_true, Bool.not_eq_true', decide_eq_true_eq] at h4
    rcases h4 e he with h | h
    · rw [hb] at h; cases h
    · exact h

theorem get_pre {i : Nat} (hi : i < pre.length) : (pre ++ [last]).toArray[i]? = pre.toArray[i]? := by simp [List.getElem?_append_left hi]
theorem get_last : (pre ++ [last]).toArray[pre.length]? = some last := by simp

theorem yielded_pre {tmps : Array Value} {j : Nat} (hj : j < pre.length) : yielded (pre ++ [last]).toArray tmps j = yielded pre.toArray tmps j := by
  unfold yielded
  rw [get_pre hj]
theorem wanted_pre (ok : LastOk pre last) {i : Nat} {o : Oper} (ho : pre[i]? = some o) (tmps : Array Value) : Region.wanted o (yielded (pre ++ [last]).toArray tmps) = Region.wanted o (yielded pre.toArray tmps) := by
  unfold Region.wanted
  cases hg : o.guard with
  | none => rfl
  | some jb =>
    obtain ⟨j, b⟩ := jb
    simp only
    rw [yielded_pre (ok.guards i o ho j b hg)]

/-- the state of affairs once the others are through -/
def thenLast (P : Program) (pre : List Oper) (last : Oper) (Q : Exit → Act → World → Prop) : Exit → Act → World → Prop :=
  Exit.then (fun a w => wpList P (pre ++ [last]).toArray Q [last] a w) Q

theorem upon_then {o : Oper} {a : Act} {K : Act → World → Prop} {r : Result Next} {N : Act → World → Prop} (h : o.upon P a K (Exit.then N Q) r) : o.upon P a K Q r := by
  cases r with
  | ok n w =>
    cases n <;> simp only [Oper.upon] at h ⊢ <;>
      first
        | exact h
        | exact Calls.mono h (fun e w'' he => by cases e <;> exact he)
  | halt x w => cases x <;> simp only [Oper.upon] at h ⊢ <;> exact h

theorem op_then (ok : LastOk pre last) {i : Nat} (hi : i < pre.length) {K K' : Act → World → Prop} {a : Act} {w : World} (hK : ∀ a w, K a w → K' a w)
    (h : wpOp P pre.toArray (thenLast P pre last Q) i K a w) : wpOp P (pre ++ [last]).toArray Q i K' a w := by
  refine wpOp_mono hK ?_
  unfold wpOp at h ⊢
  rw [get_pre hi]
  obtain ⟨o, ho⟩ : ∃ o, pre[i]? = some o := ⟨_, List.getElem?_eq_getElem hi⟩
  simp only [List.getElem?_toArray, ho] at h ⊢
  rw [wanted_pre ok ho]
  split
  · rename_i hw
    rw [if_pos hw] at h
    rcases h with h | ⟨h1, h2⟩
    · exact .inl (upon_then h)
    · exact .inr ⟨h1, h2⟩
  · rename_i hw
    rw [if_neg hw] at h
    exact h

theorem last_any (ok : LastOk pre last) : ∀ (fuel : Nat) (L : Array Bool) (a : Act) (w : World), L.size = pre.length →
    wpAny P .any pre.toArray (thenLast P pre last Q) fuel L a w → wpAny P .any (pre ++ [last]).toArray Q (fuel + 1) (L.push false) a w := by
  -- who may come up: as before; the last one, once all have come up
  have hready : ∀ (L : Array Bool), L.size = pre.length → ∀ i, i ∈ Region.ready .any (pre ++ [last]).toArray (L.push false) → (i < pre.length ∧ i ∈ Region.ready .any pre.toArray L) ∨ (i = pre.length ∧ ∀ j, j < pre.length → L.getD j false = true) := by
    intro L hL i hi
    obtain ⟨h1, o, ho, hall⟩ := mem_ready.1 hi
    have hlt : i < pre.length + 1 := by
      have := (Array.getElem?_eq_some_iff.1 ho).1
      simpa using this
    rcases Nat.lt_or_eq_of_le (Nat.le_of_lt_succ hlt) with h2 | h2
    · left
      refine ⟨h2, mem_ready.2 ⟨?_, o, by rw [get_pre h2] at ho; exact ho, fun e he hb => ?_⟩⟩
      · simpa [Array.getD_eq_getD_getElem?, Array.getElem?_push, hL, Nat.ne_of_lt h2] using h1
      · have hon := ok.early i o (by rw [get_pre h2] at ho; simpa using ho) e he hb
        have := hall e he hb
        simpa [Array.getD_eq_getD_getElem?, Array.getElem?_push, hL, Nat.ne_of_lt (Nat.lt_trans hon h2)] using this
    · right
      refine ⟨h2, fun j hj => ?_⟩
      subst h2
      rw [get_last] at ho
      injection ho with ho
      subst ho
      obtain ⟨e, he, hb, rfl⟩ := ok.waits j hj
      have := hall e he hb
      simpa [Array.getD_eq_getD_getElem?, Array.getElem?_push, hL, Nat.ne_of_lt hj] using this
  have hsome : ∀ (L : Array Bool), L.size = pre.length → Region.ready .any (pre ++ [last]).toArray (L.push false) ≠ [] := by
    intro L hL he
    -- the least that has not come up is ready
    have key : ∀ i, i ≤ pre.length → ∀ j, j < i → L.getD j false = true := by
      intro i
      induction i with
      | zero => intro _ j hj; omega
      | succ i ih =>
        intro hi j hj
        rcases Nat.lt_or_eq_of_le (Nat.le_of_lt_succ hj) with h1 | h1
        · exact ih (by omega) j h1
        · subst h1
          cases hc : L.getD j false with
          | true => rfl
          | false =>
            exfalso
            have hj' : j < pre.length := by omega
            obtain ⟨o, ho⟩ : ∃ o, pre[j]? = some o := ⟨_, List.getElem?_eq_getElem hj'⟩
            have hm : j ∈ Region.ready .any (pre ++ [last]).toArray (L.push false) := by
              refine mem_ready.2 ⟨?_, o, by rw [get_pre hj']; simpa using ho, fun e he hb => ?_⟩
              · have hlt : j < L.size := by omega
                simp [Array.getD_eq_getD_getElem?, hlt] at hc ⊢
                simp [Array.getElem?_push, Nat.ne_of_lt hlt, hlt, hc]
              · have hon := ok.early j o ho e he hb
                have := ih (by omega) e.on hon
                simpa [Array.getD_eq_getD_getElem?, Array.getElem?_push, hL, Nat.ne_of_lt (Nat.lt_trans hon hj')] using this
            rw [he] at hm
            cases hm
    have hm : pre.length ∈ Region.ready .any (pre ++ [last]).toArray (L.push false) := by
      refine mem_ready.2 ⟨?_, last, get_last, fun e he hb => ?_⟩
      · rw [Array.getD_eq_getD_getElem?, ← hL, Array.getElem?_push_size]; rfl
      · have hon := ok.on e he hb
        have := key pre.length (Nat.le_refl _) e.on hon
        simpa [Array.getD_eq_getD_getElem?, Array.getElem?_push, hL, Nat.ne_of_lt hon] using this
    rw [he] at hm
    cases hm
  -- the last one
  have hlast : ∀ (fuel : Nat) (L : Array Bool) (a : Act) (w : World), L.size = pre.length → (∀ j, j < pre.length → L.getD j false = true) → thenLast P pre last Q .normal a w →
      wpOp P (pre ++ [last]).toArray Q pre.length (wpAny P .any (pre ++ [last]).toArray Q fuel ((L.push false).setIfInBounds pre.length true)) a w := by
    intro fuel L a w hL hall h
    have hdone : Region.ready .any (pre ++ [last]).toArray ((L.push false).setIfInBounds pre.length true) = [] := by
      rw [List.eq_nil_iff_forall_not_mem]
      intro i hi
      obtain ⟨h1, o, ho, _⟩ := mem_ready.1 hi
      have hlt : i < pre.length + 1 := by
        have := (Array.getElem?_eq_some_iff.1 ho).1
        simpa using this
      rcases Nat.lt_or_eq_of_le (Nat.le_of_lt_succ hlt) with h2 | h2
      · have h3 := hall i h2
        have hlt' : i < L.size := by omega
        rw [Array.getD_eq_getD_getElem?, Array.getElem?_eq_getElem hlt'] at h3
        rw [Array.getD_eq_getD_getElem?, Array.getElem?_setIfInBounds, if_neg (by omega), Array.getElem?_push, if_neg (by omega), Array.getElem?_eq_getElem hlt'] at h1
        simp only [Option.getD_some] at h1 h3
        rw [h3] at h1
        cases h1
      · subst h2
        simp [Array.getD_eq_getD_getElem?, Array.getElem?_setIfInBounds, hL] at h1
    have hK : ∀ a w, Q .normal a w → wpAny P .any (pre ++ [last]).toArray Q fuel ((L.push false).setIfInBounds pre.length true) a w := by
      intro a w hq
      cases fuel with
      | zero => exact ⟨hdone, hq⟩
      | succ fuel => exact ⟨fun _ => hq, by rw [hdone]; simp⟩
    refine wpOp_mono hK ?_
    unfold wpOp
    rw [get_last]
    exact h
  intro fuel
  induction fuel with
  | zero =>
    intro L a w hL h
    refine ⟨fun he => absurd he (hsome L hL), fun i hi => ?_⟩
    rcases hready L hL i hi with ⟨_, h2⟩ | ⟨rfl, h2⟩
    · rw [h.1] at h2; cases h2
    · exact hlast 0 L a w hL h2 h.2
  | succ fuel ih =>
    intro L a w hL h
    refine ⟨fun he => absurd he (hsome L hL), fun i hi => ?_⟩
    rcases hready L hL i hi with ⟨h1, h2⟩ | ⟨rfl, h2⟩
    · refine op_then ok h1 (fun a' w' h' => ?_) (h.2 i h2)
      have := ih (L.setIfInBounds i true) a' w' (by simpa using hL) h'
      rwa [show (L.push false).setIfInBounds i true = (L.setIfInBounds i true).push false from by
        apply Array.ext_getElem?
        intro j
        simp only [Array.getElem?_setIfInBounds, Array.getElem?_push, Array.size_push, Array.size_setIfInBounds]
        by_cases h3 : i = j
        · subst h3
          rw [if_pos rfl, if_pos (by omega), if_neg (by omega), if_pos rfl, if_pos (by omega)]
        · rw [if_neg h3, if_neg h3]]
    · refine hlast (fuel + 1) L a w hL h2 (h.1 ?_)
      rw [List.eq_nil_iff_forall_not_mem]
      intro j hj
      obtain ⟨h3, o, ho, _⟩ := mem_ready.1 hj
      have hlt : j < pre.length := by
        have := (Array.getElem?_eq_some_iff.1 ho).1
        simpa using this
      have h4 := h2 j hlt
      have hlt' : j < L.size := by omega
      simp [Array.getD_eq_getD_getElem?, hlt'] at h3 h4
      rw [h4] at h3
      cases h3

/-- the others in whatever order, S kept; then the last one -/
theorem wp_region_last {id : Nat} {a : Act} {w : World} (hm : P.follows .mixedOrders = true) (hk : lastB pre last = true)
    (h : wpAnyH P .any pre.toArray (thenLast P pre last Q) S pre.length (Array.replicate pre.length false) a w.drew) : (Code.region id (pre ++ [last]).toArray true).wp P Q a w := by
  refine wp_region_any hm ?_
  have := last_any (lastOk_of hk) pre.length (Array.replicate pre.length false) a w.drew (by simp) (wpAny_of_held _ _ _ _ h)
  simpa [Array.replicate_succ] using this

theorem wp_region_tail {id : Nat} {l : List Oper} {a : Act} {w : World} (hm : P.follows .mixedOrders = true) (hl : l.dropLast ++ [last] = l) (hk : lastB l.dropLast last = true) (hS : S w.drew)
    (h : S w.drew → wpAnyH P .any l.dropLast.toArray (thenLast P l.dropLast last Q) S l.dropLast.length (Array.replicate l.dropLast.length false) a w.drew) : (Code.region id l.toArray true).wp P Q a w := by
  have := wp_region_last (id := id) hm hk (h hS)
  rwa [hl] at this

end
end Go.Proofs.Ythlgkomhnhkooaa
