/-
  Workflow nets: what is on a path from a place, and a marking of lists that finds it: plain. Conditions: none.
-/
import Derived.Test.YtmhbfoaecebobaaValid2
namespace Go.Proofs.Ytmhbfoaecebobaa
set_option linter.unusedSimpArgs false
set_option linter.unusedVariables false
open Go.RowKit

def insB (back : Bool) (t : Tr) : List Int := if back then t.out else t.inn
def outsB (back : Bool) (t : Tr) : List Int := if back then t.inn else t.out
/-- the places on a path from a place -/
inductive Rch (n : Net) (back : Bool) (s : Int) : Int → Prop
  | start : Rch n back s s
  | step {i : Nat} {p q : Int} : i < n.trans.length → p ∈ insB back (gti n.trans i) → Rch n back s p → q ∈ outsB back (gti n.trans i) → Rch n back s q
def RchT (n : Net) (back : Bool) (s : Int) (i : Nat) : Prop := ∃ p ∈ insB back (gti n.trans i), Rch n back s p
def endOf (n : Net) (back : Bool) : Int := if back then n.sink else n.source
structure Wf (n : Net) : Prop where
  valid : validB n = true
  ne : n.source ≠ n.sink
  no : ∀ i, i < n.trans.length → n.source ∉ (gti n.trans i).out ∧ n.sink ∉ (gti n.trans i).inn
  places : ∀ back, ∀ p : Nat, p < n.places.toNat → Rch n back (endOf n back) p
  trans : ∀ back, ∀ i, i < n.trans.length → RchT n back (endOf n back) i
open Classical in
noncomputable def wfB (n : Net) : Bool := decide (Wf n)
open Classical in
theorem wfB_true {n : Net} (h : Wf n) : wfB n = true := by unfold wfB; exact decide_eq_true h
open Classical in
theorem wfB_false {n : Net} (h : ¬ Wf n) : wfB n = false := by unfold wfB; exact decide_eq_false h
open Classical in
theorem wfB_wf {n : Net} (h : wfB n = true) : Wf n := by unfold wfB at h; exact of_decide_eq_true h

/-- the places of a valid transition are places -/
theorem placesB_memW {n : Int} {l : List Int} (h : placesB n l = true) {p : Int} (hp : p ∈ l) : 0 ≤ p ∧ p < n := by
  unfold placesB at h
  simp only [List.all_eq_true, List.mem_range] at h
  obtain ⟨k, hk, rfl⟩ := List.getElem_of_mem hp
  have h2 := h k hk
  have this : ¬ badP n l k := by simpa using h2
  unfold badP at this
  have e : gti l k = l[k] := by unfold gti; rw [List.getElem?_eq_getElem hk]; rfl
  rw [e] at this
  omega
theorem validL_at {n : Net} : ∀ {l : List Tr} {i : Nat}, validL n l = true → i < l.length → trB n.places (gti l i) = true
  | [], i, _, h => by simp at h
  | t :: ts, i, hv, h => by
    rw [validL] at hv
    cases i with
    | zero => simp only [gti, List.getElem?_cons_zero, Option.getD_some]; revert hv; split <;> simp_all
    | succ i =>
      have h2 : validL n ts = true := by revert hv; split <;> simp_all
      have := validL_at h2 (i := i) (by simpa using h)
      simpa [gti] using this
def setB (pl : List Bool) : List Int → List Bool
  | [] => pl
  | q :: l => setB (pl.set q.toNat true) l
theorem setB_len : ∀ (l : List Int) (pl : List Bool), (setB pl l).length = pl.length
  | [], pl => rfl
  | q :: l, pl => by rw [setB, setB_len l]; simp
theorem gti_setB (pl : List Bool) (i j : Nat) (x : Bool) : gti (pl.set i x) j = if i = j ∧ j < pl.length then x else gti pl j := by
  unfold gti
  rw [List.getElem?_set]
  by_cases h : i = j
  · subst h
    by_cases h2 : i < pl.length
    · simp [h2]
    · simp [h2, List.getElem?_eq_none (Nat.le_of_not_lt h2)]
  · simp [h]
theorem gti_setB_all : ∀ (l : List Int) (pl : List Bool) (j : Nat), j < pl.length → (gti (setB pl l) j = true ↔ gti pl j = true ∨ ∃ q ∈ l, q.toNat = j)
  | [], pl, j, _ => by simp [setB]
  | q :: l, pl, j, h => by
    rw [setB, gti_setB_all l _ j (by simpa using h), gti_setB]
    by_cases hq : q.toNat = j
    · simp [hq, h]
    · simp [hq]
structure RI (n : Net) (back : Bool) (s : Int) (pl tl : List Bool) : Prop where
  lenp : pl.length = n.places.toNat
  lent : tl.length = n.trans.length
  start : gti pl s.toNat = true
  sp : ∀ p : Nat, p < pl.length → gti pl p = true → Rch n back s p
  st : ∀ i, i < tl.length → gti tl i = true → RchT n back s i ∧ ∀ q ∈ outsB back (gti n.trans i), gti pl q.toNat = true
/-- all places of all transitions are places -/
def Plc (n : Net) : Prop := ∀ i, i < n.trans.length → ∀ back, ∀ q ∈ insB back (gti n.trans i), 0 ≤ q ∧ q < n.places
theorem Plc.out {n : Net} (h : Plc n) {i : Nat} (hi : i < n.trans.length) (back : Bool) : ∀ q ∈ outsB back (gti n.trans i), 0 ≤ q ∧ q < n.places := by
  intro q hq
  refine h i hi (!back) q ?_
  cases back <;> exact hq
theorem Plc.of {n : Net} (h : validB n = true) : Plc n := by
  unfold validB at h
  split at h
  · cases h
  · intro i hi back q hq
    have := validL_at h hi
    unfold trB at this
    simp only [Bool.and_eq_true] at this
    cases back
    · exact placesB_memW this.1.2 hq
    · exact placesB_memW this.2 hq
theorem RI.init {n : Net} {back : Bool} {s : Int} (h0 : 0 ≤ s) (h1 : s < n.places) : RI n back s ((List.replicate n.places.toNat false).set s.toNat true) (List.replicate n.trans.length false) := by
  refine ⟨by simp, by simp, ?_, ?_, ?_⟩
  · rw [gti_setB, if_pos ⟨rfl, by simp; omega⟩]
  · intro p hp hg
    rw [gti_setB] at hg
    split at hg
    · rename_i h
      have : (p : Int) = s := by omega
      rw [this]
      exact .start
    · unfold gti at hg
      rw [List.getElem?_replicate] at hg
      split at hg <;> simp at hg
  · intro i hi hg
    unfold gti at hg
    rw [List.getElem?_replicate] at hg
    split at hg <;> simp at hg
theorem RI.add {n : Net} {back : Bool} {s : Int} {pl tl : List Bool} (h : RI n back s pl tl) (hp : Plc n) {i : Nat} (hi : i < n.trans.length) {p : Int} (hin : p ∈ insB back (gti n.trans i)) (hg : gti pl p.toNat = true) :
    RI n back s (setB pl (outsB back (gti n.trans i))) (tl.set i true) := by
  have hpb := hp i hi back p hin
  have hrp : Rch n back s p := by
    have := h.sp p.toNat (by rw [h.lenp]; omega) hg
    rwa [Int.toNat_of_nonneg hpb.1] at this
  have mono : ∀ j, gti pl j = true → gti (setB pl (outsB back (gti n.trans i))) j = true := by
    intro j hj
    by_cases hl : j < pl.length
    · rw [gti_setB_all _ _ _ hl]; exact .inl hj
    · unfold gti at hj
      rw [List.getElem?_eq_none (by omega)] at hj
      cases hj
  refine ⟨by rw [setB_len]; exact h.lenp, by simpa using h.lent, mono _ h.start, ?_, ?_⟩
  · intro j hj hgj
    rw [setB_len] at hj
    rw [gti_setB_all _ _ _ hj] at hgj
    rcases hgj with hgj | ⟨q, hq, rfl⟩
    · exact h.sp j hj hgj
    · rw [Int.toNat_of_nonneg (hp.out hi back q hq).1]
      exact .step hi hin hrp hq
  · intro j hj hgj
    rw [gti_setB] at hgj
    split at hgj
    · rename_i he
      obtain rfl := he.1
      refine ⟨⟨p, hin, hrp⟩, fun q hq => ?_⟩
      rw [gti_setB_all _ _ _ (by have := hp.out hi back q hq; rw [h.lenp]; omega)]
      exact .inr ⟨q, hq, rfl⟩
    · obtain ⟨h1, h2⟩ := h.st j (by simpa using hj) hgj
      exact ⟨h1, fun q hq => mono _ (h2 q hq)⟩
/-- what 'reached' returns -/
structure RF (n : Net) (back : Bool) (s : Int) (pl tl : List Bool) : Prop where
  lenp : pl.length = n.places.toNat
  lent : tl.length = n.trans.length
  p : ∀ p : Nat, p < n.places.toNat → (gti pl p = true ↔ Rch n back s p)
  t : ∀ i, i < n.trans.length → (gti tl i = true ↔ RchT n back s i)
theorem RI.done {n : Net} {back : Bool} {s : Int} {pl tl : List Bool} (h : RI n back s pl tl) (hp : Plc n) (h0 : 0 ≤ s) (h1 : s < n.places) (hc : ∀ i, i < n.trans.length → gti tl i = false → ∀ p ∈ insB back (gti n.trans i), gti pl p.toNat = false) : RF n back s pl tl := by
  have key : ∀ p, Rch n back s p → 0 ≤ p ∧ gti pl p.toNat = true := by
    intro p hr
    induction hr with
    | start => exact ⟨h0, h.start⟩
    | @step i p q hi hin _ hq ih =>
      refine ⟨(hp.out hi back q hq).1, ?_⟩
      have ht : gti tl i = true := by
        cases hz : gti tl i with
        | true => rfl
        | false => have := hc i hi hz p hin; rw [ih.2] at this; cases this
      exact (h.st i (by rw [h.lent]; exact hi) ht).2 q hq
  refine ⟨h.lenp, h.lent, fun p hpl => ⟨fun hg => h.sp p (by rw [h.lenp]; exact hpl) hg, fun hr => by simpa using (key p hr).2⟩, fun i hi => ⟨fun hg => (h.st i (by rw [h.lent]; exact hi) hg).1, fun ⟨p, hin, hr⟩ => ?_⟩⟩
  cases hz : gti tl i with
  | true => rfl
  | false => have := hc i hi hz p hin; rw [(key p hr).2] at this; cases this
/-- how many are still false -/
def cntF (l : List Bool) : Nat := (l.filter fun x => !x).length
theorem cntF_set : ∀ {l : List Bool} {i : Nat}, i < l.length → gti l i = false → cntF (l.set i true) + 1 = cntF l
  | [], i, h, _ => by simp at h
  | x :: l, i, h, hg => by
    cases i with
    | zero =>
      simp only [gti, List.getElem?_cons_zero, Option.getD_some] at hg
      subst hg
      simp [cntF]
    | succ i =>
      have h1 : i < l.length := by simpa using h
      have h2 : gti l i = false := by simpa [gti] using hg
      have := cntF_set h1 h2
      cases x <;> simp_all [cntF]
theorem any_false {l : List Bool} (h : false ∉ l) {i : Nat} (hi : i < l.length) : gti l i = true := by
  unfold gti
  rw [List.getElem?_eq_getElem hi]
  cases hz : l[i] with
  | true => rfl
  | false => exact absurd (hz ▸ List.getElem_mem hi) h
theorem any_true {l : List Bool} (h : ∀ i, i < l.length → gti l i = true) : false ∉ l := by
  intro hm
  obtain ⟨i, hi, he⟩ := List.getElem_of_mem hm
  have := h i hi
  unfold gti at this
  rw [List.getElem?_eq_getElem hi] at this
  rw [he] at this
  cases this
end Go.Proofs.Ytmhbfoaecebobaa
