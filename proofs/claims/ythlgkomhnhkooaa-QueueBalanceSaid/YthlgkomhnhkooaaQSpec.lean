/-
  Plain mathematics of the queue's chain: what the document says, over fractions that may not fit. No program in sight. Conditions: none.
-/
import Derived.Test.YthlgkomhnhkooaaFr
namespace Go.Proofs.Ythlgkomhnhkooaa
set_option linter.unusedSimpArgs false
set_option linter.unusedVariables false

def zeroF : Fr := ⟨0, 1⟩
def oneF : Fr := ⟨1, 1⟩
theorem zeroF_ok : zeroF.ok := by decide
theorem oneF_ok : oneF.ok := by decide
theorem fadd_ok {a b c : Fr} (ha : a.ok) (hb : b.ok) (h : fadd a b = some c) : c.ok := mkF_ok (by have := ha.2.2.1; have := hb.2.2.1; have := Int.mul_pos (show 0 < a.d by omega) (show 0 < b.d by omega); omega) h
theorem fsub_ok {a b c : Fr} (ha : a.ok) (hb : b.ok) (h : fsub a b = some c) : c.ok := fadd_ok ha (fneg_ok hb) h
theorem fmul_ok {a b c : Fr} (ha : a.ok) (hb : b.ok) (h : fmul a b = some c) : c.ok := mkF_ok (by have := ha.2.2.1; have := hb.2.2.1; have := Int.mul_pos (show 0 < a.d by omega) (show 0 < b.d by omega); omega) h
theorem fdiv_ok {a b c : Fr} (ha : a.ok) (hb : b.ok) (h0 : b.n ≠ 0) (h : fdiv a b = some c) : c.ok := mkF_ok (by have := ha.2.2.1; intro e; rcases Int.mul_eq_zero.1 e with h | h <;> omega) h

theorem addE_ok {a b : Fr} (ha : a.ok) (hb : b.ok) : addE a b = FE.of (fadd a b) := by simp [addE, Fr.okB_of ha, Fr.okB_of hb]
theorem subE_ok {a b : Fr} (ha : a.ok) (hb : b.ok) : subE a b = FE.of (fsub a b) := by simp [subE, Fr.okB_of ha, Fr.okB_of hb]
theorem mulE_ok {a b : Fr} (ha : a.ok) (hb : b.ok) : mulE a b = FE.of (fmul a b) := by simp [mulE, Fr.okB_of ha, Fr.okB_of hb]
theorem divE_ok {a b : Fr} (ha : a.ok) (hb : b.ok) (h0 : b.n ≠ 0) : divE a b = FE.of (fdiv a b) := by simp [divE, Fr.okB_of ha, Fr.okB_of hb, h0]

/-- the running error, and the result of an operation after it -/
def doR (x : Int) (E : FE) : Fr := if x ≠ 0 then ⟨0, 1⟩ else if E.e ≠ 0 then ⟨0, 1⟩ else ⟨E.n, E.d⟩
def doX (x : Int) (E : FE) : Int := if x ≠ 0 then x else E.e
theorem doX6 (E : FE) : doX 6 E = 6 := rfl
theorem do_of (r : Option Fr) : (doX 0 (FE.of r) = 0 ∧ r = some (doR 0 (FE.of r))) ∨ (doX 0 (FE.of r) = 6 ∧ r = none) := by
  cases r with
  | none => right; exact ⟨rfl, rfl⟩
  | some a => left; exact ⟨rfl, rfl⟩

def at0 (l : List Fr) (k : Int) : Fr := if 0 ≤ k then (l[k.toNat]?).getD zeroF else zeroF
theorem at0_ok {l : List Fr} (h : ∀ a ∈ l, a.ok) (k : Int) : (at0 l k).ok := by
  unfold at0
  split
  · cases hk : l[k.toNat]? with
    | none => exact zeroF_ok
    | some a => exact h a (List.mem_of_getElem? hk)
  · exact zeroF_ok

/-- the probability of one cell: b(j, k) out of the row j - 1 -/
def cellS (before : List Fr) (stay serve : Fr) (k : Nat) : Option Fr :=
  (fmul (at0 before k) stay).bind fun m1 => (fmul (at0 before ((k : Int) - 1)) serve).bind fun m2 => fadd m1 m2
def rowS (before : List Fr) (stay serve : Fr) : Nat → Option (List Fr)
  | 0 => some []
  | k + 1 => (rowS before stay serve k).bind fun l => (cellS before stay serve k).bind fun c => some (l ++ [c])
def leaveS (stay serve : Fr) : Nat → Option (List (List Fr))
  | 0 => some [[oneF]]
  | j + 1 => (leaveS stay serve j).bind fun ll => (rowS ((ll[j]?).getD []) stay serve (j + 2)).bind fun r => some (ll ++ [r])
def leaveQ (serve : Fr) (servers : Nat) : Option (List (List Fr)) := (fsub oneF serve).bind fun stay => leaveS stay serve servers

/-- what the code computes for one cell -/
def cellX (a b stay serve : Fr) (x : Int) : Int := doX (doX (doX x (mulE a stay)) (mulE b serve)) (addE (doR x (mulE a stay)) (doR (doX x (mulE a stay)) (mulE b serve)))
def cellR (a b stay serve : Fr) (x : Int) : Fr := doR (doX (doX x (mulE a stay)) (mulE b serve)) (addE (doR x (mulE a stay)) (doR (doX x (mulE a stay)) (mulE b serve)))
theorem cell6 (a b stay serve : Fr) : cellX a b stay serve 6 = 6 := rfl
theorem cell0 {before : List Fr} {stay serve : Fr} (hb : ∀ a ∈ before, a.ok) (hst : stay.ok) (hse : serve.ok) (k : Nat) :
    (cellX (at0 before k) (at0 before ((k : Int) - 1)) stay serve 0 = 0 ∧ cellS before stay serve k = some (cellR (at0 before k) (at0 before ((k : Int) - 1)) stay serve 0)) ∨
    (cellX (at0 before k) (at0 before ((k : Int) - 1)) stay serve 0 = 6 ∧ cellS before stay serve k = none) := by
  unfold cellX cellR cellS
  have ha := at0_ok hb (k : Int)
  have hb' := at0_ok hb ((k : Int) - 1)
  rw [mulE_ok ha hst, mulE_ok hb' hse]
  rcases do_of (fmul (at0 before k) stay) with ⟨e1, r1⟩ | ⟨e1, r1⟩
  · have ok1 := fmul_ok ha hst r1
    rw [e1]
    generalize doR 0 (FE.of (fmul (at0 before k) stay)) = m1 at *
    rw [r1]
    rcases do_of (fmul (at0 before ((k : Int) - 1)) serve) with ⟨e2, r2⟩ | ⟨e2, r2⟩
    · have ok2 := fmul_ok hb' hse r2
      rw [e2]
      generalize doR 0 (FE.of (fmul (at0 before ((k : Int) - 1)) serve)) = m2 at *
      rw [r2, addE_ok ok1 ok2]
      exact do_of (fadd m1 m2)
    · right
      rw [e2, r2]
      exact ⟨rfl, rfl⟩
  · right
    rw [e1, r1]
    exact ⟨rfl, rfl⟩

theorem rowS_len {before : List Fr} {stay serve : Fr} : ∀ {k : Nat} {l : List Fr}, rowS before stay serve k = some l → l.length = k
  | 0, l, h => by simp [rowS] at h; subst h; rfl
  | k + 1, l, h => by
    unfold rowS at h
    cases hr : rowS before stay serve k with
    | none => rw [hr] at h; cases h
    | some r =>
      rw [hr] at h
      cases hc : cellS before stay serve k with
      | none => simp [hc] at h
      | some c => simp [hc] at h; subst h; simp [rowS_len hr]
theorem cellS_ok {before : List Fr} {stay serve : Fr} (hb : ∀ a ∈ before, a.ok) (hst : stay.ok) (hse : serve.ok) {k : Nat} {c : Fr} (h : cellS before stay serve k = some c) : c.ok := by
  unfold cellS at h
  cases h1 : fmul (at0 before k) stay with
  | none => rw [h1] at h; cases h
  | some m1 =>
    rw [h1] at h
    cases h2 : fmul (at0 before ((k : Int) - 1)) serve with
    | none => rw [h2] at h; cases h
    | some m2 =>
      rw [h2] at h
      exact fadd_ok (fmul_ok (at0_ok hb _) hst h1) (fmul_ok (at0_ok hb _) hse h2) h
theorem rowS_ok {before : List Fr} {stay serve : Fr} (hb : ∀ a ∈ before, a.ok) (hst : stay.ok) (hse : serve.ok) : ∀ {k : Nat} {l : List Fr}, rowS before stay serve k = some l → ∀ a ∈ l, a.ok
  | 0, l, h => by simp [rowS] at h; subst h; simp
  | k + 1, l, h => by
    unfold rowS at h
    cases hr : rowS before stay serve k with
    | none => rw [hr] at h; cases h
    | some r =>
      rw [hr] at h
      cases hc : cellS before stay serve k with
      | none => simp [hc] at h
      | some c =>
        simp [hc] at h; subst h
        intro a ha
        rcases List.mem_append.1 ha with h1 | h1
        · exact rowS_ok hb hst hse hr a h1
        · simp at h1; subst h1; exact cellS_ok hb hst hse hc
theorem leaveS_good {stay serve : Fr} (hst : stay.ok) (hse : serve.ok) : ∀ {j : Nat} {ll : List (List Fr)}, leaveS stay serve j = some ll → ll.length = j + 1 ∧ (∀ i l, ll[i]? = some l → l.length = i + 1 ∧ ∀ a ∈ l, a.ok)
  | 0, ll, h => by
    simp [leaveS] at h; subst h
    refine ⟨rfl, fun i l hi => ?_⟩
    match i, hi with
    | 0, hi => simp at hi; subst hi; refine ⟨rfl, fun a ha => ?_⟩; simp at ha; subst ha; exact oneF_ok
    | i + 1, hi => simp at hi
  | j + 1, ll, h => by
    unfold leaveS at h
    cases hr : leaveS stay serve j with
    | none => rw [hr] at h; cases h
    | some r =>
      rw [hr] at h
      have ⟨g1, g2⟩ := leaveS_good hst hse hr
      cases hc : rowS ((r[j]?).getD []) stay serve (j + 2) with
      | none => simp [hc] at h
      | some c =>
        simp [hc] at h; subst h
        have hbo : ∀ a ∈ (r[j]?).getD [], a.ok := by
          cases hj : r[j]? with
          | none => simp
          | some b => simp; exact fun a ha => (g2 j b hj).2 a ha
        refine ⟨by simp [g1], fun i l hi => ?_⟩
        rcases Nat.lt_or_ge i (j + 1) with h1 | h1
        · rw [List.getElem?_append_left (by omega)] at hi
          exact g2 i l hi
        · rw [List.getElem?_append_right (by omega)] at hi
          have hi0 : i - r.length = 0 := by
            rcases Nat.eq_zero_or_pos (i - r.length) with h2 | h2
            · exact h2
            · rw [List.getElem?_eq_none (by simp; omega)] at hi; cases hi
          rw [hi0] at hi
          simp at hi; subst hi
          exact ⟨by rw [rowS_len hc]; omega, rowS_ok hbo hst hse hc⟩
theorem leaveS_none {stay serve : Fr} {j j' : Nat} (h : leaveS stay serve j = none) (hj : j ≤ j') : leaveS stay serve j' = none := by
  induction hj with
  | refl => exact h
  | step _ ih => unfold leaveS; rw [ih]; rfl

theorem rowS_none {before : List Fr} {stay serve : Fr} {k k' : Nat} (h : rowS before stay serve k = none) (hk : k ≤ k') : rowS before stay serve k' = none := by
  induction hk with
  | refl => exact h
  | step _ ih => unfold rowS; rw [ih]; rfl

/-- the state of the computation of the probabilities of leaving, after rows 0 to J - 1 -/
def LvR (se : Fr) (sv : Nat) (st : Fr) (J : Nat) (ll : List (List Fr)) (x : Int) : Prop :=
  (∀ (i : Nat) (l : List Fr), ll[i]? = some l → l.length = i + 1) ∧ ((x = 0 ∧ fsub oneF se = some st ∧ leaveS st se (J - 1) = some ll) ∨ (x = 6 ∧ leaveQ se sv = none))
/-- within a row -/
def LvI (se : Fr) (sv : Nat) (st : Fr) (J : Nat) (ll : List (List Fr)) (before : List Fr) (k : Nat) (row : List Fr) (x : Int) : Prop :=
  row.length = k ∧ ((x = 0 ∧ fsub oneF se = some st ∧ leaveS st se (J - 1) = some ll ∧ rowS before st se k = some row) ∨ (x = 6 ∧ leaveQ se sv = none))

theorem LvI.step {se : Fr} (hse : se.ok) {sv : Nat} {st : Fr} {J : Nat} {ll : List (List Fr)} {before : List Fr} {k : Nat} {row : List Fr} {x : Int} (h : LvI se sv st (J + 1) ll before k row x) (hb : ll[J]? = some before) (hk : k ≤ J + 1) (hJ : J + 1 ≤ sv) :
    LvI se sv st (J + 1) ll before (k + 1) (row ++ [cellR (at0 before k) (at0 before ((k : Int) - 1)) st se x]) (cellX (at0 before k) (at0 before ((k : Int) - 1)) st se x) := by
  refine ⟨by simp [h.1], ?_⟩
  rcases h.2 with ⟨rfl, h1, h2, h3⟩ | ⟨rfl, h1⟩
  · have hst : st.ok := fsub_ok oneF_ok hse h1
    have hbo := ((leaveS_good hst hse h2).2 J before hb).2
    rcases cell0 hbo hst hse k with ⟨e1, e2⟩ | ⟨e1, e2⟩
    · left
      refine ⟨e1, h1, h2, ?_⟩
      unfold rowS
      rw [h3, e2]
      rfl
    · right
      refine ⟨e1, ?_⟩
      unfold leaveQ
      rw [h1]
      show leaveS st se sv = none
      refine leaveS_none (j := J + 1) ?_ hJ
      have hr : rowS before st se (k + 1) = none := by unfold rowS; rw [h3, e2]; rfl
      have hr2 := rowS_none hr (show k + 1 ≤ J + 2 by omega)
      unfold leaveS
      simp only [Nat.add_sub_cancel] at h2
      rw [h2]
      show (rowS ((ll[J]?).getD []) st se (J + 2)).bind _ = none
      rw [hb]
      show (rowS before st se (J + 2)).bind _ = none
      rw [hr2]
      rfl
  · exact .inr ⟨rfl, h1⟩
theorem LvI.done {se : Fr} {sv : Nat} {st : Fr} {J : Nat} {ll : List (List Fr)} {before row : List Fr} {x : Int} (h : LvI se sv st (J + 1) ll before (J + 2) row x) (hl : ∀ (i : Nat) (l : List Fr), ll[i]? = some l → l.length = i + 1) (hlen : ll.length = J + 1) (hb : ll[J]? = some before) :
    LvR se sv st (J + 2) (ll ++ [row]) x := by
  refine ⟨fun i l hi => ?_, ?_⟩
  · rcases Nat.lt_or_ge i (J + 1) with h1 | h1
    · rw [List.getElem?_append_left (by omega)] at hi
      exact hl i l hi
    · rw [List.getElem?_append_right (by omega)] at hi
      have hi0 : i - ll.length = 0 := by
        rcases Nat.eq_zero_or_pos (i - ll.length) with h2 | h2
        · exact h2
        · rw [List.getElem?_eq_none (by simp; omega)] at hi; cases hi
      rw [hi0] at hi
      simp at hi; subst hi
      rw [h.1]; omega
  · rcases h.2 with ⟨rfl, h1, h2, h3⟩ | h1
    · left
      refine ⟨rfl, h1, ?_⟩
      simp only [Nat.add_sub_cancel] at h2
      show leaveS st se (J + 1) = _
      unfold leaveS
      rw [h2]
      show (rowS ((ll[J]?).getD []) st se (J + 2)).bind _ = _
      rw [hb]
      show (rowS before st se (J + 2)).bind _ = _
      rw [h3]
      rfl
    · exact .inr h1

/-- what leave returns -/
def LvE (se : Fr) (sv : Nat) (ll : List (List Fr)) (x : Int) : Prop :=
  ll.length = sv + 1 ∧ (∀ (i : Nat) (l : List Fr), ll[i]? = some l → l.length = i + 1) ∧ ((x = 0 ∧ leaveQ se sv = some ll) ∨ (x = 6 ∧ leaveQ se sv = none))
theorem LvR.done {se : Fr} {sv : Nat} {st : Fr} {ll : List (List Fr)} {x : Int} (h : LvR se sv st (sv + 1) ll x) (hl : ll.length = sv + 1) : LvE se sv ll x := by
  refine ⟨hl, h.1, ?_⟩
  rcases h.2 with ⟨h0, h1, h2⟩ | h1
  · left
    refine ⟨h0, ?_⟩
    unfold leaveQ
    rw [h1]
    simpa using h2
  · exact .inr h1

end Go.Proofs.Ythlgkomhnhkooaa
