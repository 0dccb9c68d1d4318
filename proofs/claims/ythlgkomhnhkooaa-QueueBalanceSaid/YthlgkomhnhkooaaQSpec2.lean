/-
  Plain mathematics of the queue's chain: its rows. No program in sight. Conditions: none.
-/
import Derived.Test.YthlgkomhnhkooaaQSpec
namespace Go.Proofs.Ythlgkomhnhkooaa
set_option linter.unusedSimpArgs false
set_option linter.unusedVariables false

def gt (l : List Fr) (i : Nat) : Fr := (l[i]?).getD zeroF
theorem gt_ok {l : List Fr} (h : ∀ a ∈ l, a.ok) (i : Nat) : (gt l i).ok := by
  unfold gt
  cases hi : l[i]? with
  | none => exact zeroF_ok
  | some a => exact h a (List.mem_of_getElem? hi)
theorem gt_get {l : List Fr} {i : Nat} (h : i < l.length) : l[i]? = some (gt l i) := by
  unfold gt; rw [List.getElem?_eq_getElem h]; rfl
theorem set_ok {l : List Fr} (h : ∀ a ∈ l, a.ok) (i : Nat) {v : Fr} (hv : v.ok) : ∀ a ∈ l.set i v, a.ok := by
  intro a ha
  rcases List.mem_or_eq_of_mem_set ha with h1 | h1
  · exact h a h1
  · rw [h1]; exact hv

/-- one more product into an element -/
def putS (bk f : Fr) (i : Nat) (row : List Fr) : Option (List Fr) := (fmul bk f).bind fun m => (fadd (gt row i) m).bind fun v => some (row.set i v)
def putX (bk f : Fr) (i : Nat) (row : List Fr) (x : Int) : Int := doX (doX x (mulE bk f)) (addE (gt row i) (doR x (mulE bk f)))
def putR (bk f : Fr) (i : Nat) (row : List Fr) (x : Int) : Fr := doR (doX x (mulE bk f)) (addE (gt row i) (doR x (mulE bk f)))
theorem put6 (bk f : Fr) (i : Nat) (row : List Fr) : putX bk f i row 6 = 6 := rfl
theorem put0 {bk f : Fr} {i : Nat} {row : List Fr} (hb : bk.ok) (hf : f.ok) (hr : ∀ a ∈ row, a.ok) :
    (putX bk f i row 0 = 0 ∧ putS bk f i row = some (row.set i (putR bk f i row 0)) ∧ ∀ a ∈ row.set i (putR bk f i row 0), a.ok) ∨ (putX bk f i row 0 = 6 ∧ putS bk f i row = none) := by
  unfold putX putR putS
  rw [mulE_ok hb hf]
  rcases do_of (fmul bk f) with ⟨e1, r1⟩ | ⟨e1, r1⟩
  · have ok1 := fmul_ok hb hf r1
    rw [e1]
    generalize doR 0 (FE.of (fmul bk f)) = m at *
    rw [r1, addE_ok (gt_ok hr i) ok1]
    rcases do_of (fadd (gt row i) m) with ⟨e2, r2⟩ | ⟨e2, r2⟩
    · left
      refine ⟨e2, ?_, set_ok hr i (fadd_ok (gt_ok hr i) ok1 r2)⟩
      show (fadd (gt row i) m).bind _ = _
      generalize doR 0 (FE.of (fadd (gt row i) m)) = v at *
      rw [r2]
      rfl
    · right
      refine ⟨e2, ?_⟩
      show (fadd (gt row i) m).bind _ = _
      rw [r2]
      rfl
  · right
    rw [e1, r1]
    exact ⟨rfl, rfl⟩

/-- row n of the chain, after the first k numbers of customers that leave -/
def rowC (bj : List Fr) (no ar : Fr) (n cp : Nat) : Nat → Option (List Fr)
  | 0 => some (List.replicate (cp + 1) zeroF)
  | k + 1 => (rowC bj no ar n cp k).bind fun r => (putS (gt bj k) no (n - k) r).bind fun r' => putS (gt bj k) ar (min (n - k + 1) cp) r'
def chainS (b : List (List Fr)) (no ar : Fr) (sv cp : Nat) : Nat → Option (List (List Fr))
  | 0 => some []
  | n + 1 => (chainS b no ar sv cp n).bind fun ll => (rowC ((b[min n sv]?).getD []) no ar n cp (min n sv + 1)).bind fun r => some (ll ++ [r])
def chainQ (ar se : Fr) (sv cp : Nat) : Option (List (List Fr) × List (List Fr)) :=
  (leaveQ se sv).bind fun b => (fsub oneF ar).bind fun no => (chainS b no ar sv cp (cp + 1)).bind fun ll => some (ll, b)

theorem rowC_good {bj : List Fr} {no ar : Fr} {n cp : Nat} (hb : ∀ a ∈ bj, a.ok) (hno : no.ok) (har : ar.ok) : ∀ {k : Nat} {r : List Fr}, rowC bj no ar n cp k = some r → r.length = cp + 1 ∧ ∀ a ∈ r, a.ok
  | 0, r, h => by
    simp [rowC] at h; subst h
    exact ⟨by simp, fun a ha => by rw [List.eq_of_mem_replicate ha]; exact zeroF_ok⟩
  | k + 1, r, h => by
    unfold rowC at h
    cases hr : rowC bj no ar n cp k with
    | none => rw [hr] at h; cases h
    | some r0 =>
      rw [hr] at h
      obtain ⟨g1, g2⟩ := rowC_good hb hno har hr
      simp only [Option.bind_some] at h
      rcases put0 (i := n - k) (gt_ok hb k) hno g2 with ⟨_, e1, e2⟩ | ⟨_, e1⟩
      · rw [e1] at h
        simp only [Option.bind_some] at h
        rcases put0 (i := min (n - k + 1) cp) (gt_ok hb k) har e2 with ⟨_, e3, e4⟩ | ⟨_, e3⟩
        · rw [e3] at h
          injection h with h
          subst h
          exact ⟨by simp [g1], e4⟩
        · rw [e3] at h; cases h
      · rw [e1] at h; cases h
theorem rowC_none {bj : List Fr} {no ar : Fr} {n cp k k' : Nat} (h : rowC bj no ar n cp k = none) (hk : k ≤ k') : rowC bj no ar n cp k' = none := by
  induction hk with
  | refl => exact h
  | step _ ih => unfold rowC; rw [ih]; rfl
theorem chainS_none {b : List (List Fr)} {no ar : Fr} {sv cp n n' : Nat} (h : chainS b no ar sv cp n = none) (hn : n ≤ n') : chainS b no ar sv cp n' = none := by
  induction hn with
  | refl => exact h
  | step _ ih => unfold chainS; rw [ih]; rfl

/-- the state of the computation of the chain, after n rows -/
def ChR (ar se : Fr) (sv cp : Nat) (b : List (List Fr)) (no : Fr) (n : Nat) (ll : List (List Fr)) (x : Int) : Prop :=
  ll.length = n ∧ (∀ (i : Nat) (l : List Fr), ll[i]? = some l → l.length = cp + 1) ∧ ((x = 0 ∧ leaveQ se sv = some b ∧ fsub oneF ar = some no ∧ chainS b no ar sv cp n = some ll) ∨ (x = 6 ∧ chainQ ar se sv cp = none))
/-- within a row -/
def ChI (ar se : Fr) (sv cp : Nat) (b : List (List Fr)) (no : Fr) (n : Nat) (ll : List (List Fr)) (bj : List Fr) (k : Nat) (row : List Fr) (x : Int) : Prop :=
  row.length = cp + 1 ∧ ((x = 0 ∧ leaveQ se sv = some b ∧ fsub oneF ar = some no ∧ chainS b no ar sv cp n = some ll ∧ rowC bj no ar n cp k = some row) ∨ (x = 6 ∧ chainQ ar se sv cp = none))
theorem leaveQ_good {se : Fr} (hse : se.ok) {sv : Nat} {b : List (List Fr)} (h : leaveQ se sv = some b) : b.length = sv + 1 ∧ (∀ (i : Nat) (l : List Fr), b[i]? = some l → l.length = i + 1 ∧ ∀ a ∈ l, a.ok) := by
  unfold leaveQ at h
  cases h1 : fsub oneF se with
  | none => rw [h1] at h; cases h
  | some st =>
    rw [h1] at h
    exact leaveS_good (fsub_ok oneF_ok hse h1) hse h
theorem ChI.step {ar se : Fr} (har : ar.ok) (hse : se.ok) {sv cp : Nat} {b : List (List Fr)} {no : Fr} {n : Nat} {ll : List (List Fr)} {bj : List Fr} {j k : Nat} {row : List Fr} {x : Int} (h : ChI ar se sv cp b no n ll bj k row x) (hj : min n sv = j) (hb : b[j]? = some bj) (hk : k ≤ j) (hn : n ≤ cp) :
    ChI ar se sv cp b no n ll bj (k + 1) ((row.set (n - k) (putR (gt bj k) no (n - k) row x)).set (min (n - k + 1) cp) (putR (gt bj k) ar (min (n - k + 1) cp) (row.set (n - k) (putR (gt bj k) no (n - k) row x)) (putX (gt bj k) no (n - k) row x)))
      (putX (gt bj k) ar (min (n - k + 1) cp) (row.set (n - k) (putR (gt bj k) no (n - k) row x)) (putX (gt bj k) no (n - k) row x)) := by
  refine ⟨by simp [h.1], ?_⟩
  rcases h.2 with ⟨rfl, h1, h2, h3, h4⟩ | ⟨rfl, h1⟩
  · have hno : no.ok := fsub_ok oneF_ok har h2
    have hbo := ((leaveQ_good hse h1).2 j bj hb).2
    have hro := (rowC_good hbo hno har h4).2
    have hnone : rowC bj no ar n cp (k + 1) = none → chainQ ar se sv cp = none := by
      intro hr
      have hr2 := rowC_none hr (show k + 1 ≤ j + 1 by omega)
      unfold chainQ
      rw [h1]
      show (fsub oneF ar).bind _ = none
      rw [h2]
      show (chainS b no ar sv cp (cp + 1)).bind _ = none
      rw [chainS_none (n := n + 1) ?_ (by omega)]
      · rfl
      · unfold chainS
        rw [h3]
        show (rowC ((b[min n sv]?).getD []) no ar n cp (min n sv + 1)).bind _ = none
        rw [hj, hb]
        show (rowC bj no ar n cp (j + 1)).bind _ = none
        rw [hr2]
        rfl
    rcases put0 (i := n - k) (gt_ok hbo k) hno hro with ⟨e1, e2, e3⟩ | ⟨e1, e2⟩
    · rw [e1]
      rcases put0 (i := min (n - k + 1) cp) (gt_ok hbo k) har e3 with ⟨g1, g2, g3⟩ | ⟨g1, g2⟩
      · left
        refine ⟨g1, h1, h2, h3, ?_⟩
        unfold rowC
        rw [h4]
        show (putS (gt bj k) no (n - k) row).bind _ = _
        rw [e2]
        exact g2
      · right
        refine ⟨g1, hnone ?_⟩
        unfold rowC
        rw [h4]
        show (putS (gt bj k) no (n - k) row).bind _ = _
        rw [e2]
        exact g2
    · right
      rw [e1]
      refine ⟨rfl, hnone ?_⟩
      unfold rowC
      rw [h4]
      show (putS (gt bj k) no (n - k) row).bind _ = _
      rw [e2]
      rfl
  · exact .inr ⟨rfl, h1⟩
theorem ChI.done {ar se : Fr} {sv cp : Nat} {b : List (List Fr)} {no : Fr} {n : Nat} {ll : List (List Fr)} {bj : List Fr} {j : Nat} {row : List Fr} {x x0 : Int} (h : ChI ar se sv cp b no n ll bj (j + 1) row x) (hR : ChR ar se sv cp b no n ll x0) (hj : min n sv = j) (hb : b[j]? = some bj) : ChR ar se sv cp b no (n + 1) (ll ++ [row]) x := by
  refine ⟨by simp [hR.1], fun i l hi => ?_, ?_⟩
  · rcases Nat.lt_or_ge i ll.length with h1 | h1
    · rw [List.getElem?_append_left h1] at hi
      exact hR.2.1 i l hi
    · rw [List.getElem?_append_right h1] at hi
      have hi0 : i - ll.length = 0 := by
        rcases Nat.eq_zero_or_pos (i - ll.length) with h2 | h2
        · exact h2
        · rw [List.getElem?_eq_none (by simp; omega)] at hi; cases hi
      rw [hi0] at hi
      simp at hi; subst hi
      exact h.1
  · rcases h.2 with ⟨rfl, h1, h2, h3, h4⟩ | h1
    · left
      refine ⟨rfl, h1, h2, ?_⟩
      unfold chainS
      rw [h3]
      show (rowC ((b[min n sv]?).getD []) no ar n cp (min n sv + 1)).bind _ = _
      rw [hj, hb]
      show (rowC bj no ar n cp (j + 1)).bind _ = _
      rw [h4]
      rfl
    · exact .inr h1
/-- what chain returns -/
def ChE (ar se : Fr) (sv cp : Nat) (ll b : List (List Fr)) (x : Int) : Prop :=
  ll.length = cp + 1 ∧ (∀ (i : Nat) (l : List Fr), ll[i]? = some l → l.length = cp + 1) ∧ b.length = sv + 1 ∧ (∀ (i : Nat) (l : List Fr), b[i]? = some l → l.length = i + 1) ∧ ((x = 0 ∧ chainQ ar se sv cp = some (ll, b)) ∨ (x = 6 ∧ chainQ ar se sv cp = none))
theorem ChR.done {ar se : Fr} {sv cp : Nat} {b ll : List (List Fr)} {no : Fr} {x x1 : Int} (h : ChR ar se sv cp b no (cp + 1) ll x) (hE : LvE se sv b x1) : ChE ar se sv cp ll b x := by
  refine ⟨h.1, h.2.1, hE.1, hE.2.1, ?_⟩
  rcases h.2.2 with ⟨rfl, h1, h2, h3⟩ | h1
  · left
    refine ⟨rfl, ?_⟩
    unfold chainQ
    rw [h1]
    show (fsub oneF ar).bind _ = _
    rw [h2]
    show (chainS b no ar sv cp (cp + 1)).bind _ = _
    rw [h3]
    rfl
  · exact .inr h1
theorem ChR.start {ar se : Fr} {sv cp : Nat} {b : List (List Fr)} {x1 : Int} (har : ar.ok) (h : LvE se sv b x1) : ChR ar se sv cp b (doR x1 (subE oneF ar)) 0 [] (doX x1 (subE oneF ar)) := by
  refine ⟨rfl, fun i l hi => by simp at hi, ?_⟩
  rcases h.2.2 with ⟨rfl, h1⟩ | ⟨rfl, h1⟩
  · rw [subE_ok oneF_ok har]
    rcases do_of (fsub oneF ar) with ⟨e1, e2⟩ | ⟨e1, e2⟩
    · exact .inl ⟨e1, h1, e2, rfl⟩
    · right
      refine ⟨e1, ?_⟩
      unfold chainQ
      rw [h1]
      show (fsub oneF ar).bind _ = none
      rw [e2]
      rfl
  · right
    refine ⟨rfl, ?_⟩
    unfold chainQ
    rw [h1]
    rfl

end Go.Proofs.Ythlgkomhnhkooaa
