/-
  Plain mathematics of the queue's chain: the states of the reference's computation of a row of leaving. No program in sight. Conditions: none.
-/
import Derived.Test.YthlgkomhnhkooaaQSpec6
namespace Go.Proofs.Ythlgkomhnhkooaa
set_option linter.unusedSimpArgs false
set_option linter.unusedVariables false

theorem fmul_zero {a : Fr} (h : a.ok) : fmul zeroF a = some zeroF := by
  have h1 : nf (0 * a.n) (1 * a.d) = zeroF := by
    have := d_pos h
    unfold nf
    simp only [Int.zero_mul, Int.one_mul, Int.gcd_zero_left, Int.sign_eq_one_of_pos this, Int.zero_ediv, Int.mul_zero]
    rw [Int.ediv_self (by omega)]
    rfl
  show (if (nf (0 * a.n) (1 * a.d)).fits then some (nf (0 * a.n) (1 * a.d)) else none) = some zeroF
  rw [h1]
  rfl
theorem lrow_len {st se : Fr} : ∀ {j : Nat} {l : List Fr}, lrow st se j = some l → l.length = j + 1
  | 0, l, h => by simp [lrow] at h; subst h; rfl
  | j + 1, l, h => by
    obtain ⟨r, _, h⟩ := some_bind h
    exact rowS_len h
theorem lrow_ok {st se : Fr} (hst : st.ok) (hse : se.ok) : ∀ {j : Nat} {l : List Fr}, lrow st se j = some l → ∀ a ∈ l, a.ok
  | 0, l, h => by simp [lrow] at h; subst h; intro a ha; simp at ha; subst ha; exact oneF_ok
  | j + 1, l, h => by
    obtain ⟨r, hr, h⟩ := some_bind h
    exact rowS_ok (lrow_ok hst hse hr) hst hse h
theorem lrow_none {st se : Fr} {j j' : Nat} (h : lrow st se j = none) (hj : j ≤ j') : lrow st se j' = none := by
  induction hj with
  | refl => exact h
  | step _ ih => unfold lrow; rw [ih]; rfl
theorem at0_gt (l : List Fr) (k : Nat) : at0 l (k : Int) = gt l k := by simp [at0, gt]
theorem at0_gt1 (l : List Fr) (k : Nat) : at0 l (((k + 1 : Nat) : Int) - 1) = gt l k := by
  rw [show ((k + 1 : Nat) : Int) - 1 = (k : Int) by omega]; exact at0_gt l k
theorem at0_neg (l : List Fr) : at0 l (((0 : Nat) : Int) - 1) = zeroF := by simp [at0]
theorem at0_end (l : List Fr) {k : Nat} (h : l.length ≤ k) : at0 l (k : Int) = zeroF := by
  rw [at0_gt]; unfold gt; rw [List.getElem?_eq_none h]; rfl

section
variable (se : Fr) (j : Nat) (st : Fr) (n : Nat) (l : List Fr)
def RlO (x : Bool) : Prop := (x = false ∧ fsub oneF se = some st ∧ lrow st se (n - 1) = some l) ∨ (x = true ∧ lrowQ se j = none)
def RlI (k : Nat) (next : List Fr) (x : Bool) : Prop := (x = false ∧ fsub oneF se = some st ∧ lrow st se (n - 1) = some l ∧ rowS l st se k = some next) ∨ (x = true ∧ lrowQ se j = none)
/-- within a round: the first product -/
def RlA (k : Nat) (next : List Fr) (m1 : Fr) (x : Bool) : Prop := (x = false ∧ fsub oneF se = some st ∧ lrow st se (n - 1) = some l ∧ rowS l st se k = some next ∧ fmul (at0 l k) st = some m1) ∨ (x = true ∧ lrowQ se j = none)
def RlB (k : Nat) (next : List Fr) (m1 m2 : Fr) (x : Bool) : Prop := (x = false ∧ fsub oneF se = some st ∧ lrow st se (n - 1) = some l ∧ rowS l st se k = some next ∧ fmul (at0 l k) st = some m1 ∧ fmul (at0 l ((k : Int) - 1)) se = some m2) ∨ (x = true ∧ lrowQ se j = none)
end
section
variable {se : Fr} {j : Nat} {st : Fr} {n : Nat} {l : List Fr}
theorem rl_fail (h1 : fsub oneF se = some st) (h2 : lrow st se (n - 1) = some l) (hn1 : 1 ≤ n) (hn : n ≤ j) {k : Nat} (hk : k ≤ n) (h : rowS l st se (k + 1) = none) : lrowQ se j = none := by
  unfold lrowQ
  rw [h1]
  refine lrow_none (j := n) ?_ hn
  obtain ⟨m, rfl⟩ : ∃ m, n = m + 1 := ⟨n - 1, by omega⟩
  unfold lrow
  rw [show m + 1 - 1 = m from rfl] at h2
  rw [h2]
  exact rowS_none h (by omega)
theorem RlO.start {st : Fr} (hse : se.ok) {x : Bool} (hx : ((subE oneF se).e != 0) = x) (hst : (⟨(subE oneF se).n, (subE oneF se).d⟩ : Fr) = st) : RlO se j st 1 [oneF] x := by
  rw [subE_ok oneF_ok hse] at hx hst
  unfold RlO
  cases h : fsub oneF se with
  | none =>
    rw [h] at hx
    exact .inr ⟨hx.symm, by unfold lrowQ; rw [h]; rfl⟩
  | some s =>
    rw [h] at hx hst
    refine .inl ⟨hx.symm, ?_, rfl⟩
    rw [← hst]
    rfl
theorem RlO.inner {x : Bool} (h : RlO se j st n l x) : RlI se j st n l 0 [] x := by
  rcases h with ⟨h1, h2, h3⟩ | h
  · exact .inl ⟨h1, h2, h3, rfl⟩
  · exact .inr h
/-- the ways to the first product -/
theorem RlI.mul (hse : se.ok) {k : Nat} {next : List Fr} (h : RlI se j st n l k next false) (hn1 : 1 ≤ n) (hn : n ≤ j) (hk : k < n) {x : Bool} {m : Fr} (hx : (false || (mulE (gt l k) st).e != 0) = x) (hm : (⟨(mulE (gt l k) st).n, (mulE (gt l k) st).d⟩ : Fr) = m) : RlA se j st n l k next m x := by
  rcases h with ⟨_, h2, h3, h4⟩ | ⟨h, _⟩
  · have hst := fsub_ok oneF_ok hse h2
    have hl := lrow_ok hst hse h3
    rw [mulE_ok (gt_ok hl k) hst] at hx hm
    unfold RlA
    cases h5 : fmul (gt l k) st with
    | none =>
      rw [h5] at hx
      refine .inr ⟨hx.symm, rl_fail h2 h3 hn1 hn (Nat.le_of_lt hk) ?_⟩
      unfold rowS cellS
      rw [h4, at0_gt]
      show ((fmul (gt l k) st).bind _).bind _ = none
      rw [h5]
      rfl
    | some s =>
      rw [h5] at hx hm
      exact .inl ⟨hx.symm, h2, h3, h4, by rw [at0_gt, h5, ← hm]; rfl⟩
  · cases h
theorem RlI.nomul (hse : se.ok) {k : Nat} {next : List Fr} (h : RlI se j st n l k next false) (hn1 : 1 ≤ n) (hk : n ≤ k) : RlA se j st n l k next zeroF false := by
  rcases h with ⟨_, h2, h3, h4⟩ | ⟨h, _⟩
  · have hst := fsub_ok oneF_ok hse h2
    exact .inl ⟨rfl, h2, h3, h4, by rw [at0_end l (by rw [lrow_len h3]; omega)]; exact fmul_zero hst⟩
  · cases h
theorem RlA.mul (hse : se.ok) {k : Nat} {next : List Fr} {m1 : Fr} (h : RlA se j st n l (k + 1) next m1 false) (hn1 : 1 ≤ n) (hn : n ≤ j) (hk : k + 1 ≤ n) {x : Bool} {m : Fr} (hx : (false || (mulE (gt l k) se).e != 0) = x) (hm : (⟨(mulE (gt l k) se).n, (mulE (gt l k) se).d⟩ : Fr) = m) : RlB se j st n l (k + 1) next m1 m x := by
  rcases h with ⟨_, h2, h3, h4, h5⟩ | ⟨h, _⟩
  · have hst := fsub_ok oneF_ok hse h2
    have hl := lrow_ok hst hse h3
    rw [mulE_ok (gt_ok hl k) hse] at hx hm
    unfold RlB
    cases h6 : fmul (gt l k) se with
    | none =>
      rw [h6] at hx
      refine .inr ⟨hx.symm, rl_fail h2 h3 hn1 hn hk ?_⟩
      unfold rowS cellS
      rw [h4, at0_gt1]
      show ((fmul (at0 l ((k + 1 : Nat) : Int)) st).bind _).bind _ = none
      rw [h5]
      show ((fmul (gt l k) se).bind _).bind _ = none
      rw [h6]
      rfl
    | some s =>
      rw [h6] at hx hm
      exact .inl ⟨hx.symm, h2, h3, h4, h5, by rw [at0_gt1, h6, ← hm]; rfl⟩
  · cases h
theorem RlA.mul' (hse : se.ok) {k : Nat} {next : List Fr} {m1 : Fr} (h : RlA se j st n l k next m1 false) (hn1 : 1 ≤ n) (hn : n ≤ j) (hk0 : 0 < k) (hk : k ≤ n) {x : Bool} {m : Fr} (hx : (false || (mulE (gt l (k - 1)) se).e != 0) = x) (hm : (⟨(mulE (gt l (k - 1)) se).n, (mulE (gt l (k - 1)) se).d⟩ : Fr) = m) : RlB se j st n l k next m1 m x := by
  obtain ⟨i, rfl⟩ : ∃ i, k = i + 1 := ⟨k - 1, by omega⟩
  exact h.mul hse hn1 hn hk hx hm
theorem RlA.nomul (hse : se.ok) {next : List Fr} {m1 : Fr} (h : RlA se j st n l 0 next m1 false) : RlB se j st n l 0 next m1 zeroF false := by
  rcases h with ⟨_, h2, h3, h4, h5⟩ | ⟨h, _⟩
  · exact .inl ⟨rfl, h2, h3, h4, h5, by rw [at0_neg]; exact fmul_zero hse⟩
  · cases h
theorem RlA.big {k : Nat} {next : List Fr} {m1 m2 : Fr} (h : RlA se j st n l k next m1 true) : RlB se j st n l k next m1 m2 true := by
  rcases h with ⟨h, _⟩ | h
  · cases h
  · exact .inr h
theorem RlB.big {k : Nat} {next next' : List Fr} {k' : Nat} {m1 m2 : Fr} (h : RlB se j st n l k next m1 m2 true) : RlI se j st n l k' next' true := by
  rcases h with ⟨h, _⟩ | h
  · cases h
  · exact .inr h
theorem RlB.add (hse : se.ok) {k : Nat} {next : List Fr} {m1 m2 : Fr} (h : RlB se j st n l k next m1 m2 false) (hn1 : 1 ≤ n) (hn : n ≤ j) (hk : k ≤ n) {x : Bool} {m : Fr} (hx : (false || (addE m1 m2).e != 0) = x) (hm : (⟨(addE m1 m2).n, (addE m1 m2).d⟩ : Fr) = m) : RlI se j st n l (k + 1) (next ++ [m]) x := by
  rcases h with ⟨_, h2, h3, h4, h5, h6⟩ | ⟨h, _⟩
  · have hst := fsub_ok oneF_ok hse h2
    have hl := lrow_ok hst hse h3
    have ok1 := fmul_ok (at0_ok hl _) hst h5
    have ok2 := fmul_ok (at0_ok hl _) hse h6
    rw [addE_ok ok1 ok2] at hx hm
    unfold RlI
    have hcell : cellS l st se k = fadd m1 m2 := by
      unfold cellS
      rw [h5]
      show (fmul (at0 l ((k : Int) - 1)) se).bind _ = _
      rw [h6]
      rfl
    cases h7 : fadd m1 m2 with
    | none =>
      rw [h7] at hx
      refine .inr ⟨hx.symm, rl_fail h2 h3 hn1 hn hk ?_⟩
      unfold rowS
      rw [h4]
      show (cellS l st se k).bind _ = none
      rw [hcell, h7]
      rfl
    | some s =>
      rw [h7] at hx hm
      refine .inl ⟨hx.symm, h2, h3, ?_⟩
      unfold rowS
      rw [h4]
      show (cellS l st se k).bind _ = _
      rw [hcell, h7, ← hm]
      rfl
  · cases h
theorem RlI.done {k : Nat} {next : List Fr} {x : Bool} (h : RlI se j st n l k next x) (hn1 : 1 ≤ n) (hk : x = false → k = n + 1) : RlO se j st (n + 1) next x := by
  rcases h with ⟨h1, h2, h3, h4⟩ | h
  · have := hk h1
    subst this
    refine .inl ⟨h1, h2, ?_⟩
    obtain ⟨m, rfl⟩ : ∃ m, n = m + 1 := ⟨n - 1, by omega⟩
    show lrow st se (m + 1) = _
    unfold lrow
    rw [show m + 1 - 1 = m from rfl] at h3
    rw [h3]
    exact h4
  · exact .inr h
/-- what the reference's leave returns -/
def RlE (se : Fr) (j : Nat) (l : List Fr) (x : Bool) : Prop := (x = false ∧ lrowQ se j = some l) ∨ (x = true ∧ lrowQ se j = none)
theorem RlO.done {x : Bool} (h : RlO se j st n l x) (hn : x = false → n = j + 1) : RlE se j l x := by
  rcases h with ⟨h1, h2, h3⟩ | h
  · have := hn h1
    subst this
    refine .inl ⟨h1, ?_⟩
    unfold lrowQ
    rw [h2]
    exact h3
  · exact .inr h
theorem RlO.len {x : Bool} (h : RlO se j st n l x) (hx : x = false) (hn : 1 ≤ n) : l.length = n := by
  rcases h with ⟨_, _, h3⟩ | ⟨h, _⟩
  · rw [lrow_len h3]; omega
  · rw [hx] at h; cases h
end

end Go.Proofs.Ythlgkomhnhkooaa
