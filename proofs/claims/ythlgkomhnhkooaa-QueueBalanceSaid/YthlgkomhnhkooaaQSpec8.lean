/-
  Plain mathematics of the queue's chain: the states of the reference's computation of a row of the chain. No program in sight. Conditions: none.
-/
import Derived.Test.YthlgkomhnhkooaaQSpec7
namespace Go.Proofs.Ythlgkomhnhkooaa
set_option linter.unusedSimpArgs false
set_option linter.unusedVariables false

/-- row n of the chain -/
def rowQ (ar se : Fr) (sv cp n : Nat) : Option (List Fr) := (lrowQ se (min n sv)).bind fun bj => (fsub oneF ar).bind fun no => rowC bj no ar n cp (min n sv + 1)

section
variable (ar se : Fr) (sv cp n : Nat) (bj : List Fr) (no : Fr)
def RrI (k : Nat) (out : List Fr) (x : Bool) : Prop := out.length = cp + 1 ∧ ((x = false ∧ lrowQ se (min n sv) = some bj ∧ fsub oneF ar = some no ∧ rowC bj no ar n cp k = some out) ∨ (x = true ∧ rowQ ar se sv cp n = none))
/-- within a round: a first product -/
def RrA (f : Fr) (i k : Nat) (m : Fr) (x : Bool) (o0 : List Fr) : Prop := (x = false ∧ fmul (gt bj k) f = some m) ∨ (x = true ∧ putS (gt bj k) f i o0 = none)
end
section
variable {ar se : Fr} {sv cp n : Nat} {bj : List Fr} {no : Fr}
theorem RrI.start (har : ar.ok) {x0 x : Bool} (h : RlE se (min n sv) bj x0) (hx : (x0 || ((subE oneF ar).e != 0)) = x) (hno : (⟨(subE oneF ar).n, (subE oneF ar).d⟩ : Fr) = no) : RrI ar se sv cp n bj no 0 (List.replicate (cp + 1) zeroF) x := by
  refine ⟨by simp, ?_⟩
  rw [subE_ok oneF_ok har] at hx hno
  rcases h with ⟨rfl, h1⟩ | ⟨rfl, h1⟩
  · cases h2 : fsub oneF ar with
    | none =>
      rw [h2] at hx
      exact .inr ⟨hx.symm, by unfold rowQ; rw [h1, h2]; rfl⟩
    | some s =>
      rw [h2] at hx hno
      exact .inl ⟨hx.symm, h1, by rw [← hno]; rfl, rfl⟩
  · exact .inr ⟨by rw [← hx]; rfl, by unfold rowQ; rw [h1]; rfl⟩
/-- one product into an element, as the reference computes it -/
theorem rput (f : Fr) {o0 : List Fr} {i k : Nat} (hb : (gt bj k).ok) (hf : f.ok) (ho : ∀ a ∈ o0, a.ok) {x1 : Bool} {m : Fr} (hx1 : (false || ((mulE (gt bj k) f).e != 0)) = x1) (hm : (⟨(mulE (gt bj k) f).n, (mulE (gt bj k) f).d⟩ : Fr) = m) :
    (x1 = true ∧ putS (gt bj k) f i o0 = none) ∨ (x1 = false ∧ ∀ (x2 : Bool) (v : Fr), (false || ((addE (gt o0 i) m).e != 0)) = x2 → (⟨(addE (gt o0 i) m).n, (addE (gt o0 i) m).d⟩ : Fr) = v → (x2 = true ∧ putS (gt bj k) f i o0 = none) ∨ (x2 = false ∧ putS (gt bj k) f i o0 = some (o0.set i v))) := by
  rw [mulE_ok hb hf] at hx1 hm
  unfold putS
  cases h1 : fmul (gt bj k) f with
  | none => rw [h1] at hx1; exact .inl ⟨hx1.symm, rfl⟩
  | some s =>
    rw [h1] at hx1 hm
    have hsm : s = m := by rw [← hm]; rfl
    subst hsm
    refine .inr ⟨hx1.symm, fun x2 v hx2 hv => ?_⟩
    have hs := fmul_ok hb hf h1
    rw [addE_ok (gt_ok ho i) hs] at hx2 hv
    show (x2 = true ∧ (fadd (gt o0 i) s).bind _ = none) ∨ (x2 = false ∧ (fadd (gt o0 i) s).bind _ = _)
    cases h2 : fadd (gt o0 i) s with
    | none => rw [h2] at hx2; exact .inl ⟨hx2.symm, rfl⟩
    | some u => rw [h2] at hx2 hv; exact .inr ⟨hx2.symm, by rw [← hv]; rfl⟩
theorem lrowQ_ok (hse : se.ok) {j : Nat} {l : List Fr} (h : lrowQ se j = some l) : ∀ a ∈ l, a.ok := by
  obtain ⟨st, h1, h2⟩ := some_bind h
  exact lrow_ok (fsub_ok oneF_ok hse h1) hse h2
theorem lrowQ_len {j : Nat} {l : List Fr} (h : lrowQ se j = some l) : l.length = j + 1 := by
  obtain ⟨st, h1, h2⟩ := some_bind h
  exact lrow_len h2
theorem rr_fail (h1 : lrowQ se (min n sv) = some bj) (h2 : fsub oneF ar = some no) {k : Nat} (hk : k ≤ min n sv) (h : rowC bj no ar n cp (k + 1) = none) : rowQ ar se sv cp n = none := by
  unfold rowQ
  rw [h1]
  show (fsub oneF ar).bind _ = none
  rw [h2]
  exact rowC_none h (by omega)
/-- the first half of a round -/
theorem RrI.half (har : ar.ok) (hse : se.ok) {k : Nat} {out : List Fr} (h : RrI ar se sv cp n bj no k out false) (hk : k ≤ min n sv) {x1 : Bool} {m : Fr} (hx1 : (false || ((mulE (gt bj k) no).e != 0)) = x1) (hm : (⟨(mulE (gt bj k) no).n, (mulE (gt bj k) no).d⟩ : Fr) = m) :
    (x1 = true ∧ rowQ ar se sv cp n = none) ∨ (x1 = false ∧ ∀ (x2 : Bool) (v : Fr), (false || ((addE (gt out (n - k)) m).e != 0)) = x2 → (⟨(addE (gt out (n - k)) m).n, (addE (gt out (n - k)) m).d⟩ : Fr) = v →
      (x2 = true ∧ rowQ ar se sv cp n = none) ∨ (x2 = false ∧ ∀ (x3 : Bool) (y : Fr), (false || ((mulE (gt bj k) ar).e != 0)) = x3 → (⟨(mulE (gt bj k) ar).n, (mulE (gt bj k) ar).d⟩ : Fr) = y →
        (x3 = true ∧ rowQ ar se sv cp n = none) ∨ (x3 = false ∧ ∀ (x4 : Bool) (u : Fr), (false || ((addE (gt (out.set (n - k) v) (min (n - k + 1) cp)) y).e != 0)) = x4 → (⟨(addE (gt (out.set (n - k) v) (min (n - k + 1) cp)) y).n, (addE (gt (out.set (n - k) v) (min (n - k + 1) cp)) y).d⟩ : Fr) = u →
          RrI ar se sv cp n bj no (k + 1) ((out.set (n - k) v).set (min (n - k + 1) cp) u) x4))) := by
  obtain ⟨hl, h⟩ := h
  rcases h with ⟨_, h1, h2, h3⟩ | ⟨h, _⟩
  · have hno := fsub_ok oneF_ok har h2
    have hb := lrowQ_ok hse h1
    have ho := (rowC_good hb hno har h3).2
    have hgb := gt_ok hb k
    have hbad : ∀ {o : Option (List Fr)}, rowC bj no ar n cp (k + 1) = o → o = none → rowQ ar se sv cp n = none := fun e1 e2 => rr_fail h1 h2 hk (e1.trans e2)
    have hstep : rowC bj no ar n cp (k + 1) = (putS (gt bj k) no (n - k) out).bind fun r' => putS (gt bj k) ar (min (n - k + 1) cp) r' := by
      show (rowC bj no ar n cp k).bind _ = _
      rw [h3]
      rfl
    rcases rput (i := n - k) no hgb hno ho hx1 hm with ⟨e1, e2⟩ | ⟨e1, e2⟩
    · exact .inl ⟨e1, hbad hstep (by rw [e2]; rfl)⟩
    · refine .inr ⟨e1, fun x2 v hx2 hv => ?_⟩
      rcases e2 x2 v hx2 hv with ⟨e3, e4⟩ | ⟨e3, e4⟩
      · exact .inl ⟨e3, hbad hstep (by rw [e4]; rfl)⟩
      · refine .inr ⟨e3, fun x3 y hx3 hy => ?_⟩
        have ho2 : ∀ a ∈ out.set (n - k) v, a.ok := by
          rcases put0 (i := n - k) hgb hno ho with ⟨_, g2, g3⟩ | ⟨_, g2⟩
          · rw [g2] at e4
            injection e4 with e4
            rw [← e4]
            exact g3
          · rw [g2] at e4; cases e4
        rcases rput (i := min (n - k + 1) cp) ar hgb har ho2 hx3 hy with ⟨e5, e6⟩ | ⟨e5, e6⟩
        · exact .inl ⟨e5, hbad hstep (by rw [e4]; exact e6)⟩
        · refine .inr ⟨e5, fun x4 u hx4 hu => ⟨by simp [hl], ?_⟩⟩
          rcases e6 x4 u hx4 hu with ⟨e7, e8⟩ | ⟨e7, e8⟩
          · exact .inr ⟨e7, hbad hstep (by rw [e4]; exact e8)⟩
          · exact .inl ⟨e7, h1, h2, hstep.trans (by rw [e4]; exact e8)⟩
  · cases h
/-- what the reference's row returns -/
def RrE (ar se : Fr) (sv cp n : Nat) (out : List Fr) (x : Bool) : Prop := out.length = cp + 1 ∧ ((x = false ∧ rowQ ar se sv cp n = some out) ∨ (x = true ∧ rowQ ar se sv cp n = none))
theorem RrI.done {k : Nat} {out : List Fr} {x : Bool} (h : RrI ar se sv cp n bj no k out x) (hk : x = false → k = min n sv + 1) : RrE ar se sv cp n out x := by
  refine ⟨h.1, ?_⟩
  rcases h.2 with ⟨h0, h1, h2, h3⟩ | h
  · refine .inl ⟨h0, ?_⟩
    unfold rowQ
    rw [h1]
    show (fsub oneF ar).bind _ = _
    rw [h2]
    rw [← hk h0]
    exact h3
  · exact .inr h
theorem RrI.bl {k : Nat} {out : List Fr} (h : RrI ar se sv cp n bj no k out false) : bj.length = min n sv + 1 := by
  rcases h.2 with ⟨h0, h1, h2, h3⟩ | ⟨h, _⟩
  · exact lrowQ_len h1
  · cases h
end

end Go.Proofs.Ythlgkomhnhkooaa
