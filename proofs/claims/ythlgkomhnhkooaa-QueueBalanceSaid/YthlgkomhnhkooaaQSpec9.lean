/-
  Plain mathematics of the queue's chain: the chain, the weights and the stationary probabilities as the reference computes them. No program in sight. Conditions: none.
-/
import Derived.Test.YthlgkomhnhkooaaQSpec8
namespace Go.Proofs.Ythlgkomhnhkooaa
set_option linter.unusedSimpArgs false
set_option linter.unusedVariables false

/-- an operation of the reference's calculator, nothing being too big before -/
theorem opR {E : FE} {o : Option Fr} (hE : E = FE.of o) {x : Bool} {v : Fr} (hx : (false || (E.e != 0)) = x) (hv : (⟨E.n, E.d⟩ : Fr) = v) : (x = false ∧ o = some v) ∨ (x = true ∧ o = none) := by
  subst hE
  cases o with
  | none => exact .inr ⟨by rw [← hx]; rfl, rfl⟩
  | some a => exact .inl ⟨by rw [← hx]; rfl, by rw [← hv]; rfl⟩

/-- the first n rows of the chain -/
def chainL (ar se : Fr) (sv cp : Nat) : Nat → Option (List (List Fr))
  | 0 => some []
  | n + 1 => (chainL ar se sv cp n).bind fun ll => (rowQ ar se sv cp n).bind fun r => some (ll ++ [r])
theorem chainL_none {ar se : Fr} {sv cp n n' : Nat} (h : chainL ar se sv cp n = none) (hn : n ≤ n') : chainL ar se sv cp n' = none := by
  induction hn with
  | refl => exact h
  | step _ ih => unfold chainL; rw [ih]; rfl
theorem chainL_S {ar se no : Fr} {sv cp : Nat} {b : List (List Fr)} (hb : leaveQ se sv = some b) (hno : fsub oneF ar = some no) : ∀ n, chainL ar se sv cp n = chainS b no ar sv cp n
  | 0 => rfl
  | n + 1 => by
    unfold chainL chainS
    rw [chainL_S hb hno n]
    have hr : rowQ ar se sv cp n = rowC ((b[min n sv]?).getD []) no ar n cp (min n sv + 1) := by
      unfold rowQ
      rw [leaveQ_some hb (min n sv) (by omega)]
      show (fsub oneF ar).bind _ = _
      rw [hno]
      rfl
    rw [hr]
theorem chainQ_L (ar se : Fr) {sv cp : Nat} (h : sv ≤ cp) : chainL ar se sv cp (cp + 1) = (chainQ ar se sv cp).map (·.1) := by
  unfold chainQ
  cases hb : leaveQ se sv with
  | none =>
    show _ = none
    have hr : rowQ ar se sv cp cp = none := by
      unfold rowQ
      rw [show min cp sv = sv by omega, leaveQ_none hb]
      rfl
    unfold chainL
    cases chainL ar se sv cp cp with
    | none => rfl
    | some ll => show (rowQ ar se sv cp cp).bind _ = none; rw [hr]; rfl
  | some b =>
    show _ = Option.map _ ((fsub oneF ar).bind _)
    cases hno : fsub oneF ar with
    | none =>
      show _ = none
      refine chainL_none (n := 1) ?_ (by omega)
      unfold chainL
      show (rowQ ar se sv cp 0).bind _ = none
      unfold rowQ
      rw [hno]
      cases lrowQ se (min 0 sv) <;> rfl
    | some no =>
      rw [chainL_S hb hno]
      show _ = Option.map _ ((chainS b no ar sv cp (cp + 1)).bind _)
      cases chainS b no ar sv cp (cp + 1) <;> rfl

/-- the state of the reference's chain -/
def RcI (ar se : Fr) (sv cp n : Nat) (ll : List (List Fr)) (x : Bool) : Prop := ll.length = n ∧ ((x = false ∧ chainL ar se sv cp n = some ll) ∨ (x = true ∧ chainL ar se sv cp (cp + 1) = none))
theorem RcI.step {ar se : Fr} {sv cp n : Nat} {ll : List (List Fr)} (h : RcI ar se sv cp n ll false) (hn : n ≤ cp) {r : List Fr} {x : Bool} (hr : RrE ar se sv cp n r x) : RcI ar se sv cp (n + 1) (ll ++ [r]) x := by
  refine ⟨by simp [h.1], ?_⟩
  rcases h.2 with ⟨_, h1⟩ | ⟨h1, _⟩
  · rcases hr.2 with ⟨h2, h3⟩ | ⟨h2, h3⟩
    · refine .inl ⟨h2, ?_⟩
      unfold chainL
      rw [h1]
      show (rowQ ar se sv cp n).bind _ = _
      rw [h3]
      rfl
    · refine .inr ⟨h2, chainL_none (n := n + 1) ?_ (by omega)⟩
      unfold chainL
      rw [h1]
      show (rowQ ar se sv cp n).bind _ = _
      rw [h3]
      rfl
  · cases h1

/-! the weights -/
theorem sumS_congr {rows : List (List Fr)} {w w' : List Fr} {n : Nat} (h : ∀ m, n < m → gt w m = gt w' m) : ∀ i, sumS rows w n i = sumS rows w' n i
  | 0 => rfl
  | i + 1 => by
    unfold sumS
    rw [sumS_congr h i, h (n + 1 + i) (by omega)]
theorem weightS_congr {rows : List (List Fr)} {w w' : List Fr} {cp n : Nat} (h : ∀ m, n < m → gt w m = gt w' m) : weightS rows w cp n = weightS rows w' cp n := by
  unfold weightS
  rw [sumS_congr h]
section
variable (rows : List (List Fr)) (wl : List Fr) (cp n : Nat)
def RwI (i : Nat) (s : Fr) (x : Bool) : Prop := (x = false ∧ sumS rows wl n i = some s) ∨ (x = true ∧ weightS rows wl cp n = none)
def RwD (i : Nat) (s : Fr) (k : Nat) (d : Fr) (x : Bool) : Prop := (x = false ∧ sumS rows wl n i = some s ∧ downS (rw' rows (n + 1 + i)) k = some d) ∨ (x = true ∧ weightS rows wl cp n = none)
def RwM (i : Nat) (s : Fr) (p : Fr) (x : Bool) : Prop := (x = false ∧ sumS rows wl n i = some s ∧ sumS rows wl n (i + 1) = fadd s p ∧ nn s ∧ nn p) ∨ (x = true ∧ weightS rows wl cp n = none)
/-- what the reference's weight returns -/
def RwE (v : Fr) (x : Bool) : Prop := (x = false ∧ weightS rows wl cp n = some v) ∨ (x = true ∧ weightS rows wl cp n = none)
end
section
variable {rows : List (List Fr)} {wl : List Fr} {cp n : Nat}
theorem weight_fail {i : Nat} (hi : i ≤ cp - n) (h : sumS rows wl n i = none) : weightS rows wl cp n = none := by
  unfold weightS
  rw [sumS_none h hi]
  rfl
theorem sumS_nn' (hr : ∀ m, ∀ a ∈ rw' rows m, nn a) (hw : ∀ m, n < m → nn (gt wl m)) : ∀ {i : Nat} {s : Fr}, sumS rows wl n i = some s → nn s
  | 0, s, e => by simp [sumS] at e; subst e; exact nn_zero
  | i + 1, s, e => by
    obtain ⟨s', e1, e⟩ := some_bind e
    obtain ⟨d, e2, e⟩ := some_bind e
    obtain ⟨p, e3, e⟩ := some_bind e
    exact nn_add (sumS_nn' hr hw e1) (nn_mul (downS_nn (hr _) e2) (hw _ (by omega)) e3) e
theorem RwI.down {i : Nat} {s : Fr} {x : Bool} (h : RwI rows wl cp n i s x) : RwD rows wl cp n i s 0 zeroF x := by
  rcases h with ⟨h1, h2⟩ | h
  · exact .inl ⟨h1, h2, rfl⟩
  · exact .inr h
theorem RwD.step (hr : RowsOk rows cp) {i : Nat} {s : Fr} {k : Nat} {d : Fr} (h : RwD rows wl cp n i s k d false) (hi : i < cp - n) (hk : k ≤ n) {x : Bool} {v : Fr} (hx : (false || ((addE d (gt (rw' rows (n + 1 + i)) k)).e != 0)) = x) (hv : (⟨(addE d (gt (rw' rows (n + 1 + i)) k)).n, (addE d (gt (rw' rows (n + 1 + i)) k)).d⟩ : Fr) = v) :
    RwD rows wl cp n i s (k + 1) v x := by
  rcases h with ⟨_, h2, h3⟩ | ⟨h, _⟩
  · have hd := downS_nn (hr.nneg _) h3
    have hg := gt_nn (hr.nneg (n + 1 + i)) k
    have hs : downS (rw' rows (n + 1 + i)) (k + 1) = fadd d (gt (rw' rows (n + 1 + i)) k) := by
      show (downS _ k).bind _ = _
      rw [h3]
      rfl
    rcases opR (addE_ok hd.1 hg.1) hx hv with ⟨e1, e2⟩ | ⟨e1, e2⟩
    · exact .inl ⟨e1, h2, hs.trans e2⟩
    · refine .inr ⟨e1, weight_fail (i := i + 1) (by omega) ?_⟩
      show (sumS rows wl n i).bind _ = none
      rw [h2]
      show (downS (rw' rows (n + 1 + i)) (n + 1)).bind _ = none
      rw [downS_none (hs.trans e2) (by omega)]
      rfl
  · cases h
theorem RwD.big {i : Nat} {s s' : Fr} {k : Nat} {d : Fr} {i' : Nat} (h : RwD rows wl cp n i s k d true) : RwI rows wl cp n i' s' true := by
  rcases h with ⟨h, _⟩ | h
  · cases h
  · exact .inr h
theorem RwD.mul (hr : RowsOk rows cp) (hw : ∀ m, n < m → nn (gt wl m)) {i : Nat} {s : Fr} {d : Fr} (h : RwD rows wl cp n i s (n + 1) d false) (hi : i < cp - n) {x : Bool} {v : Fr} (hx : (false || ((mulE d (gt wl (n + 1 + i))).e != 0)) = x) (hv : (⟨(mulE d (gt wl (n + 1 + i))).n, (mulE d (gt wl (n + 1 + i))).d⟩ : Fr) = v) :
    RwM rows wl cp n i s v x := by
  rcases h with ⟨_, h2, h3⟩ | ⟨h, _⟩
  · have hd := downS_nn (hr.nneg _) h3
    have hg := hw (n + 1 + i) (by omega)
    have hs : sumS rows wl n (i + 1) = (fmul d (gt wl (n + 1 + i))).bind fun p => fadd s p := by
      show (sumS rows wl n i).bind _ = _
      rw [h2]
      show (downS (rw' rows (n + 1 + i)) (n + 1)).bind _ = _
      rw [h3]
      rfl
    rcases opR (mulE_ok hd.1 hg.1) hx hv with ⟨e1, e2⟩ | ⟨e1, e2⟩
    · exact .inl ⟨e1, h2, by rw [hs, e2]; rfl, sumS_nn' hr.nneg hw h2, nn_mul hd hg e2⟩
    · exact .inr ⟨e1, weight_fail (i := i + 1) (by omega) (by rw [hs, e2]; rfl)⟩
  · cases h
theorem RwM.big {i : Nat} {s s' p : Fr} {i' : Nat} (h : RwM rows wl cp n i s p true) : RwI rows wl cp n i' s' true := by
  rcases h with ⟨h, _⟩ | h
  · cases h
  · exact .inr h
theorem RwM.add {i : Nat} {s p : Fr} (h : RwM rows wl cp n i s p false) (hi : i < cp - n) {x : Bool} {v : Fr} (hx : (false || ((addE s p).e != 0)) = x) (hv : (⟨(addE s p).n, (addE s p).d⟩ : Fr) = v) : RwI rows wl cp n (i + 1) v x := by
  rcases h with ⟨_, h2, h3, h4, h5⟩ | ⟨h, _⟩
  · rcases opR (addE_ok h4.1 h5.1) hx hv with ⟨e1, e2⟩ | ⟨e1, e2⟩
    · exact .inl ⟨e1, h3.trans e2⟩
    · exact .inr ⟨e1, weight_fail (i := i + 1) (by omega) (h3.trans e2)⟩
  · cases h
theorem RwI.div (hr : RowsOk rows cp) (hw : ∀ m, n < m → nn (gt wl m)) (hn : n < cp) {s : Fr} (h : RwI rows wl cp n (cp - n) s false) {x : Bool} {v : Fr} (hx : (false || ((divE s (gt (rw' rows n) (n + 1))).e != 0)) = x) (hv : (⟨(divE s (gt (rw' rows n) (n + 1))).n, (divE s (gt (rw' rows n) (n + 1))).d⟩ : Fr) = v) : RwE rows wl cp n v x := by
  rcases h with ⟨_, h2⟩ | ⟨h, _⟩
  · have hs := sumS_nn' hr.nneg hw h2
    have hp := hr.pos n hn
    have hg := gt_nn (hr.nneg n) (n + 1)
    have e : weightS rows wl cp n = fdiv s (gt (rw' rows n) (n + 1)) := by
      unfold weightS
      rw [h2]
      rfl
    rcases opR (divE_ok hs.1 hg.1 (by omega)) hx hv with ⟨e1, e2⟩ | ⟨e1, e2⟩
    · exact .inl ⟨e1, e.trans e2⟩
    · exact .inr ⟨e1, e.trans e2⟩
  · cases h
end

end Go.Proofs.Ythlgkomhnhkooaa
