/-
  Plain mathematics of the queue's chain: the states of the reference's computation of the stationary probabilities. No program in sight. Conditions: none.
-/
import Derived.Test.YthlgkomhnhkooaaQSpec9
namespace Go.Proofs.Ythlgkomhnhkooaa
set_option linter.unusedSimpArgs false
set_option linter.unusedVariables false

/-- the stationary probabilities, out of the rows -/
def statL (rows : List (List Fr)) (cp : Nat) : Option (List Fr) := (wS rows cp cp).bind fun w => (totS w (cp + 1)).bind fun tot => divS w tot (cp + 1)
theorem statQ_L {ar se : Fr} {sv cp : Nat} {rows b : List (List Fr)} (h : chainQ ar se sv cp = some (rows, b)) : (statQ ar se sv cp).map (·.1) = statL rows cp := by
  unfold statQ statL
  rw [h]
  show Option.map _ ((wS rows cp cp).bind _) = _
  cases wS rows cp cp with
  | none => rfl
  | some w =>
    show Option.map _ ((totS w (cp + 1)).bind _) = (totS w (cp + 1)).bind _
    cases totS w (cp + 1) with
    | none => rfl
    | some tot =>
      show Option.map _ ((divS w tot (cp + 1)).bind _) = divS w tot (cp + 1)
      cases divS w tot (cp + 1) <;> rfl
theorem statQ_none_chain {ar se : Fr} {sv cp : Nat} (h : chainQ ar se sv cp = none) : statQ ar se sv cp = none := by
  unfold statQ; rw [h]; rfl

section
variable (rows : List (List Fr)) (cp : Nat)
def RsW (t : Nat) (w' : List Fr) (x : Bool) : Prop := w'.length = cp + 1 ∧ ((x = false ∧ ∃ wl, wS rows cp t = some wl ∧ ∀ m, cp - t ≤ m → gt w' m = gt wl m) ∨ (x = true ∧ statL rows cp = none))
def RsT (wl : List Fr) (k : Nat) (tot : Fr) (x : Bool) : Prop := (x = false ∧ wS rows cp cp = some wl ∧ totS wl k = some tot) ∨ (x = true ∧ statL rows cp = none)
def RsV (wl : List Fr) (tot : Fr) (i : Nat) (r : List Fr) (x : Bool) : Prop := r.length = cp + 1 ∧ ((x = false ∧ wS rows cp cp = some wl ∧ totS wl (cp + 1) = some tot ∧ divS wl tot i = some r) ∨ (x = true ∧ statL rows cp = none))
end
section
variable {rows : List (List Fr)} {cp : Nat}
theorem statL_w {t : Nat} (ht : t ≤ cp) (h : wS rows cp t = none) : statL rows cp = none := by
  unfold statL; rw [wS_none h ht]; rfl
theorem RsW.start : RsW rows cp 0 ((List.replicate (cp + 1) (⟨0, 0⟩ : Fr)).set cp oneF) false := by
  refine ⟨by simp, .inl ⟨rfl, _, rfl, fun m hm => ?_⟩⟩
  unfold gt
  rcases Nat.lt_or_eq_of_le hm with h | h
  · rw [List.getElem?_eq_none (by simp; omega), List.getElem?_eq_none (by simp; omega)]
  · have : cp = m := by omega
    subst this
    rw [List.getElem?_set_self (by simp), List.getElem?_set_self (by simp)]
theorem RsW.nn (hr : RowsOk rows cp) {t : Nat} {w' : List Fr} (h : RsW rows cp t w' false) (ht : t < cp) : ∀ m, cp - 1 - t < m → nn (gt w' m) := by
  intro m hm
  rcases h.2 with ⟨_, wl, h1, h2⟩ | ⟨h, _⟩
  · rw [h2 m (by omega)]
    exact gt_nn (wS_good hr (by omega) h1).2.1 m
  · cases h
theorem RsW.step {t : Nat} {w' : List Fr} (h : RsW rows cp t w' false) (ht : t < cp) {v : Fr} {x : Bool} (hv : RwE rows w' cp (cp - 1 - t) v x) : RsW rows cp (t + 1) (w'.set (cp - 1 - t) v) x := by
  refine ⟨by simp [h.1], ?_⟩
  rcases h.2 with ⟨_, wl, h1, h2⟩ | ⟨h, _⟩
  · have e : weightS rows w' cp (cp - 1 - t) = weightS rows wl cp (cp - 1 - t) := weightS_congr fun m hm => h2 m (by omega)
    have hw : wS rows cp (t + 1) = (weightS rows wl cp (cp - 1 - t)).bind fun v => some (wl.set (cp - 1 - t) v) := by
      show (wS rows cp t).bind _ = _
      rw [h1]
      rfl
    rcases hv with ⟨e1, e2⟩ | ⟨e1, e2⟩
    · refine .inl ⟨e1, wl.set (cp - 1 - t) v, ?_, fun m hm => ?_⟩
      · rw [hw, ← e, e2]
        rfl
      · unfold gt
        by_cases hm2 : cp - 1 - t = m
        · subst hm2
          have hl2 : (wS rows cp (t + 1)).isSome := by rw [hw, ← e, e2]; rfl
          rw [List.getElem?_set_self (by rw [h.1]; omega)]
          by_cases hlt : cp - 1 - t < wl.length
          · rw [List.getElem?_set_self hlt]
          · exfalso
            have : ∀ {t : Nat} {l : List Fr}, wS rows cp t = some l → l.length = cp + 1 := by
              intro t
              induction t with
              | zero => intro l h; simp [wS] at h; subst h; simp
              | succ t ih =>
                intro l h
                obtain ⟨w0, a1, h⟩ := some_bind h
                obtain ⟨v0, a2, h⟩ := some_bind h
                injection h with h
                subst h
                rw [List.length_set]
                exact ih a1
            have := this h1
            omega
        · rw [List.getElem?_set_ne hm2, List.getElem?_set_ne hm2]
          exact h2 m (by omega)
    · exact .inr ⟨e1, statL_w (t := t + 1) (by omega) (by rw [hw, ← e, e2]; rfl)⟩
  · cases h
theorem ext_gt {a b : List Fr} (hl : a.length = b.length) (h : ∀ m, gt a m = gt b m) : a = b := by
  apply List.ext_getElem? 
  intro i
  rcases Nat.lt_or_ge i a.length with h1 | h1
  · rw [gt_get h1, gt_get (by omega), h i]
  · rw [List.getElem?_eq_none h1, List.getElem?_eq_none (by omega)]
theorem RsW.tot (hr : RowsOk rows cp) {w' : List Fr} {x : Bool} (h : RsW rows cp cp w' x) : RsT rows cp w' 0 zeroF x := by
  rcases h.2 with ⟨e, wl, h1, h2⟩ | h
  · have hl := (wS_good hr (Nat.le_refl _) h1).1
    have : w' = wl := ext_gt (by rw [h.1, hl]) (fun m => h2 m (by omega))
    subst this
    exact .inl ⟨e, h1, rfl⟩
  · exact .inr h
theorem RsW.big {t : Nat} {w' : List Fr} (h : RsW rows cp t w' true) : statL rows cp = none := by
  rcases h.2 with ⟨h, _⟩ | h
  · cases h
  · exact h.2
theorem RsT.step (hr : RowsOk rows cp) {wl : List Fr} {k : Nat} {tot : Fr} (h : RsT rows cp wl k tot false) (hk : k ≤ cp) {x : Bool} {v : Fr} (hx : (false || ((addE tot (gt wl k)).e != 0)) = x) (hv : (⟨(addE tot (gt wl k)).n, (addE tot (gt wl k)).d⟩ : Fr) = v) : RsT rows cp wl (k + 1) v x := by
  rcases h with ⟨_, h2, h3⟩ | ⟨h, _⟩
  · have hw := wS_good hr (Nat.le_refl _) h2
    have ht := downS_nn hw.2.1 h3
    have hs : totS wl (k + 1) = fadd tot (gt wl k) := by
      show (downS wl k).bind _ = _
      rw [show downS wl k = some tot from h3]
      rfl
    rcases opR (addE_ok ht.1 (gt_nn hw.2.1 k).1) hx hv with ⟨e1, e2⟩ | ⟨e1, e2⟩
    · exact .inl ⟨e1, h2, hs.trans e2⟩
    · refine .inr ⟨e1, ?_⟩
      unfold statL
      rw [h2]
      show (totS wl (cp + 1)).bind _ = none
      rw [show totS wl (cp + 1) = none from downS_none (hs.trans e2) (by omega)]
      rfl
  · cases h
theorem RsT.big {wl : List Fr} {k : Nat} {tot : Fr} (h : RsT rows cp wl k tot true) : statL rows cp = none := by
  rcases h with ⟨h, _⟩ | h
  · cases h
  · exact h.2
theorem RsT.div {wl : List Fr} {tot : Fr} {x : Bool} (h : RsT rows cp wl (cp + 1) tot x) (hl : wl.length = cp + 1) : RsV rows cp wl tot 0 wl x := by
  refine ⟨hl, ?_⟩
  rcases h with ⟨h1, h2, h3⟩ | h
  · exact .inl ⟨h1, h2, h3, rfl⟩
  · exact .inr h
theorem RsV.step (hr : RowsOk rows cp) {wl : List Fr} {tot : Fr} {i : Nat} {r : List Fr} (h : RsV rows cp wl tot i r false) (hi : i ≤ cp) {x : Bool} {v : Fr} (hx : (false || ((divE (gt r i) tot).e != 0)) = x) (hv : (⟨(divE (gt r i) tot).n, (divE (gt r i) tot).d⟩ : Fr) = v) : RsV rows cp wl tot (i + 1) (r.set i v) x := by
  refine ⟨by simp [h.1], ?_⟩
  rcases h.2 with ⟨_, h2, h3, h4⟩ | ⟨h, _⟩
  · have hw := wS_good hr (Nat.le_refl _) h2
    have ht := totS_pos hr h2 h3
    have hd := divS_good hw.2.1 ht.1.1 ht.2 h4
    have hs : divS wl tot (i + 1) = (fdiv (gt r i) tot).bind fun v => some (r.set i v) := by
      show (divS wl tot i).bind _ = _
      rw [h4]
      rfl
    rcases opR (divE_ok (gt_nn hd.2 i).1 ht.1.1 (by omega)) hx hv with ⟨e1, e2⟩ | ⟨e1, e2⟩
    · exact .inl ⟨e1, h2, h3, by rw [hs, e2]; rfl⟩
    · refine .inr ⟨e1, ?_⟩
      unfold statL
      rw [h2]
      show (totS wl (cp + 1)).bind _ = none
      rw [h3]
      show divS wl tot (cp + 1) = none
      exact divS_none (i := i + 1) (by rw [hs, e2]; rfl) (by omega)
  · cases h
theorem RsV.done {wl : List Fr} {tot : Fr} {r : List Fr} (h : RsV rows cp wl tot (cp + 1) r false) : statL rows cp = some r := by
  rcases h.2 with ⟨_, h2, h3, h4⟩ | ⟨h, _⟩
  · unfold statL
    rw [h2]
    show (totS wl (cp + 1)).bind _ = _
    rw [h3]
    exact h4
  · cases h
theorem RsV.big {wl : List Fr} {tot : Fr} {i : Nat} {r : List Fr} (h : RsV rows cp wl tot i r true) : statL rows cp = none := by
  rcases h.2 with ⟨h, _⟩ | h
  · cases h
  · exact h.2
end

end Go.Proofs.Ythlgkomhnhkooaa
