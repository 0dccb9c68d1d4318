/-
  Plain mathematics of the queue's chain: the states of the computation of the stationary probabilities. No program in sight. Conditions: none.
-/
import Derived.Test.YthlgkomhnhkooaaQSpec4
namespace Go.Proofs.Ythlgkomhnhkooaa
set_option linter.unusedSimpArgs false
set_option linter.unusedVariables false

section
variable (ar se : Fr) (sv cp : Nat) (rows b : List (List Fr))
def Cq : Prop := chainQ ar se sv cp = some (rows, b)
def SW (t : Nat) (wl : List Fr) (x : Int) : Prop := wl.length = cp + 1 ∧ ((x = 0 ∧ Cq ar se sv cp rows b ∧ wS rows cp t = some wl) ∨ (x = 6 ∧ statQ ar se sv cp = none))
def SS (t : Nat) (wl : List Fr) (i : Nat) (s : Fr) (x : Int) : Prop := (x = 0 ∧ Cq ar se sv cp rows b ∧ wS rows cp t = some wl ∧ sumS rows wl (cp - 1 - t) i = some s) ∨ (x = 6 ∧ statQ ar se sv cp = none)
def SD (t : Nat) (wl : List Fr) (i : Nat) (s : Fr) (k : Nat) (d : Fr) (x : Int) : Prop := (x = 0 ∧ Cq ar se sv cp rows b ∧ wS rows cp t = some wl ∧ sumS rows wl (cp - 1 - t) i = some s ∧ downS (rw' rows (cp - 1 - t + 1 + i)) k = some d) ∨ (x = 6 ∧ statQ ar se sv cp = none)
def ST (wl : List Fr) (k : Nat) (tot : Fr) (x : Int) : Prop := (x = 0 ∧ Cq ar se sv cp rows b ∧ wS rows cp cp = some wl ∧ totS wl k = some tot) ∨ (x = 6 ∧ statQ ar se sv cp = none)
def SV (wl : List Fr) (tot : Fr) (i : Nat) (r : List Fr) (x : Int) : Prop := r.length = cp + 1 ∧ ((x = 0 ∧ Cq ar se sv cp rows b ∧ wS rows cp cp = some wl ∧ totS wl (cp + 1) = some tot ∧ divS wl tot i = some r) ∨ (x = 6 ∧ statQ ar se sv cp = none))
/-- what stationary returns -/
def StE (r : List Fr) (x : Int) : Prop := r.length = cp + 1 ∧ b.length = sv + 1 ∧ (∀ (i : Nat) (l : List Fr), b[i]? = some l → l.length = i + 1) ∧ ((x = 0 ∧ statQ ar se sv cp = some (r, b)) ∨ (x = 6 ∧ statQ ar se sv cp = none))
end

section
variable {ar se : Fr} {sv cp : Nat} {rows b : List (List Fr)}
theorem stat_none_w (hc : Cq ar se sv cp rows b) {t : Nat} (ht : t ≤ cp) (h : wS rows cp t = none) : statQ ar se sv cp = none := by
  unfold statQ
  rw [show chainQ ar se sv cp = some (rows, b) from hc]
  show (wS rows cp cp).bind _ = none
  rw [wS_none h ht]
  rfl
theorem stat_none_s (hc : Cq ar se sv cp rows b) {t : Nat} (ht : t < cp) {wl : List Fr} (hw : wS rows cp t = some wl) {i : Nat} (hi : i ≤ cp - (cp - 1 - t)) (h : sumS rows wl (cp - 1 - t) i = none) : statQ ar se sv cp = none := by
  refine stat_none_w hc (t := t + 1) (by omega) ?_
  unfold wS
  rw [hw]
  show (weightS rows wl cp (cp - 1 - t)).bind _ = none
  unfold weightS
  rw [sumS_none h hi]
  rfl
theorem SW.start {x : Int} {rows b : List (List Fr)} (h : ChE ar se sv cp rows b x) : SW ar se sv cp rows b 0 ((List.replicate (cp + 1) zeroF).set cp oneF) x := by
  refine ⟨by simp, ?_⟩
  rcases h.2.2.2.2 with ⟨rfl, h1⟩ | ⟨rfl, h1⟩
  · exact .inl ⟨rfl, h1, rfl⟩
  · right
    refine ⟨rfl, ?_⟩
    unfold statQ
    rw [h1]
    rfl
theorem SW.sum {t : Nat} {wl : List Fr} {x : Int} (h : SW ar se sv cp rows b t wl x) : SS ar se sv cp rows b t wl 0 zeroF x := by
  rcases h.2 with ⟨h0, h1, h2⟩ | h1
  · exact .inl ⟨h0, h1, h2, rfl⟩
  · exact .inr h1
theorem SS.down {t i : Nat} {wl : List Fr} {s : Fr} {x : Int} (h : SS ar se sv cp rows b t wl i s x) : SD ar se sv cp rows b t wl i s 0 zeroF x := by
  rcases h with ⟨h0, h1, h2, h3⟩ | h1
  · exact .inl ⟨h0, h1, h2, h3, rfl⟩
  · exact .inr h1
theorem SD.step (hq : QOk ar se sv cp) {t i k : Nat} {wl : List Fr} {s d : Fr} {x : Int} (h : SD ar se sv cp rows b t wl i s k d x) (ht : t < cp) (hi : i < cp - (cp - 1 - t)) (hk : k ≤ cp - 1 - t) :
    SD ar se sv cp rows b t wl i s (k + 1) (doR x (addE d (gt (rw' rows (cp - 1 - t + 1 + i)) k))) (doX x (addE d (gt (rw' rows (cp - 1 - t + 1 + i)) k))) := by
  rcases h with ⟨rfl, h1, h2, h3, h4⟩ | ⟨rfl, h1⟩
  · have hr := chainQ_rows hq h1
    have hd := downS_nn (hr.nneg _) h4
    have hg := gt_nn (hr.nneg (cp - 1 - t + 1 + i)) k
    rw [addE_ok hd.1 hg.1]
    rcases do_of (fadd d (gt (rw' rows (cp - 1 - t + 1 + i)) k)) with ⟨e1, e2⟩ | ⟨e1, e2⟩
    · left
      refine ⟨e1, h1, h2, h3, ?_⟩
      show (downS _ k).bind _ = _
      rw [h4]
      exact e2
    · right
      refine ⟨e1, stat_none_s h1 ht h2 (i := i + 1) (by omega) ?_⟩
      have : downS (rw' rows (cp - 1 - t + 1 + i)) (k + 1) = none := by
        show (downS _ k).bind _ = _
        rw [h4]
        exact e2
      show (sumS rows wl (cp - 1 - t) i).bind _ = none
      rw [h3]
      show (downS (rw' rows (cp - 1 - t + 1 + i)) (cp - 1 - t + 1)).bind _ = none
      rw [downS_none this (by omega)]
      rfl
  · exact .inr ⟨rfl, h1⟩
theorem SD.sum (hq : QOk ar se sv cp) {t i : Nat} {wl : List Fr} {s d : Fr} {x : Int} (h : SD ar se sv cp rows b t wl i s (cp - 1 - t + 1) d x) (ht : t < cp) (hi : i < cp - (cp - 1 - t)) :
    SS ar se sv cp rows b t wl (i + 1) (doR (doX x (mulE d (gt wl (cp - 1 - t + 1 + i)))) (addE s (doR x (mulE d (gt wl (cp - 1 - t + 1 + i)))))) (doX (doX x (mulE d (gt wl (cp - 1 - t + 1 + i)))) (addE s (doR x (mulE d (gt wl (cp - 1 - t + 1 + i)))))) := by
  rcases h with ⟨rfl, h1, h2, h3, h4⟩ | ⟨rfl, h1⟩
  · have hr := chainQ_rows hq h1
    have hd := downS_nn (hr.nneg _) h4
    have hw := wS_good hr (by omega) h2
    have hg := gt_nn hw.2.1 (cp - 1 - t + 1 + i)
    have hs := sumS_nn hr.nneg hw.2.1 h3
    have hfail : (fmul d (gt wl (cp - 1 - t + 1 + i))).bind (fun p => fadd s p) = none → statQ ar se sv cp = none := by
      intro e
      refine stat_none_s h1 ht h2 (i := i + 1) (by omega) ?_
      show (sumS rows wl (cp - 1 - t) i).bind _ = none
      rw [h3]
      show (downS (rw' rows (cp - 1 - t + 1 + i)) (cp - 1 - t + 1)).bind _ = none
      rw [h4]
      exact e
    rw [mulE_ok hd.1 hg.1]
    rcases do_of (fmul d (gt wl (cp - 1 - t + 1 + i))) with ⟨e1, e2⟩ | ⟨e1, e2⟩
    · rw [e1]
      have hp := nn_mul hd hg e2
      generalize doR 0 (FE.of (fmul d (gt wl (cp - 1 - t + 1 + i)))) = p at *
      rw [addE_ok hs.1 hp.1]
      rcases do_of (fadd s p) with ⟨e3, e4⟩ | ⟨e3, e4⟩
      · left
        refine ⟨e3, h1, h2, ?_⟩
        show (sumS rows wl (cp - 1 - t) i).bind _ = _
        rw [h3]
        show (downS (rw' rows (cp - 1 - t + 1 + i)) (cp - 1 - t + 1)).bind _ = _
        rw [h4]
        show (fmul d (gt wl (cp - 1 - t + 1 + i))).bind _ = _
        rw [e2]
        exact e4
      · right
        refine ⟨e3, hfail ?_⟩
        rw [e2]
        exact e4
    · right
      rw [e1]
      refine ⟨rfl, hfail ?_⟩
      rw [e2]
      rfl
  · exact .inr ⟨rfl, h1⟩
theorem SS.weight (hq : QOk ar se sv cp) {t : Nat} {wl : List Fr} {s : Fr} {x : Int} (h : SS ar se sv cp rows b t wl (cp - (cp - 1 - t)) s x) (ht : t < cp) (hl : wl.length = cp + 1) :
    SW ar se sv cp rows b (t + 1) (wl.set (cp - 1 - t) (doR x (divE s (gt (rw' rows (cp - 1 - t)) (cp - 1 - t + 1))))) (doX x (divE s (gt (rw' rows (cp - 1 - t)) (cp - 1 - t + 1)))) := by
  refine ⟨by simp [hl], ?_⟩
  rcases h with ⟨rfl, h1, h2, h3⟩ | ⟨rfl, h1⟩
  · have hr := chainQ_rows hq h1
    have hw := wS_good hr (by omega) h2
    have hs := sumS_nn hr.nneg hw.2.1 h3
    have hg := gt_nn (hr.nneg (cp - 1 - t)) (cp - 1 - t + 1)
    have hp := hr.pos (cp - 1 - t) (by omega)
    rw [divE_ok hs.1 hg.1 (by omega)]
    rcases do_of (fdiv s (gt (rw' rows (cp - 1 - t)) (cp - 1 - t + 1))) with ⟨e1, e2⟩ | ⟨e1, e2⟩
    · left
      refine ⟨e1, h1, ?_⟩
      show (wS rows cp t).bind _ = _
      rw [h2]
      show (weightS rows wl cp (cp - 1 - t)).bind _ = _
      unfold weightS
      rw [h3]
      show (fdiv s (gt (rw' rows (cp - 1 - t)) (cp - 1 - t + 1))).bind _ = _
      generalize doR 0 (FE.of (fdiv s (gt (rw' rows (cp - 1 - t)) (cp - 1 - t + 1)))) = v at *
      rw [e2]
      rfl
    · right
      refine ⟨e1, stat_none_w h1 (t := t + 1) (by omega) ?_⟩
      show (wS rows cp t).bind _ = _
      rw [h2]
      show (weightS rows wl cp (cp - 1 - t)).bind _ = _
      unfold weightS
      rw [h3]
      show (fdiv s (gt (rw' rows (cp - 1 - t)) (cp - 1 - t + 1))).bind _ = _
      rw [e2]
      rfl
  · exact .inr ⟨rfl, h1⟩
theorem SW.tot {wl : List Fr} {x : Int} (h : SW ar se sv cp rows b cp wl x) : ST ar se sv cp rows b wl 0 zeroF x := by
  rcases h.2 with ⟨h0, h1, h2⟩ | h1
  · exact .inl ⟨h0, h1, h2, rfl⟩
  · exact .inr h1
theorem ST.step (hq : QOk ar se sv cp) {wl : List Fr} {k : Nat} {tot : Fr} {x : Int} (h : ST ar se sv cp rows b wl k tot x) (hk : k ≤ cp) :
    ST ar se sv cp rows b wl (k + 1) (doR x (addE tot (gt wl k))) (doX x (addE tot (gt wl k))) := by
  rcases h with ⟨rfl, h1, h2, h3⟩ | ⟨rfl, h1⟩
  · have hr := chainQ_rows hq h1
    have hw := wS_good hr (Nat.le_refl _) h2
    have ht := downS_nn hw.2.1 h3
    rw [addE_ok ht.1 (gt_nn hw.2.1 k).1]
    have hs : totS wl (k + 1) = fadd tot (gt wl k) := by
      show (downS wl k).bind _ = _
      rw [show downS wl k = some tot from h3]
      rfl
    rcases do_of (fadd tot (gt wl k)) with ⟨e1, e2⟩ | ⟨e1, e2⟩
    · exact .inl ⟨e1, h1, h2, hs.trans e2⟩
    · right
      refine ⟨e1, ?_⟩
      unfold statQ
      rw [show chainQ ar se sv cp = some (rows, b) from h1]
      show (wS rows cp cp).bind _ = none
      rw [h2]
      show (totS wl (cp + 1)).bind _ = none
      rw [show totS wl (cp + 1) = none from downS_none (hs.trans e2) (by omega)]
      rfl
  · exact .inr ⟨rfl, h1⟩
theorem ST.div {wl : List Fr} {tot : Fr} {x : Int} (h : ST ar se sv cp rows b wl (cp + 1) tot x) (hl : wl.length = cp + 1) : SV ar se sv cp rows b wl tot 0 wl x := by
  refine ⟨hl, ?_⟩
  rcases h with ⟨h0, h1, h2, h3⟩ | h1
  · exact .inl ⟨h0, h1, h2, h3, rfl⟩
  · exact .inr h1
theorem SV.step (hq : QOk ar se sv cp) {wl : List Fr} {tot : Fr} {i : Nat} {r : List Fr} {x : Int} (h : SV ar se sv cp rows b wl tot i r x) (hi : i ≤ cp) :
    SV ar se sv cp rows b wl tot (i + 1) (r.set i (doR x (divE (gt r i) tot))) (doX x (divE (gt r i) tot)) := by
  refine ⟨by simp [h.1], ?_⟩
  rcases h.2 with ⟨rfl, h1, h2, h3, h4⟩ | ⟨rfl, h1⟩
  · have hr := chainQ_rows hq h1
    have hw := wS_good hr (Nat.le_refl _) h2
    have ht := totS_pos hr h2 h3
    have hd := divS_good hw.2.1 ht.1.1 ht.2 h4
    rw [divE_ok (gt_nn hd.2 i).1 ht.1.1 (by omega)]
    rcases do_of (fdiv (gt r i) tot) with ⟨e1, e2⟩ | ⟨e1, e2⟩
    · left
      refine ⟨e1, h1, h2, h3, ?_⟩
      show (divS wl tot i).bind _ = _
      rw [h4]
      show (fdiv (gt r i) tot).bind _ = _
      generalize doR 0 (FE.of (fdiv (gt r i) tot)) = v at *
      rw [e2]
      rfl
    · right
      refine ⟨e1, ?_⟩
      unfold statQ
      rw [show chainQ ar se sv cp = some (rows, b) from h1]
      show (wS rows cp cp).bind _ = none
      rw [h2]
      show (totS wl (cp + 1)).bind _ = none
      rw [h3]
      show (divS wl tot (cp + 1)).bind _ = none
      rw [divS_none (i := i + 1) ?_ (by omega)]
      · rfl
      · show (divS wl tot i).bind _ = _
        rw [h4]
        show (fdiv (gt r i) tot).bind _ = _
        rw [e2]
        rfl
  · exact .inr ⟨rfl, h1⟩
theorem SV.done {wl : List Fr} {tot : Fr} {r : List Fr} {x x1 : Int} (h : SV ar se sv cp rows b wl tot (cp + 1) r x) (hE : ChE ar se sv cp rows b x1) : StE ar se sv cp b r x := by
  refine ⟨h.1, hE.2.2.1, hE.2.2.2.1, ?_⟩
  rcases h.2 with ⟨h0, h1, h2, h3, h4⟩ | h1
  · left
    refine ⟨h0, ?_⟩
    unfold statQ
    rw [show chainQ ar se sv cp = some (rows, b) from h1]
    show (wS rows cp cp).bind _ = _
    rw [h2]
    show (totS wl (cp + 1)).bind _ = _
    rw [h3]
    show (divS wl tot (cp + 1)).bind _ = _
    rw [h4]
    rfl
  · exact .inr h1
end

end Go.Proofs.Ythlgkomhnhkooaa
