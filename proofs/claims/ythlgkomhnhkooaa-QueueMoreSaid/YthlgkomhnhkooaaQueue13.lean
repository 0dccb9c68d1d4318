/-
  casebook/queue's Loss, Number and Wait return what the document says. Conditions: none.
-/
import Derived.Test.YthlgkomhnhkooaaQueue12
import Derived.Test.YthlgkomhnhkooaaQSpec11
namespace Go.Proofs.Ythlgkomhnhkooaa
set_option linter.unusedSimpArgs false
set_option linter.unusedVariables false
open Go.RowKit

theorem numD6 (l : List Fr) : ∀ k, (numD l 6 k).2 = 6
  | 0 => rfl
  | k + 1 => by
    unfold numD
    rw [numD6 l k]
    rfl
theorem numD0 {l : List Fr} (h : ∀ a ∈ l, nn a) : ∀ {k : Nat}, k ≤ 16 → ((numD l 0 k).2 = 0 ∧ numS l k = some (numD l 0 k).1) ∨ ((numD l 0 k).2 = 6 ∧ numS l k = none)
  | 0, _ => .inl ⟨rfl, rfl⟩
  | k + 1, hk => by
    have hs : numS l (k + 1) = (numS l k).bind fun s => (fmul ⟨k, 1⟩ (gt l k)).bind fun p => fadd s p := rfl
    rcases numD0 h (k := k) (by omega) with ⟨e1, e2⟩ | ⟨e1, e2⟩
    · have ns := numS_nn h (by omega) e2
      unfold numD
      rw [hs, e1, e2]
      generalize (numD l 0 k).1 = s at *
      have hn := nat_ok (k := k) (by omega)
      rw [mulE_ok hn.1 (gt_nn h k).1]
      rcases do_of (fmul ⟨k, 1⟩ (gt l k)) with ⟨a1, a2⟩ | ⟨a1, a2⟩
      · have np := nn_mul hn (gt_nn h k) a2
        rw [a1]
        generalize doR 0 (FE.of (fmul ⟨k, 1⟩ (gt l k))) = p at *
        rw [addE_ok ns.1 np.1]
        show _ ∨ (_ ∧ (fmul ⟨k, 1⟩ (gt l k)).bind _ = none)
        rw [a2]
        rcases do_of (fadd s p) with ⟨b1, b2⟩ | ⟨b1, b2⟩
        · left
          exact ⟨b1, b2⟩
        · exact .inr ⟨b1, b2⟩
      · right
        rw [a1]
        refine ⟨rfl, ?_⟩
        show (fmul ⟨k, 1⟩ (gt l k)).bind _ = none
        rw [a2]
        rfl
    · right
      refine ⟨?_, by rw [hs, e2]; rfl⟩
      unfold numD
      rw [e1]
      rfl
theorem endE_do (o : Option Fr) : endE (doX 0 (FE.of o)) (doR 0 (FE.of o)) = FE.of o := by
  cases o <;> rfl
theorem endE6 (a : Fr) : endE 6 a = FE.of none := rfl

section
variable {ar se : Fr} {sv cp : Nat} {r : List Fr} {b : List (List Fr)} {x : Int}
theorem loss_E (hq : QOk ar se sv cp) (hS : StE ar se sv cp b r x) : endE (doX x (lossD r b sv cp)) (doR x (lossD r b sv cp)) = FE.of (lossQ ar se sv cp) := by
  unfold lossQ
  rcases hS.2.2.2 with ⟨rfl, h⟩ | ⟨rfl, h⟩
  · have hg := statQ_good hq h
    have hb := leave_lt hq hg.2.2.2
    rw [h]
    unfold lossD
    rw [mulE_ok (gt_nn hg.2.1 cp).1 hb.2.1]
    exact endE_do _
  · rw [h]
    exact endE6 _
theorem num_E (hq : QOk ar se sv cp) (hS : StE ar se sv cp b r x) : endE (numD r x (cp + 1)).2 (numD r x (cp + 1)).1 = FE.of (numQ ar se sv cp) := by
  unfold numQ
  rcases hS.2.2.2 with ⟨rfl, h⟩ | ⟨rfl, h⟩
  · have hg := statQ_good hq h
    rw [h]
    show _ = FE.of (numS r (cp + 1))
    rcases numD0 hg.2.1 (k := cp + 1) (by have := hq.c2; omega) with ⟨e1, e2⟩ | ⟨e1, e2⟩
    · rw [e1, e2]; rfl
    · rw [e1, e2]; rfl
  · rw [h, numD6]
    exact endE6 _
theorem wait_E (hq : QOk ar se sv cp) (hS : StE ar se sv cp b r x) : waitE ar r b sv cp x = FE.of (waitQ ar se sv cp) := by
  unfold waitQ
  rcases hS.2.2.2 with ⟨rfl, h⟩ | ⟨rfl, h⟩
  · have hg := statQ_good hq h
    have hb := leave_lt hq hg.2.2.2
    unfold waitE
    simp only
    have hL : lossQ ar se sv cp = fmul (gt r cp) (gt (rw' b sv) 0) := by unfold lossQ; rw [h]; rfl
    have hN : numQ ar se sv cp = numS r (cp + 1) := by unfold numQ; rw [h]; rfl
    have hD : lossD r b sv cp = FE.of (lossQ ar se sv cp) := by rw [hL]; exact mulE_ok (gt_nn hg.2.1 cp).1 hb.2.1
    rw [hD, hN]
    have h6 : ∀ (y : Fr) (n6 : Fr × Int), n6 = numD r 6 (cp + 1) → endE (doX n6.2 (divE n6.1 y)) (doR n6.2 (divE n6.1 y)) = FE.of none := by
      intro y n6 e
      rw [e, numD6]
      exact endE6 _
    rcases do_of (lossQ ar se sv cp) with ⟨a1, a2⟩ | ⟨a1, a2⟩
    · have hl := lossQ_good hq a2
      rw [a1]
      have hEn : enterQ ar se sv cp = (fsub oneF (doR 0 (FE.of (lossQ ar se sv cp)))).bind fun s => fmul ar s := by
        show (lossQ ar se sv cp).bind _ = _
        generalize doR 0 (FE.of (lossQ ar se sv cp)) = lo at *
        rw [a2]
        rfl
      have hgood := fun en => enterQ_good (en := en) hq
      rw [hEn] at hgood ⊢
      generalize doR 0 (FE.of (lossQ ar se sv cp)) = lo at *
      rw [subE_ok oneF_ok hl.1.1]
      rcases do_of (fsub oneF lo) with ⟨b1, b2⟩ | ⟨b1, b2⟩
      · have hs := fsub_ok oneF_ok hl.1.1 b2
        rw [b1]
        generalize doR 0 (FE.of (fsub oneF lo)) = s at *
        rw [b2] at hgood ⊢
        rw [mulE_ok hq.oa hs]
        show _ = FE.of ((fmul ar s).bind _)
        rcases do_of (fmul ar s) with ⟨c1, c2⟩ | ⟨c1, c2⟩
        · rw [c1]
          generalize doR 0 (FE.of (fmul ar s)) = en at *
          have hen := hgood en c2
          rw [c2]
          show _ = FE.of ((numS r (cp + 1)).bind _)
          rcases numD0 hg.2.1 (k := cp + 1) (by have := hq.c2; omega) with ⟨e1, e2⟩ | ⟨e1, e2⟩
          · have hn := numS_nn hg.2.1 (by have := hq.c2; omega) e2
            rw [e1, e2, divE_ok hn.1 hen.1 (by omega)]
            exact endE_do _
          · rw [e1, e2]
            exact endE6 _
        · rw [c1, c2]
          exact h6 _ _ rfl
      · rw [b1, b2]
        exact h6 _ _ rfl
    · rw [a1]
      have hEn : enterQ ar se sv cp = none := by
        show (lossQ ar se sv cp).bind _ = _
        rw [a2]
        rfl
      rw [hEn]
      exact h6 _ _ rfl
  · have hEn : enterQ ar se sv cp = none := by
      show (lossQ ar se sv cp).bind _ = _
      unfold lossQ
      rw [h]
      rfl
    rw [hEn]
    show endE (doX (numD r 6 (cp + 1)).2 _) _ = _
    rw [numD6]
    exact endE6 _
end

/-- a mean, with the error numbers -/
def meanA (o : Nat → Nat → Option Fr) (ar se : Fr) (sv cp : Int) : FE := if qokB ar se sv cp then FE.of (o sv.toNat cp.toNat) else FE.err 1
theorem meanA_of {o : Nat → Nat → Option Fr} {ar se : Fr} {sv cp : Int} {E : FE} {P : Nat → Nat → Prop} (h : (qokB ar se sv cp = false ∧ E = FE.err 1) ∨ (∃ s c : Nat, sv = s ∧ cp = c ∧ QOk ar se s c ∧ P s c)) (hP : ∀ s c, QOk ar se s c → P s c → E = FE.of (o s c)) : E = meanA o ar se sv cp := by
  unfold meanA
  rcases h with ⟨h1, h2⟩ | ⟨s, c, rfl, rfl, hq, hp⟩
  · rw [h1, h2]; rfl
  · have : qokB ar se s c = true := by
      simp only [qokB, wiB, Bool.and_eq_true, decide_eq_true_eq, Fr.okB_iff]
      exact ⟨⟨⟨⟨⟨⟨⟨hq.oa, hq.a1⟩, hq.a2⟩, ⟨hq.os, hq.s1⟩, hq.s2⟩, by have := hq.v1; omega⟩, by have := hq.v2; omega⟩, by have := hq.c1; omega⟩, by have := hq.c2; omega⟩
    rw [this, if_pos rfl]
    exact hP s c hq hp

theorem LossA_any (ar se : Fr) (sv cp : Int) (w : World) :
    Calls Try.prog 15 #[.agg #[.int .i64 ar.n, .int .i64 ar.d, .int .i64 se.n, .int .i64 se.d, .int .i64 sv, .int .i64 cp]] w fun e w' => e = .returned (.tuple #[.agg #[.int .i64 (meanA (lossQ ar se) ar se sv cp).n, .int .i64 (meanA (lossQ ar se) ar se sv cp).d], .int .i64 (meanA (lossQ ar se) ar se sv cp).e]) ∧ Below w.heap.size w w' :=
  (Loss_any ar se sv cp w).mono fun e w' ⟨E, he, hb, h⟩ => by
    have : E = meanA (lossQ ar se) ar se sv cp := meanA_of h (fun s c hq ⟨r, b, x, hS, hE⟩ => hE.trans (loss_E hq hS))
    subst this
    exact ⟨he, hb⟩
theorem NumberA_any (ar se : Fr) (sv cp : Int) (w : World) :
    Calls Try.prog 18 #[.agg #[.int .i64 ar.n, .int .i64 ar.d, .int .i64 se.n, .int .i64 se.d, .int .i64 sv, .int .i64 cp]] w fun e w' => e = .returned (.tuple #[.agg #[.int .i64 (meanA (numQ ar se) ar se sv cp).n, .int .i64 (meanA (numQ ar se) ar se sv cp).d], .int .i64 (meanA (numQ ar se) ar se sv cp).e]) ∧ Below w.heap.size w w' :=
  (Number_any ar se sv cp w).mono fun e w' ⟨E, he, hb, h⟩ => by
    have : E = meanA (numQ ar se) ar se sv cp := meanA_of h (fun s c hq ⟨r, b, x, hS, hE⟩ => hE.trans (num_E hq hS))
    subst this
    exact ⟨he, hb⟩
theorem WaitA_any (ar se : Fr) (sv cp : Int) (w : World) :
    Calls Try.prog 20 #[.agg #[.int .i64 ar.n, .int .i64 ar.d, .int .i64 se.n, .int .i64 se.d, .int .i64 sv, .int .i64 cp]] w fun e w' => e = .returned (.tuple #[.agg #[.int .i64 (meanA (waitQ ar se) ar se sv cp).n, .int .i64 (meanA (waitQ ar se) ar se sv cp).d], .int .i64 (meanA (waitQ ar se) ar se sv cp).e]) ∧ Below w.heap.size w w' :=
  (Wait_any ar se sv cp w).mono fun e w' ⟨E, he, hb, h⟩ => by
    have : E = meanA (waitQ ar se) ar se sv cp := meanA_of h (fun s c hq ⟨r, b, x, hS, hE⟩ => hE.trans (wait_E hq hS))
    subst this
    exact ⟨he, hb⟩

end Go.Proofs.Ythlgkomhnhkooaa
