import Derived.Test.YtjhdcgaiccnmeaaGreatDoorJB30
import Derived.Test.YtjhdcgaiccnmeaaGreatDoorJB18
import Derived.Test.YtjhdcgaiccnmeaaGreatDoorJB21
import Derived.OrdersIn
set_option linter.unusedSimpArgs false
set_option linter.unusedVariables false
set_option linter.unusedSectionVars false
section
namespace Go.Proofs.YtjhdcgaiccnmeaaGreatDoor.Aw
open Go Go.RowKit Go.Proofs
section
variable {P : Program} {N : Nat} {F : Frm} {σ : List Ob} {Q : Exit → Frm → List Ob → Prop}
theorem zfv {c : Operand} {x y : Code} (hc : F.eval c = .s (.bool true)) (ht : MWp P N x F σ Q) : MWp P N (.cond c x y) F σ Q := zvw hc (fun _ => ht) (fun e => by cases e)
theorem ze1 {c : Operand} {x y : Code} (hc : F.eval c = .s (.bool false)) (ht : MWp P N y F σ Q) : MWp P N (.cond c x y) F σ Q := zvw hc (fun e => by cases e) (fun _ => ht)
theorem zi4 {c : Code} {S : Type} (fr : S → Frm) (st : S → List Ob) (inv : S → Prop) (ms : S → Nat) (s0 : S) (hw : ∀ [Mk], Weak N F σ (fr s0) (st s0)) (h0 : inv s0)
  (round : ∀ s, inv s → MWp P N c (fr s) (st s) (zeh (fun F' σ' => ∃ s', inv s' ∧ ms s' < ms s ∧ ∀ [Mk], Weak N F' σ' (fr s') (st s')) Q)) : MWp P N (.loop c) F σ Q := by
 refine zg3 hw (z1f (fun m F σ => ∃ s, inv s ∧ ms s = m ∧ ∀ [Mk], Weak N F σ (fr s) (st s)) (ms s0) ⟨s0, h0, rfl, fun [_] => Weak.refl⟩ (fun m F σ h => ?_))
 obtain ⟨s, h1, rfl, h3⟩ := h
 refine zg3 h3 (z1e (round s h1) (fun e F σ q => ?_))
 cases e with
 | normal => obtain ⟨s', g1, g2, g3⟩ := q; exact ⟨ms s', g2, s', g1, rfl, g3⟩
 | _ => exact q
end
section
variable {P : Program} {r n : Nat}
theorem zzt {ops : Array Oper} {Q : Exit → Act → World → Prop} (hq : ∀ a w, ¬ Q .outgrown a w) (hd : ∀ (i : Nat) o, ops[i]? = some o → zg2 o = true) : ∀ (fuel : Nat) (L : Array Bool) (a : Act) (w : World), wpAny P .any ops Q fuel L a w → wpAnyIn (Fence.wide.inRound r) n P .any ops Q fuel L a w
 | 0, L, a, w, h => h
 | fuel + 1, L, a, w, h => ⟨h.1, fun i hi => by
   have h2 := h.2 i hi
   unfold wpOp at h2
   unfold wpOpIn
   cases ho : ops[i]? with
   | none => simp only [ho] at h2 ⊢; exact zzt hq hd fuel _ _ _ h2
   | some o =>
    simp only [ho] at h2 ⊢
    split
    ·
     rename_i hw
     rw [if_pos hw] at h2
     rcases h2 with h2 | ⟨_, a0, w0, h2⟩
     ·
      refine ⟨fun _ _ => trivial, ?_⟩
      rw [show (Fence.wide.inRound r).round = some r from rfl, Oper.semAt_some r _ _ (zg2.ne (hd i o ho))]
      exact zon (fun a w h => zzt hq hd fuel _ a w h) h2
     ·
      exact absurd h2 (hq a0 w0)
    ·
     rename_i hw
     rw [if_neg hw] at h2
     exact ⟨fun _ _ => trivial, zzt hq hd fuel _ _ _ h2⟩⟩
variable {N : Nat} {F : Frm} {σ : List Ob} {Q : Exit → Frm → List Ob → Prop}
theorem zuw {id : Nat} {l : List Oper} (hm : P.follows .mixedOrders = true) (hd : l.all zg2 = true) (hq : ∀ F σ, ¬ Q .outgrown F σ) (h : zjz P N l F σ Q) : RWp P N r n (.region id l.toArray true) F σ Q := fun G a hs => by
 refine wpIn_region_any hm ?_
 have he := zkp G
 have h1 := h _ a (hs.step he (zn2 hs.rel))
 refine zzt (fun a w q => by obtain ⟨G', F', σ', _, _, _, h⟩ := q; exact hq _ _ h) (fun i o ho => List.all_eq_true.1 hd o (List.mem_of_getElem? (by simpa using ho))) _ _ _ _ ?_
 exact zdm (fun e a w q => zgn he (fun _ _ _ x => x) q) _ _ _ _ (by simpa using h1)
end
theorem zsr {P : Program} {N : Nat} {l : List Oper} {F : Frm} {σ : List Ob} {Q : Exit → Frm → List Ob → Prop} (h : EX P N l.toArray l [] l F σ (fun F' σ' => Q .normal F' σ')) : zjz P N l F σ Q := by
 obtain ⟨F', σ', out, ks, sts, h1, h2, h3⟩ := h
 exact ze8 h1 (by simpa using h2) h3
theorem ps2_ok {G : Cx} {a : Act} {F : Frm} {N p q : Nat} {u v : Value} {x y : AV} (hf : FOk G a F) (hn : a.tmps.size = N) (hp : p < N) (hq : q < N) (hu : Rep G u x) (hv : Rep G v y) :
  FOk G (znl a #[p, q] #[u, v]) ((q, y) :: (p, x) :: F) ∧ (znl a #[p, q] #[u, v]).tmps.size = N := by
 have e : znl a #[p, q] #[u, v] = { tmps := (a.tmps.setIfInBounds p u).setIfInBounds q v, defers := [] } := by simp [znl]
 rw [e]
 refine ⟨?_, by simp [hn]⟩
 have h1 : FOk G { tmps := a.tmps.setIfInBounds p u, defers := [] } ((p, x) :: F) := hf.put (d := p) (by omega) hu
 exact h1.put (d := q) (by simp; omega) hv
end Go.Proofs.YtjhdcgaiccnmeaaGreatDoor.Aw
end
