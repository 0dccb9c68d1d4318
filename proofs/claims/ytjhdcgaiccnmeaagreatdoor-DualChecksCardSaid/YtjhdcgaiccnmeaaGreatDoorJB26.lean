import Derived.Test.YtjhdcgaiccnmeaaGreatDoorJB16
import Derived.Test.YtjhdcgaiccnmeaaGreatDoorJB18
import Derived.RangeFuncNested
import Derived.RangeFuncBound
import Derived.RangeFuncCalls
import Derived.RangeFuncLeaves
import Derived.TacticsIn
import Derived.LoopNIn
set_option linter.unusedSimpArgs false
set_option linter.unusedVariables false
set_option linter.unusedSectionVars false
namespace Go.Proofs.YtjhdcgaiccnmeaaGreatDoor
namespace Aw
open Go Go.RowKit Go.Proofs
def zg2 (o : Oper) : Bool := match o.op with | .defer _ => false | _ => true
theorem zg2.ne {o : Oper} (h : zg2 o = true) : ∀ c, o.op ≠ .defer c := fun c e => by simp [zg2, e] at h
section
variable {P : Program} {r n : Nat}
theorem zon {o : Oper} {a : Act} {next next' : Act → World → Prop} {Q : Exit → Act → World → Prop} (hn : ∀ a w, next a w → next' a w) : ∀ {x : Result Next}, o.upon P a next Q x → o.uponIn (Fence.wide.inRound r) n P a next' Q x
 | .ok (.value v) w, h => hn _ _ h
 | .ok .skip w, h => hn _ _ h
 | .ok (.defer d) w, h => hn _ _ h
 | .ok (.enter f args) w, h => ⟨fun h => by simp [Fence.wide] at h, CallsIn.inRound r (callsIn_wide.2 (Calls.mono h fun e w' he => by cases e <;> first | exact hn _ _ he | exact he))⟩
 | .ok (.row row args) w, h => ⟨fun h => by simp [Fence.wide] at h, fun c cs _ => by
   obtain ⟨v, w', h1, h2⟩ := h c cs
   exact ⟨v, w', hn _ _ h1, (stepsIn_wide (P := P)).2 h2⟩⟩
 | .ok (.round _ _ _ _ _) w, h => h.elim
 | .halt (.panic v) w, h => h
theorem zv5 {ops : Array Oper} {Q : Exit → Act → World → Prop} (hq : ∀ a w, ¬ Q .outgrown a w) : ∀ (l : List Oper) (hd : l.all zg2 = true) (a : Act) (w : World), wpList P ops Q l a w → wpListIn (Fence.wide.inRound r) n P ops Q l a w
 | [], _, a, w, h => h
 | o :: l, hd, a, w, h => by
  simp only [List.all_cons, Bool.and_eq_true] at hd
  unfold wpList at h
  unfold wpListIn
  split
  ·
   rename_i hw
   rw [if_pos hw] at h
   rcases h with h | ⟨_, a0, w0, h⟩
   ·
    refine ⟨fun _ _ => trivial, ?_⟩
    rw [show (Fence.wide.inRound r).round = some r from rfl, Oper.semAt_some r _ _ (zg2.ne hd.1)]
    exact zon (fun a w h => zv5 hq l hd.2 a w h) h
   ·
    exact absurd h (hq a0 w0)
  ·
   rename_i hw
   rw [if_neg hw] at h
   exact ⟨fun _ _ => trivial, zv5 hq l hd.2 _ _ h⟩
end
def RWp (P : Program) (N r n : Nat) (c : Code) (F : Frm) (σ : List Ob) (Q : Exit → Frm → List Ob → Prop) : Prop :=
 ∀ G a, S8 N G a F σ → c.wpIn (Fence.wide.inRound r) n P (znq N G Q) a G.w
section
variable {P : Program} {N r n : Nat} {F : Frm} {σ : List Ob} {Q : Exit → Frm → List Ob → Prop}
theorem zz3 {x y : Code} (h : RWp P N r n x F σ (zeh (fun F σ => RWp P N r n y F σ Q) Q)) : RWp P N r n (.seq x y) F σ Q := fun G a hs => by
 refine wpIn_seq (wpIn_mono (h G a hs) (fun e a1 w1 q => ?_))
 obtain ⟨G', F', σ', rfl, h2, h3, h4⟩ := q
 cases e with
 | normal => exact wpIn_mono (h4 G' a1 h3) (fun e a w q => zgn h2 (fun _ _ _ x => x) q)
 | _ => exact ⟨G', F', σ', rfl, h2, h3, h4⟩
theorem z0w (h : Q .normal F σ) : RWp P N r n .skip F σ Q := fun G a hs => wpIn_skip ⟨G, F, σ, rfl, .refl G, hs, h⟩
theorem zx7 {id : Nat} {c : Code} (h : RWp P N r n c F σ (ABlk id Q)) : RWp P N r n (.block id c) F σ Q := fun G a hs => by
 refine wpIn_block (wpIn_mono (h G a hs) (fun e a1 w1 q => ?_))
 obtain ⟨G', F', σ', rfl, h2, h3, h4⟩ := q
 cases e with
 | exit id' =>
  simp only [ABlk] at h4
  simp only [Exit.inBlock]
  split
  ·
   rename_i e; rw [if_pos e] at h4; exact ⟨G', F', σ', rfl, h2, h3, h4⟩
  ·
   rename_i e; rw [if_neg e] at h4; exact ⟨G', F', σ', rfl, h2, h3, h4⟩
 | _ => exact ⟨G', F', σ', rfl, h2, h3, h4⟩
theorem z0x {c : Operand} {x y : Code} {b : Bool} (hc : F.eval c = .s (.bool b)) (ht : b = true → RWp P N r n x F σ Q) (hf : b = false → RWp P N r n y F σ Q) : RWp P N r n (.cond c x y) F σ Q := fun G a hs =>
 wpIn_cond_split (zgx hs.fr hc) (fun e => ht e G a hs) (fun e => hf e G a hs)
theorem rw_if {c : Operand} {x y : Code} {p : Prop} [Decidable p] (hc : F.eval c = .s (.bool (decide p))) (ht : p → RWp P N r n x F σ Q) (hf : ¬ p → RWp P N r n y F σ Q) : RWp P N r n (.cond c x y) F σ Q :=
 z0x hc (fun e => ht (of_decide_eq_true e)) (fun e => hf (of_decide_eq_false e))
theorem zor {id : Nat} {l : List Oper} (hd : l.all zg2 = true) (hq : ∀ F σ, ¬ Q .outgrown F σ) (h : EOps P N l.toArray l F σ Q) : RWp P N r n (.region id l.toArray false) F σ Q := fun G a hs =>
 wpIn_region_lit (zv5 (fun a w q => by obtain ⟨G', F', σ', _, _, _, h⟩ := q; exact hq _ _ h) l hd a G.w (h G a hs))
end
end Aw
namespace Aw
open Go Go.RowKit Go.Proofs
def z1p (N : Nat) (G : Cx) (Q : Exit → Frm → List Ob → Prop) : Exit → Act → World → Prop :=
 fun e a' w' => ∃ (M : Mk) (G' : Cx) (F' : Frm) (σ' : List Ob), G'.w = w' ∧ G.Step G' ∧ @S8 M N G' a' F' σ' ∧ Q e F' σ'
theorem zjn {N : Nat} {G G1 : Cx} (h : G.Step G1) {Q Q' : Exit → Frm → List Ob → Prop} (hq : ∀ e F σ, Q e F σ → Q' e F σ) {e : Exit} {a : Act} {w : World} (x : z1p N G1 Q e a w) : z1p N G Q' e a w := by
 obtain ⟨M, G', F', σ', h1, h2, h3, h4⟩ := x
 exact ⟨M, G', F', σ', h1, h.trans h2, h3, hq _ _ _ h4⟩
def MWp (P : Program) (N : Nat) (c : Code) (F : Frm) (σ : List Ob) (Q : Exit → Frm → List Ob → Prop) : Prop :=
 ∀ (M : Mk) G a, @S8 M N G a F σ → c.wp P (z1p N G Q) a G.w
section
variable {P : Program} {N : Nat} {F : Frm} {σ : List Ob} {Q : Exit → Frm → List Ob → Prop}
theorem zd8 {c : Code} (h : ∀ [Mk], AWp P N c F σ Q) : MWp P N c F σ Q := fun M G a hs =>
 Code.wp_mono (fun e a w q => by obtain ⟨G', F', σ', h1, h2, h3, h4⟩ := q; exact ⟨M, G', F', σ', h1, h2, h3, h4⟩) (@h M G a hs)
theorem zd1 {x y : Code} (h : MWp P N x F σ (zeh (fun F σ => MWp P N y F σ Q) Q)) : MWp P N (.seq x y) F σ Q := fun M G a hs => by
 refine wp_seq (Code.wp_mono (fun e a1 w1 q => ?_) (h M G a hs))
 obtain ⟨M', G', F', σ', rfl, h2, h3, h4⟩ := q
 cases e with
 | normal => exact Code.wp_mono (fun e a w q => zjn h2 (fun _ _ _ x => x) q) (h4 M' G' a1 h3)
 | _ => exact ⟨M', G', F', σ', rfl, h2, h3, h4⟩
theorem zc6 (h : Q .normal F σ) : MWp P N .skip F σ Q := fun M G a hs => wp_skip ⟨M, G, F, σ, rfl, .refl G, hs, h⟩
theorem zlg {id : Nat} (h : Q (.exit id) F σ) : MWp P N (.exit id) F σ Q := fun M G a hs => wp_exit ⟨M, G, F, σ, rfl, .refl G, hs, h⟩
theorem zpa (h : Q .ret F σ) : MWp P N .ret F σ Q := fun M G a hs => wp_ret ⟨M, G, F, σ, rfl, .refl G, hs, h⟩
theorem zes {id : Nat} {c : Code} (h : MWp P N c F σ (ABlk id Q)) : MWp P N (.block id c) F σ Q := fun M G a hs => by
 refine wp_block (Code.wp_mono (fun e a1 w1 q => ?_) (h M G a hs))
 obtain ⟨M', G', F', σ', rfl, h2, h3, h4⟩ := q
 cases e with
 | exit id' =>
  simp only [ABlk] at h4
  simp only [Exit.inBlock]
  split
  ·
   rename_i e; rw [if_pos e] at h4; exact ⟨M', G', F', σ', rfl, h2, h3, h4⟩
  ·
   rename_i e; rw [if_neg e] at h4; exact ⟨M', G', F', σ', rfl, h2, h3, h4⟩
 | _ => exact ⟨M', G', F', σ', rfl, h2, h3, h4⟩
theorem zvw {c : Operand} {x y : Code} {b : Bool} (hc : F.eval c = .s (.bool b)) (ht : b = true → MWp P N x F σ Q) (hf : b = false → MWp P N y F σ Q) : MWp P N (.cond c x y) F σ Q := fun M G a hs =>
 wp_cond_split (zgx hs.fr hc) (fun e => ht e M G a hs) (fun e => hf e M G a hs)
theorem z1f {c : Code} (I : Nat → Frm → List Ob → Prop) (m : Nat) (h0 : I m F σ)
  (round : ∀ m F σ, I m F σ → MWp P N c F σ (zeh (fun F' σ' => ∃ m', m' < m ∧ I m' F' σ') Q)) : MWp P N (.loop c) F σ Q := fun M G a hs => by
 refine wp_loop_ghost (fun n a w => ∃ (M : Mk) (G' : Cx) (F' : Frm) (σ' : List Ob), G'.w = w ∧ G.Step G' ∧ @S8 M N G' a F' σ' ∧ I n F' σ') m ⟨M, G, F, σ, rfl, .refl G, hs, h0⟩ ?_
 rintro n a w ⟨M', G', F', σ', rfl, h2, h3, h4⟩
 refine Code.wp_mono (fun e a1 w1 q => ?_) (round n F' σ' h4 M' G' a h3)
 obtain ⟨M2, G2, F2, σ2, rfl, h5, h6, h7⟩ := q
 cases e with
 | normal => obtain ⟨m', hm, hi⟩ := h7; exact ⟨m', hm, ⟨M2, G2, F2, σ2, rfl, h2.trans h5, h6, hi⟩⟩
 | _ => exact ⟨M2, G2, F2, σ2, rfl, h2.trans h5, h6, h7⟩
theorem z1e {c : Code} {Q' : Exit → Frm → List Ob → Prop} (h : MWp P N c F σ Q) (hq : ∀ e F σ, Q e F σ → Q' e F σ) : MWp P N c F σ Q' := fun M G a hs =>
 Code.wp_mono (fun e a w q => zjn (.refl G) hq q) (h M G a hs)
theorem zg3 {c : Code} {F' : Frm} {σ' : List Ob} (w : ∀ [Mk], Weak N F σ F' σ') (h : MWp P N c F' σ' Q) : MWp P N c F σ Q := fun M G a hs => by
 obtain ⟨G1, e1, s1, h1⟩ := @w M G a hs
 rw [← e1]
 exact Code.wp_mono (fun e a w q => zjn s1 (fun _ _ _ x => x) q) (h M G1 a h1)
end
end Aw
end Go.Proofs.YtjhdcgaiccnmeaaGreatDoor
