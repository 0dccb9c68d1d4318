import Derived.Test.YtllkbjcemecmjaaJR6
import Derived.Test.YtllkbjcemecmjaaJR4
import Derived.Test.YtllkbjcemecmjaaJR5
import Derived.WalkKit
set_option linter.unusedSimpArgs false
set_option linter.unusedVariables false
set_option linter.unusedSectionVars false
section
namespace Go.Proofs.Ytllkbjcemecmjaa.Aw.K1
open Go Go.RowKit Go.Proofs
structure KE (G G' : Cx) : Prop where
 step : G.Step G'
 mu0 : ∀ i y, i < 1 → G.mu i = some y → G'.mu i = some y
 rows : zb8 G.w G'.w
 size : G.w.heap.size ≤ G'.w.heap.size
theorem KE.refl (G : Cx) : KE G G := ⟨.refl G, fun _ _ _ h => h, zb8.refl _, Nat.le_refl _⟩
theorem KE.trans {G H K : Cx} (h : KE G H) (k : KE H K) : KE G K := ⟨h.step.trans k.step, fun i y hi x => k.mu0 i y hi (h.mu0 i y hi x), h.rows.trans k.rows, Nat.le_trans h.size k.size⟩
theorem KE.of {G G' : Cx} (e : G.Ext G') : KE G G' := ⟨e.step, fun i y _ h => e.mu i y h, e.rows, e.size⟩
def liftK (N : Nat) (G : Cx) (Q : Exit → Frm → List Ob → Prop) : Exit → Act → World → Prop :=
 fun e a' w' => ∃ G' F' σ', G'.w = w' ∧ KE G G' ∧ S8 N G' a' F' σ' ∧ Q e F' σ'
theorem liftK_mono {N : Nat} {G G1 : Cx} (h : KE G G1) {Q Q' : Exit → Frm → List Ob → Prop} (hq : ∀ e F σ, Q e F σ → Q' e F σ) {e : Exit} {a : Act} {w : World} (x : liftK N G1 Q e a w) : liftK N G Q' e a w := by
 obtain ⟨G', F', σ', h1, h2, h3, h4⟩ := x
 exact ⟨G', F', σ', h1, h.trans h2, h3, hq _ _ _ h4⟩
def KWp (P : Program) (N : Nat) (c : Code) (F : Frm) (σ : List Ob) (Q : Exit → Frm → List Ob → Prop) : Prop :=
 ∀ G a, S8 N G a F σ → c.wp P (liftK N G Q) a G.w
def KOps (P : Program) (N : Nat) (ops : Array Oper) (l : List Oper) (F : Frm) (σ : List Ob) (Q : Exit → Frm → List Ob → Prop) : Prop :=
 ∀ G a, S8 N G a F σ → wpList P ops (liftK N G Q) l a G.w
section
variable {P : Program} {N : Nat} {F : Frm} {σ : List Ob} {Q : Exit → Frm → List Ob → Prop}
theorem kw_seq {x y : Code} (h : KWp P N x F σ (AThen (fun F σ => KWp P N y F σ Q) Q)) : KWp P N (.seq x y) F σ Q := fun G a hs => by
 refine wp_seq (Code.wp_mono (fun e a1 w1 q => ?_) (h G a hs))
 obtain ⟨G', F', σ', rfl, h2, h3, h4⟩ := q
 cases e with
 | normal => exact Code.wp_mono (fun e a w q => liftK_mono h2 (fun _ _ _ x => x) q) (h4 G' a1 h3)
 | _ => exact ⟨G', F', σ', rfl, h2, h3, h4⟩
theorem kw_skip (h : Q .normal F σ) : KWp P N .skip F σ Q := fun G a hs => wp_skip ⟨G, F, σ, rfl, .refl G, hs, h⟩
theorem kw_exit {id : Nat} (h : Q (.exit id) F σ) : KWp P N (.exit id) F σ Q := fun G a hs => wp_exit ⟨G, F, σ, rfl, .refl G, hs, h⟩
theorem kw_ret (h : Q .ret F σ) : KWp P N .ret F σ Q := fun G a hs => wp_ret ⟨G, F, σ, rfl, .refl G, hs, h⟩
theorem kw_block {id : Nat} {c : Code} (h : KWp P N c F σ (ABlk id Q)) : KWp P N (.block id c) F σ Q := fun G a hs => by
 refine wp_block (Code.wp_mono (fun e a1 w1 q => ?_) (h G a hs))
 obtain ⟨G', F', σ', rfl, h2, h3, h4⟩ := q
 cases e with
 | exit id' =>
  simp only [ABlk] at h4
  simp only [Exit.inBlock]
  split
  ·
   rename_i e; rw [if_pos e] at h4; exact ⟨G', F', σ', rfl, h2, h3, h4⟩
  ·
   rename_i e; rw [if_neg e] at h4; exact ⟨G', F', σ', rfl, h2, h3, h4⟩
 | _ => exact ⟨G', F', σ', rfl, h2, h3, h4⟩
theorem kw_cond {c : Operand} {x y : Code} {b : Bool} (hc : F.eval c = .s (.bool b)) (ht : b = true → KWp P N x F σ Q) (hf : b = false → KWp P N y F σ Q) : KWp P N (.cond c x y) F σ Q := fun G a hs =>
 wp_cond_split (rep_bool hs.fr hc) (fun e => ht e G a hs) (fun e => hf e G a hs)
theorem kw_true {c : Operand} {x y : Code} (hc : F.eval c = .s (.bool true)) (ht : KWp P N x F σ Q) : KWp P N (.cond c x y) F σ Q := kw_cond hc (fun _ => ht) (fun e => by cases e)
theorem kw_false {c : Operand} {x y : Code} (hc : F.eval c = .s (.bool false)) (ht : KWp P N y F σ Q) : KWp P N (.cond c x y) F σ Q := kw_cond hc (fun e => by cases e) (fun _ => ht)
theorem kw_loop {c : Code} (I : Nat → Frm → List Ob → Prop) (m : Nat) (h0 : I m F σ)
  (round : ∀ m F σ, I m F σ → KWp P N c F σ (AThen (fun F' σ' => ∃ m', m' < m ∧ I m' F' σ') Q)) : KWp P N (.loop c) F σ Q := fun G a hs => by
 refine wp_loop_ghost (fun n a w => ∃ G' F' σ', G'.w = w ∧ KE G G' ∧ S8 N G' a F' σ' ∧ I n F' σ') m ⟨G, F, σ, rfl, .refl G, hs, h0⟩ ?_
 rintro n a w ⟨G', F', σ', rfl, h2, h3, h4⟩
 refine Code.wp_mono (fun e a1 w1 q => ?_) (round n F' σ' h4 G' a h3)
 obtain ⟨G2, F2, σ2, rfl, h5, h6, h7⟩ := q
 cases e with
 | normal => obtain ⟨m', hm, hi⟩ := h7; exact ⟨m', hm, ⟨G2, F2, σ2, rfl, h2.trans h5, h6, hi⟩⟩
 | _ => exact ⟨G2, F2, σ2, rfl, h2.trans h5, h6, h7⟩
theorem kw_region {id : Nat} {l : List Oper} (h : KOps P N l.toArray l F σ Q) : KWp P N (.region id l.toArray false) F σ Q := fun G a hs => wp_region_lit (h G a hs)
theorem kw_mono {c : Code} {Q' : Exit → Frm → List Ob → Prop} (h : KWp P N c F σ Q) (hq : ∀ e F σ, Q e F σ → Q' e F σ) : KWp P N c F σ Q' := fun G a hs =>
 Code.wp_mono (fun e a w q => liftK_mono (.refl G) hq q) (h G a hs)
end
section
variable {P : Program} {N : Nat} {F : Frm} {σ σ' : List Ob} {Q : Exit → Frm → List Ob → Prop} {ops : Array Oper} {o : Oper} {l : List Oper} {x : AV}
theorem kops_nil (h : Q .normal F σ) : KOps P N ops [] F σ Q := fun G a hs => ⟨G, F, σ, rfl, .refl G, hs, h⟩
theorem kops_op {d : Nat} (hd : o.dst = some d) (hN : Nat.blt d N = true) (hr : Runs ops F o true) (hD : Does P o F σ x σ') (k : KOps P N ops l ((d, x) :: F) σ' Q) : KOps P N ops (o :: l) F σ Q := fun G a hs => by
 unfold wpList
 rw [if_pos (hr.wanted hs.fr)]
 left
 refine hD G a _ _ hs.rel (fun y _ => zcs hs.fr y) (fun v G' e r hv => ?_)
 rw [hd]
 exact zce (fun e' a w q => liftK_mono (KE.of e) (fun _ _ _ x => x) q) _ _ _ (k G' _ ((hs.step e r).put (by simpa [Nat.blt_eq] using hN) hv))
theorem kops_eff (hd : o.dst = none) (hr : Runs ops F o true) (hD : Does P o F σ x σ') (k : KOps P N ops l F σ' Q) : KOps P N ops (o :: l) F σ Q := fun G a hs => by
 unfold wpList
 rw [if_pos (hr.wanted hs.fr)]
 left
 refine hD G a _ _ hs.rel (fun y _ => zcs hs.fr y) (fun v G' e r hv => ?_)
 rw [hd]
 exact zce (fun e' a w q => liftK_mono (KE.of e) (fun _ _ _ x => x) q) _ _ _ (k G' _ (hs.step e r))
theorem kops_skip {d : Nat} (hd : o.dst = some d) (hN : Nat.blt d N = true) (hr : Runs ops F o false) (k : KOps P N ops l ((d, .s undef) :: F) σ Q) : KOps P N ops (o :: l) F σ Q := fun G a hs => by
 unfold wpList
 rw [if_neg (by rw [hr.wanted hs.fr]; simp)]
 rw [hd]
 exact k G _ (hs.put (by simpa [Nat.blt_eq] using hN) (.s _))
end
def WeakK (N : Nat) (F : Frm) (σ : List Ob) (F' : Frm) (σ' : List Ob) : Prop := ∀ G a, S8 N G a F σ → ∃ G', G'.w = G.w ∧ KE G G' ∧ S8 N G' a F' σ'
theorem WeakK.refl {N : Nat} {F : Frm} {σ : List Ob} : WeakK N F σ F σ := fun G a h => ⟨G, rfl, .refl G, h⟩
section
variable {P : Program} {N : Nat} {F F' : Frm} {σ σ' : List Ob} {Q : Exit → Frm → List Ob → Prop}
theorem kw_weak {c : Code} (w : WeakK N F σ F' σ') (h : KWp P N c F' σ' Q) : KWp P N c F σ Q := fun G a hs => by
 obtain ⟨G1, e1, s1, h1⟩ := w G a hs
 rw [← e1]
 exact Code.wp_mono (fun e a w q => liftK_mono s1 (fun _ _ _ x => x) q) (h G1 a h1)
theorem kops_weak {ops : Array Oper} {l : List Oper} (w : WeakK N F σ F' σ') (h : KOps P N ops l F' σ' Q) : KOps P N ops l F σ Q := fun G a hs => by
 obtain ⟨G1, e1, s1, h1⟩ := w G a hs
 rw [← e1]
 exact zce (fun e a w q => liftK_mono s1 (fun _ _ _ x => x) q) _ _ _ (h G1 a h1)
theorem kw_loops {c : Code} {S : Type} (fr : S → Frm) (st : S → List Ob) (inv : S → Prop) (ms : S → Nat) (s0 : S) (hw : WeakK N F σ (fr s0) (st s0)) (h0 : inv s0)
  (round : ∀ s, inv s → KWp P N c (fr s) (st s) (AThen (fun F' σ' => ∃ s', inv s' ∧ ms s' < ms s ∧ WeakK N F' σ' (fr s') (st s')) Q)) : KWp P N (.loop c) F σ Q := by
 refine kw_weak hw (kw_loop (fun m F σ => ∃ s, inv s ∧ ms s = m ∧ WeakK N F σ (fr s) (st s)) (ms s0) ⟨s0, h0, rfl, WeakK.refl⟩ (fun m F σ h => ?_))
 obtain ⟨s, h1, rfl, h3⟩ := h
 refine kw_weak h3 (kw_mono (round s h1) (fun e F σ q => ?_))
 cases e with
 | normal => obtain ⟨s', g1, g2, g3⟩ := q; exact ⟨ms s', g2, s', g1, rfl, g3⟩
 | _ => exact q
variable {ops : Array Oper} {o : Oper} {l : List Oper} {d : Nat}
theorem kops_opP {p : Prop} [Decidable p] (hd : o.dst = some d) (hN : Nat.blt d N = true) (hr : Runs ops F o true) (hD : Does P o F σ (.s (.bool (decide p))) σ) (k1 : p → KOps P N ops l ((d, .s (.bool true)) :: F) σ Q) (k2 : ¬ p → KOps P N ops l ((d, .s (.bool false)) :: F) σ Q) : KOps P N ops (o :: l) F σ Q := by
 by_cases h : p
 ·
  exact kops_op hd hN hr (zds h hD) (k1 h)
 ·
  exact kops_op hd hN hr (dec_f h hD) (k2 h)
end
section
variable {N : Nat} {F F' : Frm} {σ σ' : List Ob}
theorem WeakK.weak (h : WeakK N F σ F' σ') : Weak N F σ F' σ' := fun G a hs => by
 obtain ⟨G', h1, h2, h3⟩ := h G a hs
 exact ⟨G', h1, h2.step, h3⟩
theorem WeakK.trans {F1 F2 : Frm} {σ1 σ2 : List Ob} (h : WeakK N F σ F1 σ1) (k : WeakK N F1 σ1 F2 σ2) : WeakK N F σ F2 σ2 := fun G a hs => by
 obtain ⟨G1, e1, s1, h1⟩ := h G a hs
 obtain ⟨G2, e2, s2, h2⟩ := k G1 a h1
 exact ⟨G2, e2.trans e1, s1.trans s2, h2⟩
theorem kwk_froz {id sz : Nat} {cs : List AV} (hs : σ[id]? = some (.row sz cs)) : WeakK N F σ F (σ.set id (.fz sz cs)) := fun G a h => by
 obtain ⟨h1, h2⟩ := froz_ok h.rel hs
 exact ⟨G.froz id, rfl, KE.of h1, h.step h1 h2⟩
theorem kwk_ref {d id sz k : Nat} {cs : List AV} {e : AV} (hd : F.get d = .ptr id sz k 0) (hs : σ[id]? = some (.fz sz cs)) (he : cs[k]? = some e) : WeakK N F σ ((d, .ref e.cells) :: F) σ := fun G a h =>
 ⟨G, rfl, .refl G, h.rel, h.fr.more (rep_fzp h.rel hs he (by rw [← hd]; exact h.fr d)), h.df, h.nt⟩
theorem kwk_cut {X : List Ob} (h0 : 0 < σ.length) (hσ : ∀ ob ∈ σ, LoOb σ.length ob) (hF : FrLo F σ.length F') : WeakK N F (σ ++ X) F' σ := fun G a h => by
 let G' : Cx := { G with mu := fun i => if i < σ.length then G.mu i else none }
 have hmu : ∀ i, i < σ.length → G'.mu i = G.mu i := fun i hi => if_pos hi
 have low : ∀ {v x}, Rep G v x → Lo σ.length x → Rep G' v x := fun hv hx => hv.low hx (fun _ _ h => h) (fun _ _ _ => rfl) (fun id y hid hy => by rw [hmu id hid]; exact hy) (fun _ => zb8.refl _)
 have hr := h.rel
 have rowlow : ∀ {b sz : Nat} {cs : List AV} {f : Nat × Nat → Prop}, (∀ e ∈ cs, ∀ c ∈ e.cells, Lo σ.length c) → RowAt G b sz cs f → RowAt G' b sz cs f := fun hlo ⟨cur, t, fr, g1, g2, g3, g4⟩ =>
  ⟨cur, t, fr, g1, g2, g3, fun k e he => ⟨(g4 k e he).1, (g4 k e he).2.1, fun j c hc => by
   obtain ⟨v, h6, h7⟩ := (g4 k e he).2.2 j c hc
   exact ⟨v, h6, low h7 (hlo e (List.mem_of_getElem? he) c (List.mem_of_getElem? hc))⟩⟩⟩
 refine ⟨G', rfl, ⟨⟨rfl, rfl, fun _ _ h => h, fun _ _ _ => rfl, fun _ _ h => .inl h, rfl, fun _ _ h => .inl h⟩, fun i y hi hy => by rw [hmu i (by omega)]; exact hy, zb8.refl _, Nat.le_refl _⟩, ⟨⟨hr.below, hr.le, hr.st, fun id ob hob => ?_, fun i j b hi hj hm hm' => ?_, fun id hid => if_neg (by omega)⟩, ?_, h.df, h.nt⟩⟩
 ·
  have hid := (List.getElem?_eq_some_iff.1 hob).1
  have h1 := hr.obs id ob (by rw [List.getElem?_append_left hid]; exact hob)
  have hlo := hσ ob (List.mem_of_getElem? hob)
  cases ob with
  | dead => intro b hb; rw [hmu id hid] at hb; exact h1 b hb
  | row sz cs =>
   simp only [ObOk, hmu id hid] at h1 ⊢
   cases hx : G.mu id with
   | none => rw [hx] at h1; exact h1
   | some x =>
    rw [hx] at h1
    cases x with
    | none => exact h1
    | some b => exact ⟨rowlow hlo h1.1, h1.2⟩
  | fz sz cs =>
   simp only [ObOk, hmu id hid] at h1 ⊢
   cases hx : G.mu id with
   | none => rw [hx] at h1; exact h1
   | some x =>
    rw [hx] at h1
    cases x with
    | none => exact h1
    | some b => exact ⟨rowlow hlo h1.1, h1.2⟩
  | mp X =>
   obtain ⟨b, g1, g2, g3, g4, g5⟩ := h1
   refine ⟨b, (hmu id hid).trans g1, g2, g3, g4, fun j hj => g5 j ?_⟩
   by_cases hjl : j < σ.length
   ·
    rwa [hmu j hjl] at hj
   ·
    simp only [G', if_neg hjl] at hj; cases hj
 ·
  obtain ⟨sz, cs, h1⟩ := hi
  obtain ⟨sz', cs', h1'⟩ := hj
  have hil := (List.getElem?_eq_some_iff.1 h1).1
  have hjl := (List.getElem?_eq_some_iff.1 h1').1
  rw [hmu i hil] at hm
  rw [hmu j hjl] at hm'
  exact hr.inj i j b ⟨sz, cs, by rw [List.getElem?_append_left hil]; exact h1⟩ ⟨sz', cs', by rw [List.getElem?_append_left hjl]; exact h1'⟩ hm hm'
 ·
  have key : ∀ F', FrLo F σ.length F' → FOk G' a F' := by
   intro F'
   induction F' with
   | nil => intro _ d; exact .any _
   | cons p F' ih =>
    obtain ⟨d, y⟩ := p
    rintro ⟨⟨g1, g2⟩, g3⟩ t
    simp only [Frm.get]
    cases e : Nat.beq d t with
    | true =>
     have := Nat.eq_of_beq_eq_true e
     subst this
     have := h.fr d
     rw [g1] at this
     exact low this g2
    | false => exact ih g3 t
  exact key F' hF
theorem kwk_st (ρ : List Nat) (h0 : ρ[0]? = some 0) (hn : ρ.Nodup) (hs : StL ρ σ ρ σ') (hf : FrRn F ρ F') : WeakK N F σ F' σ' := fun G a h =>
 ⟨G.ren ρ, rfl, ⟨⟨rfl, rfl, fun _ _ h => h, fun _ _ _ => rfl, fun _ _ h => .inl h, rfl, fun _ _ h => .inl h⟩, fun i y hi hy => by
  match i, hi with
  | 0, _ => simp [Cx.ren, h0, hy], zb8.refl _, Nat.le_refl _⟩, ⟨ren_rel h.rel hn (stRn_of ρ σ' hs), frRn_ok h.fr F' hf, h.df, h.nt⟩⟩
theorem kwk_ownC {id sz sz2 : Nat} {e e' : AV} {pre post : List AV} (hs : σ[id]? = some (.row sz [e])) (h1 : e.cells = pre ++ .s (.slice none 0 0) :: post) (h2 : e'.cells = pre ++ .own σ.length sz2 0 :: post) :
  WeakK N F σ F (σ.set id (.row sz [e']) ++ [.row sz2 []]) := fun G a h => by
 have he := nil_ext h.rel
 have hr := nil_rel h.rel sz2
 have hid : id < σ.length := (List.getElem?_eq_some_iff.1 hs).1
 refine ⟨G.new σ.length G.w none, rfl, .of he, ?_, h.fr.ext he, h.df, h.nt⟩
 have hset : σ.set id (Ob.row sz [e']) ++ [Ob.row sz2 []] = (σ ++ [Ob.row sz2 []]).set id (Ob.row sz [e']) := by rw [List.set_append_left _ _ hid]
 rw [hset]
 refine reread_rel hr (by rw [List.getElem?_append_left hid]; exact hs) (fun h => by cases h) ?_
 rintro b f ⟨cur, t, fr, g1, g2, g3, g4⟩
 refine ⟨cur, t, fr, g1, g2, g3, fun k y hy => ?_⟩
 cases k with
 | succ k => simp at hy
 | zero =>
  simp at hy
  subst hy
  obtain ⟨k1, k2, k3⟩ := g4 0 e rfl
  rw [h1] at k1 k2 k3
  rw [h2]
  refine ⟨by simpa using k1, fun c hc => ?_, fun j c hc => ?_⟩
  ·
   simp only [List.mem_append, List.mem_cons] at hc
   rcases hc with hc | rfl | hc
   ·
    exact k2 c (by simp [hc])
   ·
    rfl
   ·
    exact k2 c (by simp [hc])
  ·
   by_cases hj : j = pre.length
   ·
    subst hj
    simp at hc
    subst hc
    obtain ⟨v, h6, h7⟩ := k3 pre.length (.s (.slice none 0 0)) (by simp)
    refine ⟨v, h6, ?_⟩
    cases h7
    exact .own0 σ.length sz2 none (fun a ha => by cases ha) (by simp [Cx.new])
   ·
    have e : (pre ++ AV.s (.slice none 0 0) :: post)[j]? = some c := by
     rw [← hc]
     by_cases hlt : j < pre.length
     ·
      rw [List.getElem?_append_left hlt, List.getElem?_append_left hlt]
     ·
      rw [List.getElem?_append_right (by omega), List.getElem?_append_right (by omega)]
      obtain ⟨i, hi⟩ : ∃ i, j - pre.length = i + 1 := ⟨j - pre.length - 1, by omega⟩
      rw [hi]; rfl
    exact k3 j c e
theorem kwk_sl {d id sz n : Nat} {cs : List AV} (hd : F.get d = .own id sz n) (hs : σ[id]? = some (.fz sz cs)) (hn : n = cs.length) : WeakK N F σ ((d, .sl cs) :: F) σ := fun G a h =>
 ⟨G, rfl, .refl G, h.rel, h.fr.more (rep_fz h.rel hs hn (by rw [← hd]; exact h.fr d)), h.df, h.nt⟩
theorem kwk_nil {d : Nat} (hd : F.get d = .s (.slice none 0 0)) : WeakK N F σ ((d, .sl []) :: F) σ := fun G a h =>
 ⟨G, rfl, .refl G, h.rel, h.fr.more (rep_nil (by rw [← hd]; exact h.fr d)), h.df, h.nt⟩
theorem kwk_own {d : Nat} {x : AV} (sz : Nat) (hd : F.get d = x) (hx : x = .emp ∨ x = .s (.slice none 0 0)) : WeakK N F σ ((d, .own σ.length sz 0) :: F) (σ ++ [.row sz []]) := fun G a h => by
 have he := nil_ext h.rel
 refine ⟨G.new σ.length G.w none, rfl, .of he, nil_rel h.rel sz, (h.fr.ext he).more ?_, h.df, h.nt⟩
 have h1 := h.fr d
 rw [hd] at h1
 generalize a.tmps.getD d undef = v at h1
 rcases hx with rfl | rfl
 ·
  cases h1 with | emp A hA => exact .own0 σ.length sz A hA (by simp [Cx.new])
 ·
  cases h1; exact .own0 σ.length sz none (fun a ha => by cases ha) (by simp [Cx.new])
end
section
variable {P : Program} {σ σ' : List Ob} {f : FuncId} {y : AV} {args : List AV}
theorem callE_fn {fn : Func} {c : Code} (hl : σ.length ≤ 1) (hf : P.funcs[f]? = some fn) (hname : (fn.name == "runtime.NumGoroutine") = false) (hb : fn.body = some c) (hn : args.length ≤ fn.ntmps)
  (h : KWp P fn.ntmps c (argF 0 args) σ (fun e F σ1 => (e = .normal ∨ e = .ret) ∧ σ1 = σ' ∧ ∃ xs, ResL P F σ1 fn.results.toList xs ∧ oneOf xs = y)) : CallE P f args σ y σ' := by
 refine ⟨enters_of hf hname hb, fun G vargs hrel hsz hrep => ?_⟩
 refine calls_of_wp hf hb ?_
 have hfo : FOk G { tmps := vargs ++ Array.replicate (fn.ntmps - vargs.size) undef, defers := [] } (argF 0 args) := by
  intro d
  rw [argF_get]
  simp only [Nat.zero_le, if_true, Nat.sub_zero]
  by_cases hd : d < args.length
  ·
   have h1 : (vargs ++ Array.replicate (fn.ntmps - vargs.size) undef).getD d undef = vargs[d]'(by omega) := by
    rw [Array.getD_eq_getD_getElem?, Array.getElem?_append_left (by omega)]
    simp [show d < vargs.size by omega]
   rw [h1]
   have h2 : args.getD d .any = args[d] := by rw [List.getD_eq_getElem?_getD, List.getElem?_eq_getElem hd]; rfl
   rw [h2]
   exact hrep d _ _ (by simp [show d < vargs.size by omega]) (by simp [hd])
  ·
   have h2 : args.getD d .any = .any := by
    rw [List.getD_eq_getElem?_getD, List.getElem?_eq_none (by omega)]; rfl
   rw [h2]; exact .any _
 have hs8 : S8 fn.ntmps G { tmps := vargs ++ Array.replicate (fn.ntmps - vargs.size) undef, defers := [] } (argF 0 args) σ := ⟨hrel, hfo, rfl, by simp; omega⟩
 refine Code.wp_mono (fun e a w q => ?_) (h G _ hs8)
 obtain ⟨G', F', σ1, rfl, h2, h3, he, rfl, xs, hrl, hy⟩ := q
 obtain ⟨v, h6, h7⟩ := results_run (fn := fn) h3.rel h3.fr hrl
 rw [hy] at h7
 have hext : G.Ext G' := ⟨h2.step.base, h2.step.w0, h2.step.st, h2.step.cell, fun id x hx => by
  by_cases hid : id < 1
  ·
   exact h2.mu0 id x hid hx
  ·
   rw [hrel.fresh id (by omega)] at hx; exact absurd hx (by simp), h2.size, h2.rows, h2.step.stN, h2.step.pr, h2.step.prN⟩
 have post : ∃ (v' : Value) (G'' : Cx), Ending.returned v = .returned v' ∧ G''.w = G'.w ∧ G.Ext G'' ∧ Rel G'' σ1 ∧ Rep G'' v' y := ⟨v, G', rfl, rfl, hext, h3.rel, h7⟩
 rcases he with rfl | rfl
 ·
  exact ⟨h3.df, _, h6, post⟩
 ·
  exact ⟨h3.df, _, h6, post⟩
theorem callE_fn1 {fn : Func} {c : Code} {t : Nat} (hl : σ.length ≤ 1) (hf : P.funcs[f]? = some fn) (hname : (fn.name == "runtime.NumGoroutine") = false) (hb : fn.body = some c) (hn : args.length ≤ fn.ntmps) (hres : fn.results.toList = [.tmp t])
  (h : KWp P fn.ntmps c (argF 0 args) σ (fun e F σ1 => (e = .normal ∨ e = .ret) ∧ F.get t = y ∧ σ1 = σ')) : CallE P f args σ y σ' :=
 callE_fn hl hf hname hb hn (kw_mono h (fun e F σ1 ⟨h1, h2, h3⟩ => ⟨h1, h3, [y], by rw [hres]; exact .cons _ _ _ _ (.tmp t y h2) .nil, rfl⟩))
theorem callE_fn0 {fn : Func} {c : Code} (hl : σ.length ≤ 1) (hf : P.funcs[f]? = some fn) (hname : (fn.name == "runtime.NumGoroutine") = false) (hb : fn.body = some c) (hn : args.length ≤ fn.ntmps) (hres : fn.results.toList = [])
  (h : KWp P fn.ntmps c (argF 0 args) σ (fun e F σ1 => (e = .normal ∨ e = .ret) ∧ σ1 = σ')) : CallE P f args σ (.tup []) σ' :=
 callE_fn hl hf hname hb hn (kw_mono h (fun e F σ1 ⟨h1, h3⟩ => ⟨h1, h3, [], by rw [hres]; exact .nil, rfl⟩))
end
theorem kwk_sub {N : Nat} {F : Frm} {σ : List Ob} : ∀ {F'}, Sub F F' → WeakK N F σ F' σ := fun {F'} h G a hs => by
 refine ⟨G, rfl, .refl G, hs.rel, ?_, hs.df, hs.nt⟩
 have key : ∀ F', Sub F F' → FOk G a F' := by
  intro F'
  induction F' with
  | nil => intro _ d; exact .any _
  | cons p F' ih =>
   obtain ⟨d, y⟩ := p
   intro h t
   simp only [Frm.get]
   cases e : Nat.beq d t with
   | true => have := Nat.eq_of_beq_eq_true e; subst this; rw [← h.1]; exact hs.fr d
   | false => exact ih h.2 t
 exact key F' h
theorem kw_of {P : Program} {N : Nat} {F : Frm} {σ : List Ob} {Q : Exit → Frm → List Ob → Prop} {c : Code} (h : EWp P N c F σ Q) : KWp P N c F σ Q := fun G a hs =>
 Code.wp_mono (fun e a w q => by obtain ⟨G', F', σ', h1, h2, h3, h4⟩ := q; exact ⟨G', F', σ', h1, KE.of h2, h3, h4⟩) (h G a hs)
theorem kw_draw {P : Program} {N : Nat} {l : List Oper} {F : Frm} {σ : List Ob} {Q : Exit → Frm → List Ob → Prop} {id : Nat} (hm : P.follows .mixedOrders = true) (h : EDraw P N l F σ Q) : KWp P N (.region id l.toArray true) F σ Q := kw_of (ew_draw hm h)
theorem kdraw_ex {P : Program} {N : Nat} {l : List Oper} {F : Frm} {σ : List Ob} {Q : Exit → Frm → List Ob → Prop} (h : EX P N l.toArray l [] l F σ (fun F' σ' => Q .normal F' σ')) : EDraw P N l F σ Q := by
 obtain ⟨F', σ', out, ks, sts, h1, h2, h3⟩ := h
 exact edraw_steps h1 (by simpa using h2) h3
section
variable {P : Program} {N : Nat} {F : Frm} {σ : List Ob} {Q : Exit → Frm → List Ob → Prop} {ops : Array Oper} {o : Oper} {l : List Oper} {d : Nat} {x : AV}
theorem kops_s (h : stv (opv o.op F) N ops o F = some (d, x)) (k : KOps P N ops l ((d, x) :: F) σ Q) : KOps P N ops (o :: l) F σ Q := kops_op (zbj h).1 (zbj h).2.1 (zbj h).2.2.1 (opv_does (zbj h).2.2.2) k
theorem kops_f {t f off n ft : Nat} (hf : zb3 P t f = some (off, ft, some n)) (h : stv (fdv o.op t f off n F) N ops o F = some (d, x)) (k : KOps P N ops l ((d, x) :: F) σ Q) : KOps P N ops (o :: l) F σ Q := kops_op (zbj h).1 (zbj h).2.1 (zbj h).2.2.1 (fdv_does hf (zbj h).2.2.2) k
theorem kops_l {t : Nat} (ha : zc0 P t = some false) (h : stv (ldv o.op t F) N ops o F = some (d, x)) (k : KOps P N ops l ((d, x) :: F) σ Q) : KOps P N ops (o :: l) F σ Q := kops_op (zbj h).1 (zbj h).2.1 (zbj h).2.2.1 (ldv_does ha (zbj h).2.2.2) k
theorem kops_w {t n bt : Nat} {z : Option Value} (ha : zc0 P t = some true) (hi : zbl P t = some (z, n, bt)) (h : stv (lwv o.op t n F) N ops o F = some (d, x)) (k : KOps P N ops l ((d, x) :: F) σ Q) : KOps P N ops (o :: l) F σ Q := kops_op (zbj h).1 (zbj h).2.1 (zbj h).2.2.1 (lwv_does ha hi (zbj h).2.2.2) k
theorem kops_z (h : stz N ops o F = some d) (k : KOps P N ops l ((d, .s undef) :: F) σ Q) : KOps P N ops (o :: l) F σ Q := kops_skip (stz_ok h).1 (stz_ok h).2.1 (stz_ok h).2.2 k
end
theorem kw_join {P : Program} {N : Nat} {F : Frm} {σ : List Ob} {Q : Exit → Frm → List Ob → Prop} {c c2 c3 : Code} (F1 : Frm) (σ1 : List Ob)
  (h : KWp P N c F σ (AThen (fun F σ => KWp P N c2 F σ (AThen (fun F' σ' => WeakK N F' σ' F1 σ1) Q)) (AThen (fun F' σ' => WeakK N F' σ' F1 σ1) Q)))
  (k : KWp P N c3 F1 σ1 Q) : KWp P N c F σ (AThen (fun F σ => KWp P N c2 F σ (AThen (fun F σ => KWp P N c3 F σ Q) Q)) (AThen (fun F σ => KWp P N c3 F σ Q) Q)) := by
 have w : ∀ e F σ, AThen (fun F' σ' => WeakK N F' σ' F1 σ1) Q e F σ → AThen (fun F σ => KWp P N c3 F σ Q) Q e F σ := fun e F σ q => by
  cases e with
  | normal => exact kw_weak q k
  | _ => exact q
 refine kw_mono h (fun e F σ q => ?_)
 cases e with
 | normal => exact kw_mono q w
 | _ => first | exact w .ret F σ q | exact w (.exit _) F σ q | exact w (.goto _) F σ q | exact w (.panic _) F σ q | exact w .outgrown F σ q
end Go.Proofs.Ytllkbjcemecmjaa.Aw.K1
end
section
namespace Go.Proofs.Ytllkbjcemecmjaa.Aw
open Go Go.RowKit Go.Proofs
theorem pureO_of {P : Program} {f : FuncId} {args : List AV} {m sz n : Nat} {σ' : List Ob} {cs : List AV} (hc : CallE P f args [] (.own m sz n) σ') (hm : σ'[m]? = some (.row sz cs)) (hn : n = cs.length) (hpos : 0 < n)
  (hcs : ∀ e ∈ cs, ∀ c ∈ e.cells, ∃ u, c = .s u) (hlo : ∀ a ∈ args, Lo 0 a) : PureO P f args sz cs := by
 refine ⟨hc.ent, fun G vargs hst hsz hrep => ?_⟩
 let G0 : Cx := { base := G.w.heap.size, w0 := G.w, w := G.w, mu := fun _ => none, St := G.St }
 have hrel : Rel G0 [] := ⟨⟨Below.refl _ _, hst.tab, hst.tab.lt⟩, Nat.le_refl _, fun b o h => h.elim (hst.st b o) False.elim, by simp, by rintro i j b ⟨_, _, h⟩; simp at h, fun _ _ => rfl⟩
 refine (hc.call G0 vargs hrel hsz (fun j v x h1 h2 => (hrep j v x h1 h2).low (hlo x (List.mem_of_getElem? h2)) (fun _ _ h => h) (fun _ _ _ => rfl) (fun id y hid => by omega) (fun h => by omega))).mono ?_
 rintro e w' ⟨v, G', rfl, rfl, he, hr', hv⟩
 refine ⟨v, rfl, ?_, .inr ?_⟩
 ·
  have h1 := hr'.below.toBelow
  rw [he.base, he.w0] at h1
  exact h1
 ·
  cases hv with
  | own0 id sz A hA hm => omega
  | own id sz n b cap hmu hle hcap hb =>
   have h1 := hr'.obs m _ hm
   simp only [ObOk, hmu] at h1
   obtain ⟨⟨cur, te, fr, g1, g2, g3, g4⟩, g5, g6⟩ := h1
   obtain ⟨cur2, e2, f2, k1, k2⟩ := hb
   rw [g1] at k1
   obtain ⟨rfl, rfl, rfl⟩ : cur = cur2 ∧ te = e2 ∧ fr = f2 := by cases k1; exact ⟨rfl, rfl, rfl⟩
   rw [g2] at g1
   rw [he.base] at g5
   subst hn
   refine ⟨b, cap, cur, te, rfl, g5, g1, k2, hle, hcap, fun k e hk => ?_⟩
   obtain ⟨q1, q2, q3⟩ := g4 k e hk
   refine ⟨q1, fun j c hj => ?_⟩
   obtain ⟨u, hu⟩ := hcs e (List.mem_of_getElem? hk) c (List.mem_of_getElem? hj)
   subst hu
   obtain ⟨v2, q4, q5⟩ := q3 j _ hj
   cases q5
   exact ⟨_, q4, rfl, q2 _ (List.mem_of_getElem? hj)⟩
variable {P : Program} [IsP P]
def eW (n : Int) : AV := .s (.int .u64 n)
theorem lo32 (n : Nat) (h : n < 26) : bitsV .and .u64 (n : Int) 4294967295 = n := by
 have : ∀ m : Fin 26, bitsV .and .u64 ((m.1 : Nat) : Int) 4294967295 = ((m.1 : Nat) : Int) := by decide
 exact this ⟨n, h⟩
theorem hi32 (n : Nat) (h : n < 26) : (n : Int).fdiv (2 ^ min (32 : Int).toNat IntKind.u64.bits) = 0 := by
 have : ∀ m : Fin 26, ((m.1 : Nat) : Int).fdiv (2 ^ min (32 : Int).toNat IntKind.u64.bits) = 0 := by decide
 exact this ⟨n, h⟩
theorem mul64_pf (n : Nat) (h : n < 26) : Pure P 95 [eW 1, eW n] (.tup [eW 0, eW n]) := by
 have h1 : bitsV .and .u64 1 4294967295 = 1 := by decide
 have h2 : (1 : Int).fdiv (2 ^ min (32 : Int).toNat IntKind.u64.bits) = 0 := by decide
 have h3 := lo32 n h
 have h4 := hi32 n h
 have h5 : IntKind.u64.wrap (1 * (n : Int)) = n := by rw [Int.one_mul]; exact IntWalk.u64_in _ (by omega)
 have h6 : IntKind.u64.wrap (0 * (n : Int)) = 0 := by rw [Int.zero_mul]; decide
 have h7 : IntKind.u64.wrap (0 + 0) = 0 := by decide
 have h8 : bitsV .and .u64 0 4294967295 = 0 := by decide
 have h9 : (0 : Int).fdiv (2 ^ min (32 : Int).toNat IntKind.u64.bits) = 0 := by decide
 have h10 : IntKind.u64.wrap (1 * 0) = 0 := by decide
 have h11 : IntKind.u64.wrap (0 * 0) = 0 := by decide
 refine zcu (by rw [IsP.eq (P := P)]; exact Try.func95) rfl rfl rfl rfl rfl (zag (.s _) (zag (.s _) zak)) (.tup _ (zag (.s _) (zag (.s _) zak))) (by simp only [argF]; rfl) ?_
 refine zah (zab (zac rfl (zac rfl (zae (zah (zab (zac rfl (zaf rfl rfl (zaa rfl) (does_bits rfl (.inl rfl) rfl rfl h1) (zac rfl (zae (zah (zab (zac rfl (zaf rfl rfl (zaa rfl) (does_shift rfl rfl rfl (by decide) (.inl ⟨rfl, h2⟩)) (zac rfl (zae (zah (zab (zac rfl (zaf rfl rfl (zaa rfl) (does_bits rfl (.inl rfl) rfl rfl h3) (zac rfl (zae (zah (zab (zac rfl (zaf rfl rfl (zaa rfl) (does_shift rfl rfl rfl (by decide) (.inl ⟨rfl, h4⟩)) (zac rfl (zae (zah ?_)))))))))))))))))))))))))))))
 refine zab (zac rfl (zac rfl (zaf rfl rfl (zaa rfl) (does_mul rfl rfl rfl h5) (zac rfl (zae (zah (zab (zac rfl (zac rfl (zaf rfl rfl (zaa rfl) (does_mul rfl rfl rfl h6) (zac rfl (zaf rfl rfl (zaa rfl) (does_shift rfl rfl rfl (by decide) (.inl ⟨rfl, h4⟩)) (zaf rfl rfl (zaa rfl) (zav rfl rfl rfl h7) (zac rfl (zae (zah (zab (zac rfl (zaf rfl rfl (zaa rfl) (does_bits rfl (.inl rfl) rfl rfl h8) (zac rfl (zae (zah (zab (zac rfl (zaf rfl rfl (zaa rfl) (does_shift rfl rfl rfl (by decide) (.inl ⟨rfl, h9⟩)) ?_)))))))))))))))))))))))))
 refine zac rfl (zae (zah (zab (zac rfl (zac rfl (zac rfl (zaf rfl rfl (zaa rfl) (does_mul rfl rfl rfl h10) (zaf rfl rfl (zaa rfl) (zav rfl rfl rfl h7) (zac rfl (zae (zah (zab (zac rfl (zac rfl (zaf rfl rfl (zaa rfl) (does_mul rfl rfl rfl h11) (zac rfl (zaf rfl rfl (zaa rfl) (zav rfl rfl rfl h7) (zac rfl (zaf rfl rfl (zaa rfl) (does_shift rfl rfl rfl (by decide) (.inl ⟨rfl, h9⟩)) (zaf rfl rfl (zaa rfl) (zav rfl rfl rfl h7) (zac rfl (zae (zah (zab (zac rfl ?_)))))))))))))))))))))))))
 refine zac rfl (zaf rfl rfl (zaa rfl) (does_mul rfl rfl rfl h5) (zac rfl (zae (zai ?_))))
 (refine za8 ?_; repeat (first | refine zbg ?_ | refine zbh ?_))
 exact post2 (.inr rfl) rfl rfl (.refl _) (.refl _)
theorem mul_pf (n : Nat) (h : n < 26) : Pure P 80 [eW 1, eW n] (.tup [eW 0, eW n]) := by
 have hm := mul64_pf (P := P) n h
 refine zcu (by rw [IsP.eq (P := P)]; exact Try.func80) rfl rfl rfl rfl rfl (zag (.s _) (zag (.s _) zak)) (.tup _ (zag (.s _) (zag (.s _) zak))) (by simp only [argF]; rfl) ?_
 refine zah (zab (zac rfl (zac rfl (zae (zah (za1 rfl (zat (zah (zab (zac rfl (zac rfl (zaf rfl rfl (zaa rfl) (zam rfl rfl (hm) (zad rfl (zad rfl zaq))) (zac rfl (zac rfl (zac rfl (zac rfl (zac rfl (zae (zah (zab (zac rfl (zac rfl (zac rfl (zac rfl (zae (zai ?_))))))))))))))))))))))))))
 (refine za8 ?_; repeat (first | refine zbg ?_ | refine zbh ?_))
 exact post2 (.inr rfl) rfl rfl (.refl _) (.refl _)
def repR (a : Fr) (n m : Nat) : List AV := List.replicate m (eF a) ++ List.replicate (n - m) (eF ⟨0, 0⟩)
theorem repR_len {a : Fr} {n m : Nat} (h : m ≤ n) : (repR a n m).length = n := by simp [repR]; omega
theorem repR_step {a : Fr} {n m : Nat} (h : m ≤ n) : laid (repR a n m) m (((repR a n m).take m).take (n - m)) = repR a n (m + min m (n - m)) := by
 have e1 : (repR a n m).take m = List.replicate m (eF a) := by unfold repR; rw [List.take_append_of_le_length (by simp), List.take_of_length_le (by simp)]
 unfold laid
 rw [e1, List.take_replicate]
 have e2 : (repR a n m).drop (m + (List.replicate (min (n - m) m) (eF a)).length) = List.replicate (n - (m + min m (n - m))) (eF ⟨0, 0⟩) := by
  unfold repR
  rw [List.length_replicate, List.drop_append, List.length_replicate, List.drop_of_length_le (by simp), List.nil_append, List.drop_replicate]
  congr 1; omega
 rw [e2, List.replicate_append_replicate]
 unfold repR
 congr 2; omega
theorem lo_repR (a : Fr) (n m : Nat) : ∀ e ∈ repR a n m, ∀ c ∈ e.cells, Lo 0 c := fun e he => by
 unfold repR at he
 rcases List.mem_append.1 he with he | he
 ·
  rw [List.eq_of_mem_replicate he]; exact (lo_F _).cells
 ·
  rw [List.eq_of_mem_replicate he]; exact (lo_F _).cells
namespace K1
set_option maxHeartbeats 2000000 in
theorem repF_call (a : Fr) (n : Nat) (h : 1 ≤ n ∧ n ≤ 25) : CallE P 55 [eL eF [a], eI n] [] (.own 0 2 n) [.row 2 (List.replicate n (eF a))] := by
 have hm := mul_pf (P := P) n (by omega)
 have hl1 : IntKind.u64.wrap ((([a] : List Fr).length : Nat) : Int) = 1 := by show IntKind.u64.wrap 1 = 1; decide
 have hmin : (List.map eF [a]).length.min n = 1 := by show min 1 n = 1; omega
 refine callE_fn1 (by simp) (by rw [IsP.eq (P := P)]; exact Try.func55) rfl rfl (Nat.le_of_ble_eq_true rfl) rfl ?_
 simp only [argF]
 refine kw_seq (kw_region (kops_s rfl (kops_nil (kw_seq (kw_seq (kw_region (kops_s rfl (kops_op rfl rfl (zaa rfl) (dec_f (by omega) (za4 rfl rfl rfl)) (kops_nil (zai (kw_false rfl (kw_skip (kw_seq (kw_region (kops_s rfl (kops_op rfl rfl (zaa rfl) (zao rfl ts30 rfl) (kops_op rfl rfl (zaa rfl) (does_conv rfl tu3 tk127 rfl hl1) (kops_s rfl (kops_op rfl rfl (zaa rfl) (does_conv rfl tu3 tk127 rfl (IntWalk.u64_in _ (by omega))) (kops_op rfl rfl (zaa rfl) (zam rfl rfl (hm) (zad rfl (zad rfl zaq))) (kops_s rfl (kops_s rfl ?_))))))))))))))))))))))
 refine kops_s rfl (kops_s rfl (kops_s rfl (kops_nil (kw_seq (kw_seq (kw_region (kops_s rfl (kops_op rfl rfl (zaa rfl) (dec_f (by decide) (zb5 rfl rfl rfl)) (kops_s rfl (kops_s rfl (kops_op rfl rfl (zas rfl rfl rfl) (dec_f (by omega) (zb5 rfl rfl rfl)) (kops_s rfl (kops_nil (zai (kw_false rfl (kw_skip (kw_seq (kw_region (kops_s rfl (kops_op rfl rfl (zaa rfl) (does_conv rfl tu127 tk3 rfl (IntWalk.i64_in _ (by omega))) (kops_op rfl rfl (zaa rfl) (does_make rfl ts30 ti51 rfl rfl (by decide) rfl rfl rfl rfl (by omega) (by omega) (by omega)) (kops_s rfl ?_))))))))))))))))))))))
 refine kops_nil (kw_seq (kw_region (kops_s rfl (kops_s rfl ?_))))
 refine kops_op rfl rfl (zaa rfl) (does_copy (k := 0) (n := n) rfl ts30 ti51 (by decide) rfl (.own rfl) rfl (by simp) rfl (.sl _ (by intro e he; simp at he; subst he; rfl))) ?_
 refine kops_s rfl (kops_nil (kw_seq (kw_block ?_)))
 rw [hmin]
 have hst : laid (List.replicate n (eF ⟨0, 0⟩)) 0 ([eF a].take n) = repR a n 1 := by
  obtain ⟨k, rfl⟩ : ∃ k, n = k + 1 := ⟨n - 1, by omega⟩
  simp [laid, repR, List.replicate_succ]
 refine kw_loops (S := Nat) (fun m => [(7, .own 0 2 n), (8, eI m)]) (fun m => [.row 2 (repR a n m)]) (fun m => 1 ≤ m ∧ m ≤ n) (fun m => n - m) 1
  (kwk_st [0] rfl (by decide) ⟨⟨_, rfl, .rowE (lo_repR _ _ _) hst⟩, trivial⟩ ⟨.own 0 0 2 _ _ rfl rfl, .lo _ (.s _), trivial⟩) ⟨by omega, by omega⟩ (fun m hm => ?_)
 have hrl := repR_len (a := a) hm.2
 have hst2 := repR_step (a := a) hm.2
 refine kw_seq (kw_seq (kw_region (kops_s rfl (kops_s rfl (kops_op rfl rfl (zaa rfl) (zc6 rfl ts30 rfl) ?_)))))
 refine kops_opP rfl rfl (zaa rfl) (za4 rfl rfl rfl) (fun h37 => ?_) (fun h37 => ?_)
 all_goals refine kops_nil (zai ?_)
 all_goals (first | refine kw_true rfl ?_ | refine kw_false rfl ?_)
 all_goals (repeat (first | refine zai ?_ | refine kw_skip ?_ | refine kw_block ?_))
 ·
  have hmin2 : ((repR a n m).take m).length.min (n - m) = min m (n - m) := by
   rw [List.length_take, hrl, Nat.min_eq_left hm.2]
  have hw : IntKind.i64.wrap ((m : Int) + ((((repR a n m).take m).length.min (n - m) : Nat) : Int)) = ((m + min m (n - m) : Nat) : Int) := by
   rw [hmin2, IntWalk.i64_in _ (by omega)]; rfl
  refine kw_draw hmix ?_
  refine kdraw_ex ?_
  refine ex_s rfl (ex_s rfl (ex_s rfl (zaz rfl rfl (zaa rfl) (fun _ => (does_slice_ol rfl ts30 ti51 rfl rfl (by omega) rfl rfl (by omega))) (ex_s rfl (ex_s rfl (zaz rfl rfl (zaa rfl) (fun _ => (does_slice_own rfl ts30 ti51 rfl rfl rfl (by omega))) ?_))))))
  refine zdh (W := [0]) rfl rfl (zaa rfl) (does_copy (k := m) (n := n - m) rfl ts30 ti51 (by decide) rfl .sub rfl (by rw [hrl]; omega) rfl (.pre 0 _ _ rfl rfl m (by rw [hrl]; omega))) (fun _ h => zbr h) ?_
  refine zaz rfl rfl (zaa rfl) (fun _ => (zav rfl rfl rfl hw)) (ex_s rfl ?_)
  refine zcc (by kernel_rfl) ?_
  refine zbu (zai ?_)
  exact ⟨m + min m (n - m), ⟨by omega, by omega⟩, by omega, kwk_st [0] rfl (by decide) ⟨⟨_, rfl, .rowE (lo_repR _ _ _) hst2⟩, trivial⟩ ⟨.own 0 0 2 _ _ rfl rfl, .lo _ (.s _), trivial⟩⟩
 ·
  have ei : m = n := by omega
  subst ei
  (refine kw_exit ?_; repeat (first | refine zc3 ?_ | refine zb2 ?_ | refine zbq rfl ?_ | refine zbu ?_ | refine zai ?_ | refine kw_seq ?_ | refine kw_skip ?_ | refine kw_block ?_))
  refine kw_region (kops_s rfl (kops_s rfl (kops_nil (zai ?_))))
  (refine kw_ret ?_; repeat (first | refine zbg ?_ | refine zbh ?_))
  exact ⟨.inr rfl, rfl, by simp [repR]⟩
end K1
end Go.Proofs.Ytllkbjcemecmjaa.Aw
end
section
namespace Go.Proofs.Ytllkbjcemecmjaa.Aw
open Go.RowKit Go.Proofs
variable {P : Program} [IsP P]
def colL (p : LP) (j : Nat) : List Fr := p.a.map fun r => gti r j
theorem colL_len (p : LP) (j : Nat) : (colL p j).length = p.a.length := by simp [colL]
theorem stake_snoc {α : Type} [Inhabited α] {l : List α} {k : Nat} (h : k < l.length) : l.take (k + 1) = l.take k ++ [gti l k] := by
 rw [List.take_add_one, zdp h]; rfl
theorem colL_gti {p : LP} {j k : Nat} (h : k < p.a.length) : gti (colL p j) k = gti (gti p.a k) j := by
 have h1 : (colL p j)[k]? = some (gti (gti p.a k) j) := by
  unfold colL
  rw [List.getElem?_map, zdp h]; rfl
 unfold gti at *
 rw [h1]; rfl
set_option maxHeartbeats 1000000 in
theorem column_pf (p : LP) (j : Nat) (hj : ∀ i, i < p.a.length → j < (gti p.a i).length) (hm : p.a.length ≤ 12) : Pure P 88 [eP p, eI j] (eL eF (colL p j)) := by
 refine zcu (by rw [IsP.eq (P := P)]; exact Try.func88) rfl rfl rfl rfl rfl (by repeat' (first | exact Lo.s _ | exact zak | refine zag ?_ ?_ | refine zan ?_ | refine Lo.agg _ ?_ | refine Lo.sl _ ?_ | intro _)) (by repeat' (first | exact Lo.s _ | exact zak | refine zag ?_ ?_ | refine zan ?_ | refine Lo.agg _ ?_ | refine Lo.sl _ ?_ | intro _)) (by simp only [argF]; rfl) ?_
 refine zah (zab (zaf rfl rfl (zaa rfl) (zb4 rfl rfl rfl rfl) ?_))
 refine za5 (zbs (id := 0) rfl) (za5 (zch (d := 2) rfl rfl rfl) ?_)
 refine zac rfl (zae (zah (zab (zac rfl (zae (zah (zah (zab (zb1 tf47_1 rfl (zby ta45 rfl (zaf rfl rfl (zaa rfl) (zao rfl ts45 rfl) (zac rfl (zae (zai (zaw ?_)))))))))))))))
 refine zbi (wk_own (d := 5) 2 rfl (.inr rfl)) ?_
 refine zca (S := Nat) (fun k => [(1, eI j), (9, eL (eL eF) p.a), (10, eI p.a.length), (11, eI k), (5, .own 0 2 k)]) (fun k => [.row 2 (((colL p j).take k).map eF)]) (fun k => k ≤ p.a.length) (fun k => p.a.length - k) 0 (zck [1] (by decide) ⟨⟨_, rfl, .rowE (za2) rfl⟩, trivial⟩ ⟨.lo _ (.s _), .lo _ (by repeat' (first | exact Lo.s _ | exact zak | refine zag ?_ ?_ | refine zan ?_ | refine Lo.agg _ ?_ | refine Lo.sl _ ?_ | intro _)), .lo _ (.s _), .lo _ (.s _), .own 1 0 2 _ _ rfl rfl, trivial⟩) (Nat.zero_le _) (fun k hk => ?_)
 have hcl := colL_len p j
 refine zah (zab ?_)
 refine za3 rfl rfl (zaa rfl) (za4 rfl rfl rfl) (fun h12 => ?_) (fun h12 => ?_)
 all_goals refine zae (zah ?_)
 all_goals (first | refine za7 rfl ?_ | refine za1 rfl ?_)
 all_goals (repeat (first | refine zah ?_ | refine zat ?_ | refine zaw ?_))
 ·
  have hlt : k < p.a.length := by omega
  have hjl := hj k hlt
  have htk : (((colL p j).take k).map eF).length = k := by simp; omega
  have hrow : ((colL p j).take (k + 1)).map eF = ((colL p j).take k).map eF ++ [eF (gti (gti p.a k) j)] := by
   rw [stake_snoc (by omega), List.map_append, colL_gti hlt]; rfl
  refine zab (zaf rfl rfl (zaa rfl) (zal rfl ts45 ti30 rfl rfl rfl (zbd (by omega)) rfl) (zby ta30 rfl (zac rfl (zae (zai (zab (zac rfl (zac rfl (zac rfl (zaf rfl rfl (zaa rfl) (zal rfl ts30 ti51 rfl rfl rfl (zbd (by omega)) rfl) (zc5 ta51 ti51 rfl (zaf rfl rfl (zaa rfl) (zcr rfl ts30 ti51 rfl rfl (by decide) (by decide) rfl rfl rfl (.agg _ (zag (.s _) (zag (.s _) zak)))) ?_))))))))))))
  refine zaf rfl rfl (zaa rfl) (zbm rfl ts30 ti51 rfl (by decide) rfl rfl (by first | rfl | (simp; done) | (simp; omega)) rfl (by first | exact .own _ _ _ rfl rfl _ (by first | rfl | simp) | exact .emp | exact .nil | exact .sl _ (by first | simp; done | intro e he; simp at he; obtain ⟨_, _, rfl⟩ := he; rfl)) (by first | omega | (simp; omega) | (unfold maxLen; simp; omega)) (by first | omega | (simp; omega) | (unfold maxLen; simp; omega))) ?_
  refine zac rfl (zae (zbu (zai (zab (zaf rfl rfl (zaa rfl) (zav rfl rfl rfl (IntWalk.i64_in _ (by omega))) (zac rfl (zae (zai ?_))))))))
  exact ⟨k + 1, by omega, by omega, zck [1] (by decide) ⟨⟨_, rfl, .rowE (by repeat' (first | exact Lo.s _ | exact za2 | refine zax ?_ ?_ | refine zar ?_ | refine Lo.cells ?_ | refine Lo.agg _ ?_ | exact zak | refine zag ?_ ?_ | intro _)) (Eq.trans (b := ((colL p j).take k).map eF ++ [eF (gti (gti p.a k) j)]) rfl hrow.symm)⟩, trivial⟩ ⟨.lo _ (.s _), .lo _ (by repeat' (first | exact Lo.s _ | exact zak | refine zag ?_ ?_ | refine zan ?_ | refine Lo.agg _ ?_ | refine Lo.sl _ ?_ | intro _)), .lo _ (.s _), .lo _ (.s _), .own 1 0 2 _ _ rfl (by simp; omega), trivial⟩⟩
 ·
  (refine zcl ?_; repeat (first | refine zc3 ?_ | refine zb2 ?_ | refine zbq rfl ?_ | refine zbu ?_ | refine zai ?_ | refine zah ?_ | refine zat ?_ | refine zaw ?_))
  refine zab (zac rfl (zac rfl (zae (zai ?_))))
  (refine za8 ?_; repeat (first | refine zbg ?_ | refine zbh ?_))
  have e : (colL p j).take k = colL p j := List.take_of_length_le (by omega)
  refine post1f (.inr rfl) rfl ?_
  rw [e]
  exact .own _ _ _ _ _ rfl rfl (by simp; omega)
theorem post_c {N : Nat} {F : Frm} {σ : List Ob} {ad : Nat} {ty : TypeId} {id sz k n bt : Nat} {z : Option Value} {ob : Ob} {cs : List AV} {e1 r : AV} {e : Exit} (he : e = .normal ∨ e = .ret) (ha : zc0 P ty = some true) (hi : zbl P ty = some (z, n, bt)) (hp : F.get ad = .ptr id sz k 0) (hs : σ[id]? = some ob) (ho : rowOf ob = some (sz, cs)) (hk : cs[k]? = some e1) (hn : e1.cells.length = n) (hr : AV.agg e1.cells = r) : APost P [.cell ad ty] r e F σ :=
 ⟨he, [.agg e1.cells], .cons _ _ _ _ (.cells ad ty id sz k n bt z ob cs e1 ha hi hp hs ho hk hn) .nil, hr ▸ .refl _⟩
theorem swhole_pf (n : Int) : Pure P 56 [eI n] (eF (Fr.of n)) := by
 refine zcu (by rw [IsP.eq (P := P)]; exact Try.func56) rfl rfl rfl rfl rfl (zag (.s _) zak) (.agg _ (zag (.s _) (zag (.s _) zak))) (by simp only [argF]; rfl) ?_
 refine zah (zab (zaf rfl rfl (zaa rfl) (za0 rfl ti51 rfl rfl) (zae (zah (zab (zac rfl (zaf rfl rfl (zaa rfl) (za6 rfl ti51 tp51 rfl rfl) (zbe rfl (zaa rfl) (zaj rfl ti51 rfl rfl rfl rfl rfl rfl (by decide) (by decide)) (zae (zai ?_))))))))))
 (refine za8 ?_; repeat (first | refine zbg ?_ | refine zbh ?_))
 exact post_c (N := 0) (.inr rfl) ta51 ti51 rfl rfl rfl rfl rfl rfl
def za9 (n : Nat) : List Fr := List.replicate n (Fr.of 0)
namespace K1
theorem zeros_call (n : Nat) (h : 1 ≤ n ∧ n ≤ 25) : CallE P 54 [eI n] [] (.own 0 2 n) [.row 2 (List.replicate n (eF (Fr.of 0)))] := by
 have hr := repF_call (P := P) (Fr.of 0) n h
 refine callE_fn1 (by simp) (by rw [IsP.eq (P := P)]; exact Try.func54) rfl rfl (Nat.le_of_ble_eq_true rfl) rfl ?_
 simp only [argF]
 refine kw_seq (kw_region (kops_s rfl (kops_nil (kw_seq (kw_region (kops_op rfl rfl (zaa rfl) (zam rfl rfl ((swhole_pf 0)) (zad rfl zaq)) (kops_op rfl rfl (zaa rfl) (zcr rfl ts30 ti51 rfl rfl (by decide) (by decide) rfl rfl rfl (.agg _ (zag (.s _) (zag (.s _) zak)))) (kops_s rfl (kops_op rfl rfl (zaa rfl) (zbo rfl rfl hr (zad rfl (zad rfl zaq))) (kops_s rfl (kops_nil (zai ?_))))))))))))
 (refine kw_ret ?_; repeat (first | refine zbg ?_ | refine zbh ?_))
 exact ⟨.inr rfl, rfl, rfl⟩
end K1
theorem repO {f : FuncId} {args : List AV} {a : Fr} {n : Nat} (h : CallE P f args [] (.own 0 2 n) [.row 2 (List.replicate n (eF a))]) (hn : 1 ≤ n) (hlo : ∀ a ∈ args, Lo 0 a) : PureO P f args 2 ((List.replicate n a).map eF) := by
 rw [List.map_replicate]
 refine pureO_of h rfl (by simp) (by omega) (fun e he c hc => ?_) hlo
 rw [List.eq_of_mem_replicate he] at hc
 simp only [eF, AV.cells, List.mem_cons, List.mem_nil_iff, or_false] at hc
 rcases hc with rfl | rfl <;> exact ⟨_, rfl⟩
theorem zeros_po (n : Nat) (h : 1 ≤ n ∧ n ≤ 25) : PureO P 54 [eI n] 2 ((za9 n).map eF) :=
 repO (K1.zeros_call n h) h.1 (zag (.s _) zak)
theorem zeros_pf (n : Nat) (h : 1 ≤ n ∧ n ≤ 12) : Pure P 54 [eI n] (eL eF (za9 n)) := by
 have hr := repO (K1.repF_call (P := P) (Fr.of 0) n ⟨h.1, by omega⟩) h.1 (zag (.sl _ (zag (lo_F _) zak)) (zag (.s _) zak))
 have hlz : Lo 0 (eL eF (za9 n)) := zan lo_F
 refine zcu (by rw [IsP.eq (P := P)]; exact Try.func54) rfl rfl rfl rfl rfl (zag (.s _) zak) (by repeat' (first | exact Lo.s _ | exact zak | refine zag ?_ ?_ | refine zan ?_ | refine Lo.agg _ ?_ | refine Lo.sl _ ?_ | intro _)) (by simp only [argF]; rfl) ?_
 refine zah (zab (zac rfl (zae (zah (zab (zaf rfl rfl (zaa rfl) (zam rfl rfl ((swhole_pf 0)) (zad rfl zaq)) (zaf rfl rfl (zaa rfl) (zcr rfl ts30 ti51 rfl rfl (by decide) (by decide) rfl rfl rfl (.agg _ (zag (.s _) (zag (.s _) zak)))) (zac rfl (zaf rfl rfl (zaa rfl) (does_callO rfl rfl (hr) (zad rfl (zad rfl zaq))) (zac rfl (zae (zai ?_))))))))))))
 refine zbi (zbs (id := 0) rfl) (zbi (wk_sl (d := 2) rfl rfl rfl) ?_)
 (refine za8 ?_; repeat (first | refine zbg ?_ | refine zbh ?_))
 exact zcb (.inr rfl) rfl rfl
end Go.Proofs.Ytllkbjcemecmjaa.Aw
end
section
namespace Go.Proofs.Ytllkbjcemecmjaa.Aw
open Go.RowKit Go.Proofs
variable {P : Program} [IsP P]
theorem feOf_ok {x : Option Fr} (h : (FE.of x).e = 0) (k : ∀ a, x = some a → a.ok) : Fr.ok ⟨(FE.of x).n, (FE.of x).d⟩ := by
 cases x with
 | none => simp [FE.of] at h
 | some a => exact k a rfl
theorem addE_ok {a b : Fr} (h : (addE a b).e = 0) : Fr.ok ⟨(addE a b).n, (addE a b).d⟩ := by
 unfold addE at *
 split at h
 ·
  rename_i hc
  rw [if_pos hc] at *
  simp only [Bool.and_eq_true, Fr.okB_iff] at hc
  have h1 := hc.1.2.2.1
  have h2 := hc.2.2.2.1
  exact feOf_ok h (fun r hr => mkF_ok (by
   have := Int.mul_pos (show 0 < a.d by omega) (show 0 < b.d by omega)
   omega) hr)
 ·
  simp [FE.err] at h
theorem zero_ok : (Fr.of 0).ok := by unfold Fr.of Fr.ok; decide
theorem dotG_ok : ∀ (a b : List Fr) (acc : Fr), acc.ok → (dotG acc a b).e = 0 → Fr.ok ⟨(dotG acc a b).n, (dotG acc a b).d⟩
 | [], b, acc, h, he => by rw [dotG] <;> first | exact h | (intro x y z w e; cases e)
 | x :: a, [], acc, h, he => by rw [dotG] <;> first | exact h | (intro x y z w e e2; cases e2)
 | x :: a, y :: b, acc, h, he => by
  rw [dotG] at he ⊢
  split at he
  ·
   rename_i h1; exact absurd he h1
  ·
   rename_i h1
   rw [if_neg h1] at *
   split at he
   ·
    rename_i h2; exact absurd he h2
   ·
    rename_i h2
    rw [if_neg h2]
    exact dotG_ok a b _ (addE_ok (Decidable.not_not.1 h2)) he
theorem dotE_ok {a b : List Fr} (he : (dotE a b).e = 0) : Fr.ok ⟨(dotE a b).n, (dotE a b).d⟩ := by
 unfold dotE at *
 split at he
 ·
  simp [FE.err] at he
 ·
  rename_i h1
  rw [if_neg h1]
  split at he
  ·
   simp [FE.err] at he
  ·
   rename_i h2
   rw [if_neg h2]
   split at he
   ·
    simp [FE.err] at he
   ·
    rename_i h3
    rw [if_neg h3]
    exact dotG_ok a b _ zero_ok he
def metF (p : LP) (x b : List Fr) : Nat → Nat → Bool × Int
 | 0, _ => (true, 0)
 | n + 1, k => if (dotE (gti p.a k) x).e ≠ 0 then (false, (dotE (gti p.a k) x).e) else if relC (cmpE ⟨(dotE (gti p.a k) x).n, (dotE (gti p.a k) x).d⟩ (gti b k)).1 (gti p.rel k) = true then metF p x b n (k + 1) else (false, 0)
def metR (p : LP) (x b : List Fr) : Bool × Int := metF p x b p.a.length 0
def metE (p : LP) (x b : List Fr) : Bool × Int := if x.any negB = true then (false, 0) else metR p x b
def seBI (r : Bool × Int) : AV := .tup [eB r.1, eI r.2]
theorem spost_bi {N : Nat} {F : Frm} {σ : List Ob} {t u : Nat} {r : Bool × Int} {b : Bool} {n : Int} {e : Exit} (he : e = .normal ∨ e = .ret) (h : F.get t = eB b) (h' : F.get u = eI n) (hr : r = (b, n)) : APost P [.tmp t, .tmp u] (seBI r) e F σ := by
 subst hr
 exact post2 he h h' (.refl _) (.refl _)
set_option maxHeartbeats 1000000 in
theorem met_pf (p : LP) (x b : List Fr) (h1 : p.rel.length = p.a.length) (h2 : b.length = p.a.length) (h3 : p.a.length ≤ 12) : Pure P 69 [eP p, eL eF x, eL eF b] (seBI (metE p x b)) := by
 have hb := below_pf (P := P) x
 refine zcu (by rw [IsP.eq (P := P)]; exact Try.func69) rfl rfl rfl rfl rfl (by repeat' (first | exact Lo.s _ | exact zak | refine zag ?_ ?_ | refine zan ?_ | refine Lo.agg _ ?_ | refine Lo.sl _ ?_ | intro _)) (.tup _ (zag (.s _) (zag (.s _) zak))) (by simp only [argF]; rfl) ?_
 refine zah (zab (zaf rfl rfl (zaa rfl) (zb4 rfl rfl rfl rfl) ?_))
 refine za5 (zbs (id := 0) rfl) (za5 (zch (d := 3) rfl rfl rfl) ?_)
 refine zac rfl (zac rfl (zae (zah (zah (zab (zac rfl (zaf rfl rfl (zaa rfl) (zam rfl rfl (hb) (zad rfl zaq)) (zae (zai ?_)))))))))
 refine aw_cond rfl (fun h => ?_) (fun h => ?_)
 ·
  refine zah (zab (zac rfl (zac rfl (zae (zai ?_)))))
  (refine za8 ?_; repeat (first | refine zbg ?_ | refine zbh ?_))
  exact spost_bi (N := 0) (.inr rfl) rfl rfl (by unfold metE; rw [if_pos h])
 ·
  have HI : metE p x b = metF p x b p.a.length 0 := by unfold metE; rw [if_neg (by rw [h]; simp)]; rfl
  refine zat (zah (zah (zab (zb1 tf47_1 rfl (zby ta45 rfl (zaf rfl rfl (zaa rfl) (zao rfl ts45 rfl) (zac rfl (zae (zai (zaw ?_))))))))))
  refine zca (S := Nat) (fun k => [(1, eL eF x), (2, eL eF b), (3, .ref (eP p).cells), (15, eL (eL eF) p.a), (16, eI p.a.length), (17, eI k)]) (fun _ => []) (fun k => k ≤ p.a.length ∧ metE p x b = metF p x b (p.a.length - k) k) (fun k => p.a.length - k) 0 (zck [] (by decide) trivial ⟨.lo _ (by repeat' (first | exact Lo.s _ | exact zak | refine zag ?_ ?_ | refine zan ?_ | refine Lo.agg _ ?_ | refine Lo.sl _ ?_ | intro _)), .lo _ (by repeat' (first | exact Lo.s _ | exact zak | refine zag ?_ ?_ | refine zan ?_ | refine Lo.agg _ ?_ | refine Lo.sl _ ?_ | intro _)), .lo _ (by repeat' (first | exact Lo.s _ | exact zak | refine zag ?_ ?_ | refine zan ?_ | refine Lo.cells ?_ | refine Lo.agg _ ?_ | refine Lo.ref _ ?_ | refine Lo.tup _ ?_ | refine Lo.fn _ _ ?_ | refine Lo.sl _ ?_ | intro _)), .lo _ (by repeat' (first | exact Lo.s _ | exact zak | refine zag ?_ ?_ | refine zan ?_ | refine Lo.agg _ ?_ | refine Lo.sl _ ?_ | intro _)), .lo _ (.s _), .lo _ (.s _), trivial⟩) ⟨by omega, HI⟩ (fun k hk => ?_)
  obtain ⟨hk, HI⟩ := hk
  refine zah (zab ?_)
  refine za3 rfl rfl (zaa rfl) (za4 rfl rfl rfl) (fun h18 => ?_) (fun h18 => ?_)
  all_goals refine zae (zah ?_)
  all_goals (first | refine za7 rfl ?_ | refine za1 rfl ?_)
  all_goals (repeat (first | refine zah ?_ | refine zat ?_ | refine zaw ?_))
  ·
   have hlt : k < p.a.length := by omega
   rw [show p.a.length - k = (p.a.length - (k + 1)) + 1 by omega, metF] at HI
   have hd := fDot_pf (P := P) (gti p.a k) x
   generalize hdd : dotE (gti p.a k) x = d at *
   have hs := stands_pf (P := P) ⟨d.n, d.d⟩ (gti p.rel k) (gti b k)
   refine zab (zac rfl (zaf rfl rfl (zaa rfl) (zal rfl ts45 ti30 rfl rfl rfl (zbd (by omega)) rfl) (zby ta30 rfl (zac rfl (zac rfl (zae (zah (zab (zac rfl (zac rfl (zaf rfl rfl (zaa rfl) (zam rfl rfl (hd) (zad rfl (zad rfl zaq))) (zac rfl (zac rfl (zac rfl (zaf rfl rfl (zaa rfl) (za0 rfl ti51 rfl rfl) (zbe rfl (zaa rfl) (zaj rfl ti51 rfl rfl rfl rfl rfl rfl (by decide) (by decide)) (zac rfl (zae (zah (zah (zab (zac rfl ?_))))))))))))))))))))))
   refine za3 rfl rfl (zaa rfl) (zbw rfl rfl rfl) (fun h29 => ?_) (fun h29 => ?_)
   all_goals refine zae (zai ?_)
   all_goals (first | refine za7 rfl ?_ | refine za1 rfl ?_)
   all_goals (repeat (first | refine zah ?_ | refine zat ?_))
   ·
    rw [if_pos (by omega)] at HI
    refine zab (zac rfl (zac rfl (zac rfl (zae (zai ?_)))))
    (refine za8 ?_; repeat (first | refine zbg ?_ | refine zbh ?_))
    exact spost_bi (N := 0) (.inr rfl) rfl rfl HI
   ·
    rw [if_neg (by omega)] at HI
    refine zcj hmix ?_
    refine zcm (by kernel_rfl) ?_
    refine zcn rfl rfl (zaa rfl) (zba rfl ta51 ti51 rfl rfl rfl rfl rfl) (qx_f tf47_2 rfl (qx_l ta22 rfl (qx_s rfl (zcn rfl rfl (zaa rfl) (zal rfl ts22 ti3 rfl rfl rfl (zbd (by omega)) rfl) (qx_l ta3 rfl (qx_s rfl (qx_s rfl (zcn rfl rfl (zaa rfl) (zal rfl ts30 ti51 rfl rfl rfl (zbd (by omega)) rfl) (qx_w ta51 ti51 rfl ?_)))))))))
    refine qx_opB rfl rfl (zaa rfl) (zam rfl rfl (hs) (zad rfl (zad rfl (zad rfl zaq)))) (fun h41 => ?_) (fun h41 => ?_)
    all_goals refine zcn rfl rfl (zaa rfl) (zbv rfl rfl) ?_
    all_goals refine qx_nil ?_
    all_goals refine zai ?_
    all_goals (first | refine za7 rfl ?_ | refine za1 rfl ?_)
    all_goals (repeat (first | refine zah ?_ | refine zai ?_ | refine zat ?_ | refine zbu ?_))
    all_goals first
     |
      refine zab (zac rfl (zac rfl (zae (zai ?_))))
      (refine za8 ?_; repeat (first | refine zbg ?_ | refine zbh ?_))
      exact spost_bi (N := 0) (.inr rfl) rfl rfl (by rw [HI, if_neg (by rw [h41]; simp)])
     |
      refine zab (zaf rfl rfl (zaa rfl) (zav rfl rfl rfl (IntWalk.i64_in _ (by omega))) (zac rfl (zae (zai ?_))))
      rw [if_pos h41] at HI
      exact ⟨k + 1, ⟨by omega, HI⟩, by omega, zck [] (by decide) trivial ⟨.lo _ (by repeat' (first | exact Lo.s _ | exact zak | refine zag ?_ ?_ | refine zan ?_ | refine Lo.agg _ ?_ | refine Lo.sl _ ?_ | intro _)), .lo _ (by repeat' (first | exact Lo.s _ | exact zak | refine zag ?_ ?_ | refine zan ?_ | refine Lo.agg _ ?_ | refine Lo.sl _ ?_ | intro _)), .lo _ (by repeat' (first | exact Lo.s _ | exact zak | refine zag ?_ ?_ | refine zan ?_ | refine Lo.cells ?_ | refine Lo.agg _ ?_ | refine Lo.ref _ ?_ | refine Lo.tup _ ?_ | refine Lo.fn _ _ ?_ | refine Lo.sl _ ?_ | intro _)), .lo _ (by repeat' (first | exact Lo.s _ | exact zak | refine zag ?_ ?_ | refine zan ?_ | refine Lo.agg _ ?_ | refine Lo.sl _ ?_ | intro _)), .lo _ (.s _), .lo _ (.s _), trivial⟩⟩
  ·
   rw [show p.a.length - k = 0 by omega] at HI
   (refine zcl ?_; repeat (first | refine zc3 ?_ | refine zb2 ?_ | refine zbq rfl ?_ | refine zbu ?_ | refine zai ?_ | refine zah ?_ | refine zat ?_ | refine zaw ?_))
   refine zab (zac rfl (zac rfl (zae (zai ?_))))
   (refine za8 ?_; repeat (first | refine zbg ?_ | refine zbh ?_))
   exact spost_bi (N := 0) (.inr rfl) rfl rfl HI
theorem validP_iff {p : LP} (h : validP p = true) : (1 ≤ p.c.length ∧ p.c.length ≤ 12 ∧ 1 ≤ p.a.length ∧ p.a.length ≤ 12 ∧ p.rel.length = p.a.length ∧ p.c.all Fr.okB = true ∧ p.b.length = p.a.length ∧ p.b.all Fr.okB = true) ∧ ∀ k, k < p.a.length → (gti p.a k).length = p.c.length ∧ (gti p.a k).all Fr.okB = true ∧ relB (gti p.rel k) = true := by
 unfold validP at h
 rw [Bool.and_eq_true, headB_iff] at h
 refine ⟨h.1, fun k hk => ?_⟩
 have h1 := List.all_eq_true.1 h.2 k (by simpa using hk)
 unfold rowB at h1
 rw [Bool.and_eq_true, fineB_iff] at h1
 exact ⟨by omega, h1.1.2, h1.2⟩
def rhs (p : LP) (z : Bool) : List Fr := if z = true then za9 p.a.length else p.b
end Go.Proofs.Ytllkbjcemecmjaa.Aw
end
section
namespace Go.Proofs.Ytllkbjcemecmjaa.Aw
open Go.RowKit Go.Proofs
variable {P : Program} [IsP P]
def undF (p : LP) (y most : List Fr) : Nat → Nat → Bool × Int
 | 0, _ => (true, 0)
 | n + 1, k => if (dotE (colL p k) y).e ≠ 0 then (false, (dotE (colL p k) y).e) else if relC (cmpE ⟨(dotE (colL p k) y).n, (dotE (colL p k) y).d⟩ (gti most k)).1 1 = true then undF p y most n (k + 1) else (false, 0)
def undR (p : LP) (y most : List Fr) : Bool × Int := undF p y most p.c.length 0
theorem undF_t (p : LP) (y most : List Fr) : ∀ n k, (undF p y most n k).1 = true → (undF p y most n k).2 = 0
 | 0, _, _ => rfl
 | n + 1, k, h => by
  rw [undF] at h ⊢
  split at h
  ·
   cases h
  ·
   rename_i h1
   rw [if_neg h1]
   split at h
   ·
    rename_i h2
    rw [if_pos h2]
    exact undF_t p y most n (k + 1) h
   ·
    cases h
theorem undR_t {p : LP} {y most : List Fr} (h : (undR p y most).1 = true) : (undR p y most).2 = 0 := undF_t p y most _ _ h
theorem valid_col {p : LP} (hv : validP p = true) {k : Nat} (hk : k < p.c.length) : ∀ i, i < p.a.length → k < (gti p.a i).length := by
 obtain ⟨_, qr⟩ := validP_iff hv
 intro i hi
 rw [(qr i hi).1]; exact hk
set_option maxHeartbeats 1000000 in
theorem under_pf (p : LP) (y most : List Fr) (hv : validP p = true) (hm : most.length = p.c.length) : Pure P 68 [eP p, eL eF y, eL eF most] (seBI (undR p y most)) := by
 obtain ⟨⟨q1, q2, q3, q4, q5, q6, q7, q8⟩, qr⟩ := validP_iff hv
 have HI : undR p y most = undF p y most p.c.length 0 := rfl
 generalize undR p y most = R at HI ⊢
 refine zcu (by rw [IsP.eq (P := P)]; exact Try.func68) rfl rfl rfl rfl rfl (by repeat' (first | exact Lo.s _ | exact zak | refine zag ?_ ?_ | refine zan ?_ | refine Lo.agg _ ?_ | refine Lo.sl _ ?_ | intro _)) (.tup _ (zag (.s _) (zag (.s _) zak))) (by simp only [argF]; rfl) ?_
 refine zah (zab (zaf rfl rfl (zaa rfl) (zb4 rfl rfl rfl rfl) ?_))
 refine za5 (zbs (id := 0) rfl) (za5 (zch (d := 3) rfl rfl rfl) ?_)
 refine zac rfl (zac rfl (zae (zah (zah (zab (zb1 tf47_0 rfl (zby ta30 rfl (zaf rfl rfl (zaa rfl) (zao rfl ts30 rfl) (zac rfl (zae (zai (zaw ?_))))))))))))
 refine zca (S := Nat) (fun k => [(1, eL eF y), (2, eL eF most), (3, .ref (eP p).cells), (13, eI p.c.length), (14, eI k)]) (fun _ => []) (fun k => k ≤ p.c.length ∧ R = undF p y most (p.c.length - k) k) (fun k => p.c.length - k) 0 (zck [] (by decide) trivial ⟨.lo _ (by repeat' (first | exact Lo.s _ | exact zak | refine zag ?_ ?_ | refine zan ?_ | refine Lo.agg _ ?_ | refine Lo.sl _ ?_ | intro _)), .lo _ (by repeat' (first | exact Lo.s _ | exact zak | refine zag ?_ ?_ | refine zan ?_ | refine Lo.agg _ ?_ | refine Lo.sl _ ?_ | intro _)), .lo _ (by repeat' (first | exact Lo.s _ | exact zak | refine zag ?_ ?_ | refine zan ?_ | refine Lo.cells ?_ | refine Lo.agg _ ?_ | refine Lo.ref _ ?_ | refine Lo.tup _ ?_ | refine Lo.fn _ _ ?_ | refine Lo.sl _ ?_ | intro _)), .lo _ (.s _), .lo _ (.s _), trivial⟩) ⟨by omega, HI⟩ (fun k hk => ?_)
 obtain ⟨hk, HI⟩ := hk
 refine zah (zab ?_)
 refine za3 rfl rfl (zaa rfl) (za4 rfl rfl rfl) (fun h15 => ?_) (fun h15 => ?_)
 all_goals refine zae (zah ?_)
 all_goals (first | refine za7 rfl ?_ | refine za1 rfl ?_)
 all_goals (repeat (first | refine zah ?_ | refine zat ?_ | refine zaw ?_))
 ·
  have hlt : k < p.c.length := by omega
  have hlm : k < most.length := by omega
  rw [show p.c.length - k = (p.c.length - (k + 1)) + 1 by omega, undF] at HI
  have hcol := column_pf (P := P) p k (valid_col hv hlt) q4
  have hd := fDot_pf (P := P) (colL p k) y
  generalize hdd : dotE (colL p k) y = d at *
  have hs := stands_pf (P := P) ⟨d.n, d.d⟩ 1 (gti most k)
  generalize relC (cmpE ⟨d.n, d.d⟩ (gti most k)).1 1 = rr at HI hs
  refine zab (zac rfl (zac rfl (zae (zah (zab (zc5 ta47 ti47 rfl (zac rfl (zaf rfl rfl (zaa rfl) (zam rfl rfl (hcol) (zad rfl (zad rfl zaq))) (zac rfl (zaf rfl rfl (zaa rfl) (zam rfl rfl (hd) (zad rfl (zad rfl zaq))) (zac rfl (zac rfl (zac rfl (zaf rfl rfl (zaa rfl) (za0 rfl ti51 rfl rfl) (zbe rfl (zaa rfl) (zaj rfl ti51 rfl rfl rfl rfl rfl rfl (by decide) (by decide)) (zac rfl (zae (zah (zah (zab (zac rfl ?_)))))))))))))))))))))
  refine za3 rfl rfl (zaa rfl) (zbw rfl rfl rfl) (fun h26 => ?_) (fun h26 => ?_)
  all_goals refine zae (zai ?_)
  all_goals (first | refine za7 rfl ?_ | refine za1 rfl ?_)
  all_goals (repeat (first | refine zah ?_ | refine zat ?_))
  ·
   rw [if_pos (by omega)] at HI
   refine zab (zac rfl (zac rfl (zac rfl (zae (zai ?_)))))
   (refine za8 ?_; repeat (first | refine zbg ?_ | refine zbh ?_))
   exact spost_bi (N := 0) (.inr rfl) rfl rfl HI
  ·
   rw [if_neg (by omega)] at HI
   refine zcj hmix ?_
   refine zcm (by kernel_rfl) ?_
   refine zcn rfl rfl (zaa rfl) (zba rfl ta51 ti51 rfl rfl rfl rfl rfl) (qx_s rfl (qx_s rfl (zcn rfl rfl (zaa rfl) (zal rfl ts30 ti51 rfl rfl rfl (zbd (by omega)) rfl) (qx_w ta51 ti51 rfl ?_))))
   refine qx_opB rfl rfl (zaa rfl) (zam rfl rfl (hs) (zad rfl (zad rfl (zad rfl zaq)))) (fun h33 => ?_) (fun h33 => ?_)
   all_goals refine zcn rfl rfl (zaa rfl) (zbv rfl rfl) ?_
   all_goals refine qx_nil ?_
   all_goals refine zai ?_
   all_goals (first | refine za7 rfl ?_ | refine za1 rfl ?_)
   all_goals (repeat (first | refine zah ?_ | refine zai ?_ | refine zat ?_ | refine zbu ?_))
   all_goals first
    |
     refine zab (zac rfl (zac rfl (zae (zai ?_))))
     (refine za8 ?_; repeat (first | refine zbg ?_ | refine zbh ?_))
     exact spost_bi (N := 0) (.inr rfl) rfl rfl (by rw [HI, if_neg (by rw [h33]; simp)])
    |
     refine zab (zaf rfl rfl (zaa rfl) (zav rfl rfl rfl (IntWalk.i64_in _ (by omega))) (zac rfl (zae (zai ?_))))
     rw [if_pos h33] at HI
     exact ⟨k + 1, ⟨by omega, HI⟩, by omega, zck [] (by decide) trivial ⟨.lo _ (by repeat' (first | exact Lo.s _ | exact zak | refine zag ?_ ?_ | refine zan ?_ | refine Lo.agg _ ?_ | refine Lo.sl _ ?_ | intro _)), .lo _ (by repeat' (first | exact Lo.s _ | exact zak | refine zag ?_ ?_ | refine zan ?_ | refine Lo.agg _ ?_ | refine Lo.sl _ ?_ | intro _)), .lo _ (by repeat' (first | exact Lo.s _ | exact zak | refine zag ?_ ?_ | refine zan ?_ | refine Lo.cells ?_ | refine Lo.agg _ ?_ | refine Lo.ref _ ?_ | refine Lo.tup _ ?_ | refine Lo.fn _ _ ?_ | refine Lo.sl _ ?_ | intro _)), .lo _ (.s _), .lo _ (.s _), trivial⟩⟩
 ·
  rw [show p.c.length - k = 0 by omega] at HI
  (refine zcl ?_; repeat (first | refine zc3 ?_ | refine zb2 ?_ | refine zbq rfl ?_ | refine zbu ?_ | refine zai ?_ | refine zah ?_ | refine zat ?_ | refine zaw ?_))
  refine zab (zac rfl (zac rfl (zae (zai ?_))))
  (refine za8 ?_; repeat (first | refine zbg ?_ | refine zbh ?_))
  exact spost_bi (N := 0) (.inr rfl) rfl rfl HI
def wanted (p : LP) (z : Bool) : List Fr := if z = true then za9 p.c.length else p.c
end Go.Proofs.Ytllkbjcemecmjaa.Aw
end
section
namespace Go.Proofs.Ytllkbjcemecmjaa.Aw
open Go.RowKit Go.Proofs
variable {P : Program} [IsP P]
theorem validP_len {p : LP} (h : validP p = true) : p.rel.length = p.a.length ∧ p.b.length = p.a.length ∧ p.a.length ≤ 12 ∧ p.c.length ≤ 12 := by
 obtain ⟨⟨q1, q2, q3, q4, q5, q6, q7, q8⟩, qr⟩ := validP_iff h
 exact ⟨q5, q7, q4, q2⟩
def solB (p : LP) (x : List Fr) : Bool := fineB x p.c.length && ((metE p x p.b).1 && decide ((metE p x p.b).2 = 0))
theorem solution_pf (p : LP) (x : List Fr) (hv : validP p = true) : Pure P 66 [eP p, eL eF x] (eB (solB p x)) := by
 obtain ⟨q1, q2, q3, q4⟩ := validP_len hv
 have hm := met_pf (P := P) p x p.b q1 q2 q3
 unfold solB
 generalize metE p x p.b = r at hm ⊢
 obtain ⟨b, e⟩ := r
 refine zcu (by rw [IsP.eq (P := P)]; exact Try.func66) rfl rfl rfl rfl rfl (by repeat' (first | exact Lo.s _ | exact zak | refine zag ?_ ?_ | refine zan ?_ | refine Lo.agg _ ?_ | refine Lo.sl _ ?_ | intro _)) (.s _) (by simp only [argF]; rfl) ?_
 refine zah (zab (zaf rfl rfl (zaa rfl) (zb4 rfl rfl rfl rfl) ?_))
 refine za5 (zbs (id := 0) rfl) (za5 (zch (d := 2) rfl rfl rfl) ?_)
 refine zac rfl (zae (zah (zah (zab (zac rfl (zb1 tf47_0 rfl (zby ta30 rfl (zaf rfl rfl (zaa rfl) (zao rfl ts30 rfl) ?_))))))))
 refine zcx rfl rfl (zaa rfl) (zam rfl rfl (fine_pf _ _) (zad rfl (zad rfl zaq))) (fun h11 => ?_) (fun h11 => ?_)
 all_goals refine zaf rfl rfl (zaa rfl) (zbv rfl rfl) (zae (zai ?_))
 all_goals (first | refine za7 rfl ?_ | refine za1 rfl ?_)
 all_goals (repeat (first | refine zah ?_ | refine zat ?_))
 ·
  refine zab (zc5 ta47 ti47 rfl (zac rfl (zb1 tf47_3 rfl (zby ta30 rfl (zaf rfl rfl (zaa rfl) (zam rfl rfl (hm) (zad rfl (zad rfl (zad rfl zaq)))) (zac rfl (zac rfl (zac rfl (zac rfl (zac rfl (zae (zah ?_))))))))))))
  cases b
  all_goals all_goals refine zab ?_
  all_goals all_goals refine zaf rfl rfl (zaa rfl) (mv_s (.inl rfl) rfl) ?_
  all_goals all_goals refine zaf rfl rfl (zaa rfl) (mv_s (.inl rfl) rfl) ?_
  all_goals (all_goals (first | refine zaf rfl rfl (zas rfl rfl rfl) (mv_s (.inl rfl) rfl) ?_ | refine zcf rfl rfl (runs_nt rfl rfl rfl) ?_ | refine zcf rfl rfl (zbf rfl rfl rfl) ?_))
  all_goals (all_goals (first | refine za3 rfl rfl (zas rfl rfl rfl) (zbk rfl rfl rfl) (fun h24 => ?_) (fun h24 => ?_) | refine zcx rfl rfl (zas rfl rfl rfl) (zbk rfl rfl rfl) (fun h24 => ?_) (fun h24 => ?_) | refine zcf rfl rfl (runs_nt rfl rfl rfl) ?_ | refine zcf rfl rfl (zbf rfl rfl rfl) ?_))
  all_goals (all_goals (first | refine zaf rfl rfl (zaa rfl) (pickT_s rfl rfl rfl) ?_ | refine zaf rfl rfl (zaa rfl) (pickF_s rfl rfl rfl) ?_ | refine zaf rfl rfl (zaa rfl) (does_pickT rfl rfl rfl) ?_ | refine zaf rfl rfl (zaa rfl) (does_pickF rfl rfl rfl) ?_))
  all_goals all_goals refine zaf rfl rfl (zaa rfl) (mv_s (.inr rfl) rfl) ?_
  all_goals all_goals refine zae ?_
  all_goals (all_goals (repeat (first | refine zah ?_ | refine zai ?_ | refine zat ?_ | refine zbu ?_ | refine zaw ?_)))
  all_goals refine za8 ?_
  all_goals (exact zcb (.inr rfl) rfl (congrArg eB (by first | (simp [h11]; done) | (dsimp only at h24; simp [h11, h24]; done))))
 ·
  refine zab (zac rfl (zae (zai ?_)))
  (refine za8 ?_; repeat (first | refine zbg ?_ | refine zbh ?_))
  exact zcb (.inr rfl) rfl (congrArg eB (by simp [h11]))
end Go.Proofs.Ytllkbjcemecmjaa.Aw
end
section
namespace Go.Proofs.Ytllkbjcemecmjaa.Aw
open Go.RowKit Go.Proofs
variable {P : Program} [IsP P]
noncomputable def decP (p : Prop) : Bool := @decide p (Classical.propDecidable p)
theorem decP_t {p : Prop} (h : p) : true = decP p := by unfold decP; exact (@decide_eq_true _ (Classical.propDecidable p) h).symm
theorem decP_f {p : Prop} (h : ¬ p) : false = decP p := by unfold decP; exact (@decide_eq_false _ (Classical.propDecidable p) h).symm
structure Sol where
 kind : Int
 x : List Fr
 y : List Fr
 ray : List Fr
 v : Fr
def eSol (s : Sol) : AV := .agg [eI s.kind, eL eF s.x, eL eF s.y, eL eF s.ray, eI s.v.n, eI s.v.d]
theorem fr_eq {a b c d : Int} (h : [Value.int .i64 a, Value.int .i64 b] = [Value.int .i64 c, Value.int .i64 d]) : a = c ∧ b = d := by cases h; exact ⟨rfl, rfl⟩
theorem fr_mk {a b c d : Int} (h : a = c ∧ b = d) : [Value.int .i64 a, Value.int .i64 b] = [Value.int .i64 c, Value.int .i64 d] := by rw [h.1, h.2]
theorem cl_t {p : Prop} (h : @decide p (Classical.propDecidable p) = true) : p := @of_decide_eq_true p (Classical.propDecidable p) h
theorem cl_f {p : Prop} (h : @decide p (Classical.propDecidable p) = false) : ¬ p := @of_decide_eq_false p (Classical.propDecidable p) h
theorem fr_eqT {a b c d : Int} (h : @decide ([Value.int .i64 a, Value.int .i64 b] = [Value.int .i64 c, Value.int .i64 d]) (Classical.propDecidable _) = true) : a = c ∧ b = d := fr_eq (cl_t h)
theorem fr_eqF {a b c d : Int} (h : @decide ([Value.int .i64 a, Value.int .i64 b] = [Value.int .i64 c, Value.int .i64 d]) (Classical.propDecidable _) = false) : ¬ (a = c ∧ b = d) := fun g => cl_f h (fr_mk g)
theorem fr_neT {a b c d : Int} (h : @decide ([Value.int .i64 a, Value.int .i64 b] ≠ [Value.int .i64 c, Value.int .i64 d]) (Classical.propDecidable _) = true) : ¬ (a = c ∧ b = d) := fun g => cl_t h (fr_mk g)
theorem fr_neF {a b c d : Int} (h : @decide ([Value.int .i64 a, Value.int .i64 b] ≠ [Value.int .i64 c, Value.int .i64 d]) (Classical.propDecidable _) = false) : a = c ∧ b = d := fr_eq (Classical.not_not.1 (cl_f h))
def Opt (b1 b2 b3 u : Bool) (l : Nat) (dx dy : FE) (v : Fr) : Prop := b1 = true ∧ b2 = true ∧ b3 = true ∧ l = 0 ∧ u = true ∧ dx.e = 0 ∧ dy.e = 0 ∧ (dx.n = dy.n ∧ dx.d = dy.d) ∧ (v.n = dx.n ∧ v.d = dx.d)
def Inf (l l2 : Nat) (v : Fr) (b2 b3 u : Bool) (dy : FE) : Prop := l = 0 ∧ l2 = 0 ∧ (v.n = 0 ∧ v.d = 0) ∧ b2 = true ∧ b3 = true ∧ u = true ∧ dy.e = 0 ∧ dy.n > 0
def Unb (l : Nat) (v : Fr) (b1 b2 : Bool) (r : Bool × Int) (dr : FE) : Prop := l = 0 ∧ (v.n = 0 ∧ v.d = 0) ∧ b1 = true ∧ b2 = true ∧ r.1 = true ∧ r.2 = 0 ∧ dr.e = 0 ∧ dr.n < 0
noncomputable def checkB (p : LP) (s : Sol) : Bool :=
 if validP p = true then
  if s.kind = 1 then decP (Opt (solB p s.x) (fineB s.y p.a.length) (signsB p s.y) (undR p s.y p.c).1 s.ray.length (dotE p.c s.x) (dotE p.b s.y) s.v)
  else if s.kind = 2 then decP (Inf s.x.length s.ray.length s.v (fineB s.y p.a.length) (signsB p s.y) (undR p s.y (za9 p.c.length)).1 (dotE p.b s.y))
  else if s.kind = 3 then decP (Unb s.y.length s.v (solB p s.x) (fineB s.ray p.c.length) (metE p s.ray (za9 p.a.length)) (dotE p.c s.ray))
  else false
 else false
theorem zerosL_len (n : Nat) : (za9 n).length = n := by simp [za9]
set_option maxHeartbeats 4000000 in
theorem sCheck_pf (p : LP) (s : Sol) : Pure P 35 [eP p, eSol s] (eB (checkB p s)) := by
 have HI : checkB p s = checkB p s := rfl
 generalize hR : checkB p s = R at HI ⊢
 unfold checkB at hR
 clear HI
 refine zcu (by rw [IsP.eq (P := P)]; exact Try.func35) rfl rfl rfl rfl rfl (by repeat' (first | exact Lo.s _ | exact zak | refine zag ?_ ?_ | refine zan ?_ | refine Lo.agg _ ?_ | refine Lo.sl _ ?_ | intro _)) (.s _) (by simp only [argF]; rfl) ?_
 refine zah (zab (zaf rfl rfl (zaa rfl) (zb4 rfl rfl rfl rfl) ?_))
 refine za5 (zbs (id := 0) rfl) (za5 (zch (d := 2) rfl rfl rfl) ?_)
 refine zaf rfl rfl (zaa rfl) (zb4 rfl rfl rfl rfl) ?_
 refine za5 (zbs (id := 1) rfl) (za5 (zch (d := 3) rfl rfl rfl) ?_)
 refine zac rfl (zae (zah (zah (zab (zc5 ta47 ti47 rfl ?_)))))
 refine zcx rfl rfl (zaa rfl) (zam rfl rfl (sValid_pf _) (zad rfl zaq)) (fun h22 => ?_) (fun h22 => ?_)
 all_goals refine zaf rfl rfl (zaa rfl) (zbv rfl rfl) (zae (zai ?_))
 all_goals (first | refine za7 rfl ?_ | refine za1 rfl ?_)
 all_goals (repeat (first | refine zah ?_ | refine zat ?_))
 rotate_left 1
 ·
  refine zab (zac rfl (zae (zai ?_)))
  (refine za8 ?_; repeat (first | refine zbg ?_ | refine zbh ?_))
  exact zcb (.inr rfl) rfl (congrArg eB (by rw [← hR, if_neg (by rw [h22]; simp)]))
 obtain ⟨q1, q2, q3, q4⟩ := validP_len h22
 rw [if_pos h22] at hR
 refine zcj hmix ?_
 refine zcm (by kernel_rfl) ?_
 refine qx_f tf47_0 rfl (qx_l ta30 rfl (zcn rfl rfl (zaa rfl) (zao rfl ts30 rfl) (qx_f tf47_1 rfl (qx_l ta45 rfl (zcn rfl rfl (zaa rfl) (zao rfl ts45 rfl) (qx_s rfl (qx_s rfl ?_)))))))
 refine qx_nil ?_
 refine zah (zah (zab (zb1 tf53_0 rfl (zby ta3 rfl (zae (zai (zaw (zah (zab ?_)))))))))
 refine za3 rfl rfl (zaa rfl) (zbk rfl rfl rfl) (fun h33 => ?_) (fun h33 => ?_)
 all_goals refine zac rfl (zae (zai ?_))
 all_goals (first | refine za7 rfl ?_ | refine za1 rfl ?_)
 all_goals repeat refine zah ?_
 ·
  rw [if_pos h33] at hR
  have hs1 := solution_pf (P := P) p s.x h22
  have hu : Pure P 68 [eP p, eL eF s.y, eL eF p.c] (.tup [eB (undR p s.y p.c).1, eI (undR p s.y p.c).2]) := under_pf (P := P) p s.y p.c h22 rfl
  have ht := @undR_t p s.y p.c
  have hdx := fDot_pf (P := P) p.c s.x
  have hdy := fDot_pf (P := P) p.b s.y
  generalize (undR p s.y p.c).1 = b at hu ht hR
  generalize (undR p s.y p.c).2 = e at hu ht
  generalize dotE p.c s.x = dx at hdx hR
  generalize dotE p.b s.y = dy at hdy hR
  refine zab (zc5 ta47 ti47 rfl (zb1 tf53_1 rfl (zby ta30 rfl ?_)))
  refine zcx rfl rfl (zaa rfl) (zam rfl rfl (hs1) (zad rfl (zad rfl zaq))) (fun h37 => ?_) (fun h37 => ?_)
  all_goals refine zaf rfl rfl (zaa rfl) (zbv rfl rfl) (zac rfl ?_)
  all_goals (first | refine zb1 tf53_2 rfl ?_ | refine zay rfl ?_)
  all_goals (first | refine zby ta30 rfl ?_ | refine zay rfl ?_)
  all_goals (first | refine zac rfl ?_ | refine zay rfl ?_)
  all_goals (first | refine zcx rfl rfl (zas rfl rfl rfl) (zam rfl rfl (fine_pf _ _) (zad rfl (zad rfl zaq))) (fun h43 => ?_) (fun h43 => ?_) | refine zay rfl ?_)
  all_goals (first | refine zaf rfl rfl (zas rfl rfl rfl) (zbv rfl rfl) ?_ | refine zay rfl ?_)
  all_goals refine zac rfl (zac rfl ?_)
  all_goals (first | refine zc5 ta47 ti47 rfl ?_ | refine zay rfl ?_)
  all_goals (first | refine zb1 tf53_2 rfl ?_ | refine zay rfl ?_)
  all_goals (first | refine zby ta30 rfl ?_ | refine zay rfl ?_)
  all_goals (first | refine zcx rfl rfl (zas rfl rfl rfl) (zam rfl rfl ((signed_pf p s.y (by have := (fineB_iff.1 h43).1; omega))) (zad rfl (zad rfl zaq))) (fun h50 => ?_) (fun h50 => ?_) | refine zay rfl ?_)
  all_goals (first | refine zaf rfl rfl (zas rfl rfl rfl) (zbv rfl rfl) ?_ | refine zay rfl ?_)
  all_goals refine zac rfl (zac rfl ?_)
  all_goals (first | refine zb1 tf53_3 rfl ?_ | refine zay rfl ?_)
  all_goals (first | refine zby ta30 rfl ?_ | refine zay rfl ?_)
  all_goals (first | refine zaf rfl rfl (zas rfl rfl rfl) (zao rfl ts30 rfl) ?_ | refine zay rfl ?_)
  all_goals (first | refine za3 rfl rfl (zas rfl rfl rfl) (zb5 rfl rfl rfl) (fun h57 => ?_) (fun h57 => ?_) | refine zay rfl ?_)
  all_goals refine zac rfl (zae (zai ?_))
  all_goals (first | refine za7 rfl ?_ | refine za1 rfl ?_)
  all_goals (repeat (first | refine zah ?_ | refine zat ?_))
  all_goals first
   |
    refine zab (zac rfl (zae (zai ?_)))
    (refine za8 ?_; repeat (first | refine zbg ?_ | refine zbh ?_))
    exact zcb (.inr rfl) rfl (congrArg eB (by
     rw [← hR]
     refine decP_f ?_
     rintro ⟨g1, g2, g3, g4, g5, g6, g7, g8, g9⟩
     first | omega | exact Bool.noConfusion (g1.symm.trans h37) | exact Bool.noConfusion (g2.symm.trans h43) | exact Bool.noConfusion (g3.symm.trans h50)))
   | skip
  refine zab (zc5 ta47 ti47 rfl (zb1 tf53_2 rfl (zby ta30 rfl (zb1 tf47_0 rfl (zby ta30 rfl (zaf rfl rfl (zaa rfl) (zam rfl rfl (hu) (zad rfl (zad rfl (zad rfl zaq)))) (zac rfl (zac rfl (zac rfl (zac rfl (zac rfl (zae (zah (zab (zb1 tf47_0 rfl (zby ta30 rfl (zb1 tf53_1 rfl (zby ta30 rfl (zaf rfl rfl (zaa rfl) (zam rfl rfl (hdx) (zad rfl (zad rfl zaq))) (zac rfl (zac rfl (zac rfl (zaf rfl rfl (zaa rfl) (za0 rfl ti51 rfl rfl) (zbe rfl (zaa rfl) (zaj rfl ti51 rfl rfl rfl rfl rfl rfl (by decide) (by decide)) ?_))))))))))))))))))))))))
  refine zac rfl (zae (zah (zab (zb1 tf47_3 rfl (zby ta30 rfl (zb1 tf53_2 rfl (zby ta30 rfl (zaf rfl rfl (zaa rfl) (zam rfl rfl (hdy) (zad rfl (zad rfl zaq))) (zac rfl (zac rfl (zac rfl (zaf rfl rfl (zaa rfl) (za0 rfl ti51 rfl rfl) (zbe rfl (zaa rfl) (zaj rfl ti51 rfl rfl rfl rfl rfl rfl (by decide) (by decide)) (zac rfl (zae (zah ?_))))))))))))))))
  cases b
  rotate_left 1
  ·
   have he := ht rfl
   subst he
   refine zab (zac rfl (zac rfl (zac rfl ?_)))
   refine za3 rfl rfl (zas rfl rfl rfl) (zbk rfl rfl rfl) (fun h87 => ?_) (fun h87 => ?_)
   all_goals refine zac rfl (zac rfl ?_)
   all_goals (first | refine zac rfl ?_ | refine zay rfl ?_)
   all_goals (first | refine za3 rfl rfl (zas rfl rfl rfl) (zbk rfl rfl rfl) (fun h91 => ?_) (fun h91 => ?_) | refine zay rfl ?_)
   all_goals refine zac rfl (zac rfl ?_)
   all_goals (first | refine zac rfl ?_ | refine zay rfl ?_)
   all_goals (first | refine za3 rfl rfl (zas rfl rfl rfl) (zbk rfl rfl rfl) (fun h95 => ?_) (fun h95 => ?_) | refine zay rfl ?_)
   all_goals refine zac rfl (zac rfl ?_)
   all_goals (first | refine zaf rfl rfl (zas rfl rfl rfl) (zba rfl ta51 ti51 rfl rfl rfl rfl rfl) ?_ | refine zay rfl ?_)
   all_goals (first | refine zaf rfl rfl (zas rfl rfl rfl) (zba rfl ta51 ti51 rfl rfl rfl rfl rfl) ?_ | refine zay rfl ?_)
   all_goals (first | refine zcx rfl rfl (zas rfl rfl rfl) (does_eqa rfl rfl rfl te51 rfl rfl rfl) (fun h100 => ?_) (fun h100 => ?_) | refine zay rfl ?_)
   all_goals refine zac rfl (zac rfl ?_)
   all_goals (first | refine zb1 tf53_4 rfl ?_ | refine zay rfl ?_)
   all_goals (first | refine zc5 ta51 ti51 rfl ?_ | refine zay rfl ?_)
   all_goals (first | refine zaf rfl rfl (zas rfl rfl rfl) (zba rfl ta51 ti51 rfl rfl rfl rfl rfl) ?_ | refine zay rfl ?_)
   all_goals (first | refine zcx rfl rfl (zas rfl rfl rfl) (does_eqa rfl rfl rfl te51 rfl rfl rfl) (fun h106 => ?_) (fun h106 => ?_) | refine zay rfl ?_)
   all_goals refine zac rfl (zac rfl (zae (zai (za8 (zbh (zbg ?_))))))
   all_goals exact zcb (.inr rfl) rfl (congrArg eB (by
    rw [← hR]
    first
    | exact decP_t ⟨h37, h43, h50, by omega, rfl, h91, h95, @fr_eqT dx.n dx.d dy.n dy.d h100, @fr_eqT s.v.n s.v.d dx.n dx.d h106⟩
    |
     refine decP_f ?_
     rintro ⟨g1, g2, g3, g4, g5, g6, g7, g8, g9⟩
     first | omega | exact @fr_eqF dx.n dx.d dy.n dy.d h100 g8 | exact @fr_eqF s.v.n s.v.d dx.n dx.d h106 g9))
  ·
   refine zab (zac rfl (zac rfl (zay rfl (zay rfl (zac rfl (zac rfl (zay rfl (zay rfl (zac rfl (zac rfl (zay rfl (zay rfl (zac rfl (zac rfl (zay rfl (zay rfl (zay rfl (zac rfl (zac rfl (zay rfl (zay rfl (zay rfl (zay rfl (zac rfl (zac rfl (zae (zai (za8 (zbh (zbg ?_))))))))))))))))))))))))))))))
   all_goals exact zcb (.inr rfl) rfl (congrArg eB (by
    rw [← hR]
    exact decP_f (fun g => Bool.noConfusion g.2.2.2.2.1)))
 ·
  rw [if_neg h33] at hR
  refine zab ?_
  refine za3 rfl rfl (zaa rfl) (zbk rfl rfl rfl) (fun h109 => ?_) (fun h109 => ?_)
  all_goals refine zac rfl (zae (zai ?_))
  all_goals (first | refine za7 rfl ?_ | refine za1 rfl ?_)
  all_goals repeat refine zah ?_
  ·
   rw [if_pos h109] at hR
   have hz := zeros_pf (P := P) p.c.length ⟨(validP_iff h22).1.1, q4⟩
   have hu : Pure P 68 [eP p, eL eF s.y, eL eF (za9 p.c.length)] (.tup [eB (undR p s.y (za9 p.c.length)).1, eI (undR p s.y (za9 p.c.length)).2]) := under_pf (P := P) p s.y (za9 p.c.length) h22 (zerosL_len _)
   have ht := @undR_t p s.y (za9 p.c.length)
   have hdy := fDot_pf (P := P) p.b s.y
   generalize (undR p s.y (za9 p.c.length)).1 = b at hu ht hR
   generalize (undR p s.y (za9 p.c.length)).2 = e at hu ht
   generalize dotE p.b s.y = dy at hdy hR
   refine zab (zb1 tf53_1 rfl (zby ta30 rfl (zaf rfl rfl (zaa rfl) (zao rfl ts30 rfl) ?_)))
   refine za3 rfl rfl (zaa rfl) (zb5 rfl rfl rfl) (fun h113 => ?_) (fun h113 => ?_)
   all_goals refine zac rfl ?_
   all_goals (first | refine zb1 tf53_3 rfl ?_ | refine zay rfl ?_)
   all_goals (first | refine zby ta30 rfl ?_ | refine zay rfl ?_)
   all_goals (first | refine zaf rfl rfl (zas rfl rfl rfl) (zao rfl ts30 rfl) ?_ | refine zay rfl ?_)
   all_goals (first | refine za3 rfl rfl (zas rfl rfl rfl) (zb5 rfl rfl rfl) (fun h118 => ?_) (fun h118 => ?_) | refine zay rfl ?_)
   all_goals refine zac rfl (zac rfl ?_)
   all_goals (first | refine zb1 tf53_4 rfl ?_ | refine zay rfl ?_)
   all_goals (first | refine zc5 ta51 ti51 rfl ?_ | refine zay rfl ?_)
   all_goals (first | refine zaf rfl rfl (zas rfl rfl rfl) (za6 rfl ti51 tp51 rfl rfl) ?_ | refine zay rfl ?_)
   all_goals (first | refine zcx rfl rfl (zas rfl rfl rfl) (does_nea rfl rfl rfl te51 rfl rfl rfl) (fun h124 => ?_) (fun h124 => ?_) | refine zay rfl ?_)
   all_goals refine zac rfl (zac rfl ?_)
   all_goals (first | refine zb1 tf53_2 rfl ?_ | refine zay rfl ?_)
   all_goals (first | refine zby ta30 rfl ?_ | refine zay rfl ?_)
   all_goals (first | refine zac rfl ?_ | refine zay rfl ?_)
   all_goals (first | refine zcx rfl rfl (zas rfl rfl rfl) (zam rfl rfl (fine_pf _ _) (zad rfl (zad rfl zaq))) (fun h130 => ?_) (fun h130 => ?_) | refine zay rfl ?_)
   all_goals (first | refine zaf rfl rfl (zas rfl rfl rfl) (zbv rfl rfl) ?_ | refine zay rfl ?_)
   all_goals refine zac rfl (zac rfl ?_)
   all_goals (first | refine zc5 ta47 ti47 rfl ?_ | refine zay rfl ?_)
   all_goals (first | refine zb1 tf53_2 rfl ?_ | refine zay rfl ?_)
   all_goals (first | refine zby ta30 rfl ?_ | refine zay rfl ?_)
   all_goals (first | refine zcx rfl rfl (zas rfl rfl rfl) (zam rfl rfl ((signed_pf p s.y (by have := (fineB_iff.1 h130).1; omega))) (zad rfl (zad rfl zaq))) (fun h137 => ?_) (fun h137 => ?_) | refine zay rfl ?_)
   all_goals (first | refine zaf rfl rfl (zas rfl rfl rfl) (zbv rfl rfl) ?_ | refine zay rfl ?_)
   all_goals refine zac rfl (zae (zai ?_))
   all_goals (first | refine za7 rfl ?_ | refine za1 rfl ?_)
   all_goals (repeat (first | refine zah ?_ | refine zat ?_))
   all_goals first
    |
     refine zab (zac rfl (zae (zai ?_)))
     (refine za8 ?_; repeat (first | refine zbg ?_ | refine zbh ?_))
     exact zcb (.inr rfl) rfl (congrArg eB (by
      rw [← hR]
      refine decP_f ?_
      rintro ⟨g1, g2, g3, g4, g5, g6, g7, g8⟩
      first | omega | exact @fr_neT s.v.n s.v.d 0 0 h124 g3 | exact Bool.noConfusion (g4.symm.trans h130) | exact Bool.noConfusion (g5.symm.trans h137)))
    | skip
   refine zcj hmix ?_
   refine zcm (by kernel_rfl) ?_
   refine qx_w ta47 ti47 rfl (qx_f tf53_2 rfl (qx_l ta30 rfl (qx_s rfl (zcn rfl rfl (zaa rfl) (zam rfl rfl (hz) (zad rfl zaq)) (zcn rfl rfl (zaa rfl) (zam rfl rfl (hu) (zad rfl (zad rfl (zad rfl zaq)))) (qx_s rfl (qx_s rfl (qx_s rfl (qx_s rfl (qx_s rfl ?_))))))))))
   refine qx_nil ?_
   refine zah (zab (zb1 tf47_3 rfl (zby ta30 rfl (zb1 tf53_2 rfl (zby ta30 rfl (zaf rfl rfl (zaa rfl) (zam rfl rfl (hdy) (zad rfl (zad rfl zaq))) (zac rfl (zac rfl (zac rfl (zaf rfl rfl (zaa rfl) (za0 rfl ti51 rfl rfl) (zbe rfl (zaa rfl) (zaj rfl ti51 rfl rfl rfl rfl rfl rfl (by decide) (by decide)) (zac rfl (zae (zah ?_))))))))))))))
   cases b
   rotate_left 1
   ·
    have he := ht rfl
    subst he
    refine zab (zac rfl (zac rfl (zac rfl ?_)))
    refine za3 rfl rfl (zas rfl rfl rfl) (zbk rfl rfl rfl) (fun h160 => ?_) (fun h160 => ?_)
    all_goals refine zac rfl (zac rfl ?_)
    all_goals (first | refine zac rfl ?_ | refine zay rfl ?_)
    all_goals (first | refine za3 rfl rfl (zas rfl rfl rfl) (zbk rfl rfl rfl) (fun h164 => ?_) (fun h164 => ?_) | refine zay rfl ?_)
    all_goals refine zac rfl (zac rfl ?_)
    all_goals (first | refine zb1 tf51_0 rfl ?_ | refine zay rfl ?_)
    all_goals (first | refine zaf rfl rfl (zas rfl rfl rfl) (zap rfl ta3 rfl rfl rfl rfl rfl) ?_ | refine zay rfl ?_)
    all_goals (first | refine za3 rfl rfl (zas rfl rfl rfl) (zb5 rfl rfl rfl) (fun h169 => ?_) (fun h169 => ?_) | refine zay rfl ?_)
    all_goals refine zac rfl (zac rfl (zae (zai (za8 (zbh (zbg ?_))))))
    all_goals exact zcb (.inr rfl) rfl (congrArg eB (by
     rw [← hR]
     first
     | exact decP_t ⟨by omega, by omega, @fr_neF s.v.n s.v.d 0 0 h124, h130, h137, rfl, h164, h169⟩
     |
      refine decP_f ?_
      rintro ⟨g1, g2, g3, g4, g5, g6, g7, g8⟩
      omega))
   ·
    refine zab (zac rfl (zac rfl (zay rfl (zay rfl (zac rfl (zac rfl (zay rfl (zay rfl (zac rfl (zac rfl (zay rfl (zay rfl (zay rfl (zac rfl (zac rfl (zae (zai (za8 (zbh (zbg ?_))))))))))))))))))))
    all_goals exact zcb (.inr rfl) rfl (congrArg eB (by
     rw [← hR]
     exact decP_f (fun g => Bool.noConfusion g.2.2.2.2.2.1)))
  ·
   rw [if_neg h109] at hR
   refine zab ?_
   refine za3 rfl rfl (zaa rfl) (zbk rfl rfl rfl) (fun h172 => ?_) (fun h172 => ?_)
   all_goals refine zac rfl (zae (zai ?_))
   all_goals (first | refine za7 rfl ?_ | refine za1 rfl ?_)
   all_goals (repeat (first | refine zah ?_ | refine zat ?_))
   ·
    rw [if_pos h172] at hR
    have hs1 := solution_pf (P := P) p s.x h22
    have hz := zeros_pf (P := P) p.a.length ⟨(validP_iff h22).1.2.2.1, q3⟩
    have hu : Pure P 69 [eP p, eL eF s.ray, eL eF (za9 p.a.length)] (.tup [eB (metE p s.ray (za9 p.a.length)).1, eI (metE p s.ray (za9 p.a.length)).2]) := met_pf (P := P) p s.ray (za9 p.a.length) q1 (zerosL_len _) q3
    have hdy := fDot_pf (P := P) p.c s.ray
    generalize metE p s.ray (za9 p.a.length) = r at hu hR
    generalize dotE p.c s.ray = dy at hdy hR
    obtain ⟨b, e⟩ := r
    replace hu : Pure P 69 [eP p, eL eF s.ray, eL eF (za9 p.a.length)] (.tup [eB b, eI e]) := hu
    refine zab (zb1 tf53_2 rfl (zby ta30 rfl (zaf rfl rfl (zaa rfl) (zao rfl ts30 rfl) ?_)))
    refine za3 rfl rfl (zaa rfl) (zb5 rfl rfl rfl) (fun h176 => ?_) (fun h176 => ?_)
    all_goals refine zac rfl ?_
    all_goals (first | refine zb1 tf53_4 rfl ?_ | refine zay rfl ?_)
    all_goals (first | refine zc5 ta51 ti51 rfl ?_ | refine zay rfl ?_)
    all_goals (first | refine zaf rfl rfl (zas rfl rfl rfl) (za6 rfl ti51 tp51 rfl rfl) ?_ | refine zay rfl ?_)
    all_goals (first | refine zcx rfl rfl (zas rfl rfl rfl) (does_nea rfl rfl rfl te51 rfl rfl rfl) (fun h181 => ?_) (fun h181 => ?_) | refine zay rfl ?_)
    all_goals refine zac rfl (zac rfl ?_)
    all_goals (first | refine zc5 ta47 ti47 rfl ?_ | refine zay rfl ?_)
    all_goals (first | refine zb1 tf53_1 rfl ?_ | refine zay rfl ?_)
    all_goals (first | refine zby ta30 rfl ?_ | refine zay rfl ?_)
    all_goals (first | refine zcx rfl rfl (zas rfl rfl rfl) (zam rfl rfl (hs1) (zad rfl (zad rfl zaq))) (fun h187 => ?_) (fun h187 => ?_) | refine zay rfl ?_)
    all_goals (first | refine zaf rfl rfl (zas rfl rfl rfl) (zbv rfl rfl) ?_ | refine zay rfl ?_)
    all_goals refine zac rfl (zac rfl ?_)
    all_goals (first | refine zb1 tf53_3 rfl ?_ | refine zay rfl ?_)
    all_goals (first | refine zby ta30 rfl ?_ | refine zay rfl ?_)
    all_goals (first | refine zac rfl ?_ | refine zay rfl ?_)
    all_goals (first | refine zcx rfl rfl (zas rfl rfl rfl) (zam rfl rfl (fine_pf _ _) (zad rfl (zad rfl zaq))) (fun h194 => ?_) (fun h194 => ?_) | refine zay rfl ?_)
    all_goals (first | refine zaf rfl rfl (zas rfl rfl rfl) (zbv rfl rfl) ?_ | refine zay rfl ?_)
    all_goals refine zac rfl (zae (zai ?_))
    all_goals (first | refine za7 rfl ?_ | refine za1 rfl ?_)
    all_goals (repeat (first | refine zah ?_ | refine zat ?_))
    all_goals first
     |
      refine zab (zac rfl (zae (zai ?_)))
      (refine za8 ?_; repeat (first | refine zbg ?_ | refine zbh ?_))
      exact zcb (.inr rfl) rfl (congrArg eB (by
       rw [← hR]
       refine decP_f ?_
       rintro ⟨g1, g2, g3, g4, g5, g6, g7, g8⟩
       first | omega | exact @fr_neT s.v.n s.v.d 0 0 h181 g2 | exact Bool.noConfusion (g3.symm.trans h187) | exact Bool.noConfusion (g4.symm.trans h194)))
     | skip
    refine zcj hmix ?_
    refine zcm (by kernel_rfl) ?_
    refine qx_w ta47 ti47 rfl (qx_f tf53_3 rfl (qx_l ta30 rfl (qx_s rfl (zcn rfl rfl (zaa rfl) (zam rfl rfl (hz) (zad rfl zaq)) (zcn rfl rfl (zaa rfl) (zam rfl rfl (hu) (zad rfl (zad rfl (zad rfl zaq)))) (qx_s rfl (qx_s rfl (qx_s rfl (qx_s rfl (qx_s rfl ?_))))))))))
    refine qx_nil ?_
    refine zah (zab (zb1 tf47_0 rfl (zby ta30 rfl (zb1 tf53_3 rfl (zby ta30 rfl (zaf rfl rfl (zaa rfl) (zam rfl rfl (hdy) (zad rfl (zad rfl zaq))) (zac rfl (zac rfl (zac rfl (zaf rfl rfl (zaa rfl) (za0 rfl ti51 rfl rfl) (zbe rfl (zaa rfl) (zaj rfl ti51 rfl rfl rfl rfl rfl rfl (by decide) (by decide)) (zac rfl (zae (zah ?_))))))))))))))
    cases b
    rotate_left 1
    ·
     refine zab (zac rfl (zac rfl (zac rfl ?_)))
     refine za3 rfl rfl (zas rfl rfl rfl) (zbk rfl rfl rfl) (fun h217 => ?_) (fun h217 => ?_)
     all_goals refine zac rfl (zac rfl ?_)
     all_goals (first | refine zac rfl ?_ | refine zay rfl ?_)
     all_goals (first | refine za3 rfl rfl (zas rfl rfl rfl) (zbk rfl rfl rfl) (fun h221 => ?_) (fun h221 => ?_) | refine zay rfl ?_)
     all_goals refine zac rfl (zac rfl ?_)
     all_goals (first | refine zb1 tf51_0 rfl ?_ | refine zay rfl ?_)
     all_goals (first | refine zaf rfl rfl (zas rfl rfl rfl) (zap rfl ta3 rfl rfl rfl rfl rfl) ?_ | refine zay rfl ?_)
     all_goals (first | refine za3 rfl rfl (zas rfl rfl rfl) (za4 rfl rfl rfl) (fun h226 => ?_) (fun h226 => ?_) | refine zay rfl ?_)
     all_goals refine zac rfl (zac rfl (zae (zai (za8 (zbh (zbg ?_))))))
     all_goals exact zcb (.inr rfl) rfl (congrArg eB (by
      rw [← hR]
      first
      | exact decP_t ⟨by omega, @fr_neF s.v.n s.v.d 0 0 h181, h187, h194, rfl, h217, h221, h226⟩
      |
       refine decP_f ?_
       rintro ⟨g1, g2, g3, g4, g5, g6, g7, g8⟩
       dsimp only at g6
       omega))
    ·
     refine zab (zac rfl (zac rfl (zay rfl (zay rfl (zac rfl (zac rfl (zay rfl (zay rfl (zac rfl (zac rfl (zay rfl (zay rfl (zay rfl (zac rfl (zac rfl (zae (zai (za8 (zbh (zbg ?_))))))))))))))))))))
     all_goals exact zcb (.inr rfl) rfl (congrArg eB (by
      rw [← hR]
      exact decP_f (fun g => Bool.noConfusion g.2.2.2.2.1)))
   ·
    rw [if_neg h172] at hR
    refine zab (zac rfl (zae (zai ?_)))
    (refine za8 ?_; repeat (first | refine zbg ?_ | refine zbh ?_))
    exact zcb (.inr rfl) rfl (congrArg eB hR)
end Go.Proofs.Ytllkbjcemecmjaa.Aw
end
section
namespace Go.Proofs.Ytllkbjcemecmjaa.Aw
open Go.RowKit
structure Tb where
 rows : List (List Fr)
 cost : List Fr
 bas : List Int
 last : Int
 e : Int
def _root_.Go.Proofs.Ytllkbjcemecmjaa.FE.fr (x : FE) : Fr := ⟨x.n, x.d⟩
def zdo (by_ : Fr) : List Fr → List Fr → List Fr × Int
 | [], _ => ([], 0)
 | a :: xs, bs =>
  let x := mulE by_ (gti bs 0)
  if x.e ≠ 0 then ([], x.e) else
  let y := subE a x.fr
  if y.e ≠ 0 then ([], y.e) else
  let r := zdo by_ xs (bs.drop 1)
  if r.2 ≠ 0 then ([], r.2) else (y.fr :: r.1, 0)
def divL (by_ : Fr) : List Fr → List Fr × Int
 | [] => ([], 0)
 | a :: xs =>
  let x := divE a by_
  if x.e ≠ 0 then ([], x.e) else
  let r := divL by_ xs
  if r.2 ≠ 0 then ([], r.2) else (x.fr :: r.1, 0)
def pivJ (i k : Nat) (row : List Fr) : Nat → Nat → Tb → Tb
 | 0, _, t => t
 | f + 1, j, t =>
  if j = i ∨ (gti (gti t.rows j) k).n = 0 then pivJ i k row f (j + 1) t else
  let x := zdo (gti (gti t.rows j) k) (gti t.rows j) row
  if x.2 ≠ 0 then { t with rows := t.rows.set j x.1, e := x.2 } else pivJ i k row f (j + 1) { t with rows := t.rows.set j x.1 }
def pivC (k : Nat) (row : List Fr) (t : Tb) : Tb :=
 if (gti t.cost k).n = 0 then t else { t with cost := (zdo (gti t.cost k) t.cost row).1, e := (zdo (gti t.cost k) t.cost row).2 }
def pivE (i k : Nat) (t : Tb) : Tb :=
 let d := divL (gti (gti t.rows i) k) (gti t.rows i)
 if d.2 ≠ 0 then { t with e := d.2 } else
 let t1 := pivJ i k d.1 t.rows.length 0 { t with rows := t.rows.set i d.1, bas := t.bas.set i k }
 if t1.e ≠ 0 then t1 else pivC k d.1 t1
def lvF (k : Nat) (t : Tb) : Nat → Nat → Int → Fr → Int × Int
 | 0, _, best, _ => (best, 0)
 | f + 1, i, best, least =>
  let row := gti t.rows i
  if (gti row k).n ≤ 0 then lvF k t f (i + 1) best least else
  let r := divE (gti row (row.length - 1)) (gti row k)
  if r.e ≠ 0 then (-1, r.e) else
  let c := if best < 0 then -1 else (cmpE r.fr least).1
  if c < 0 ∨ (c = 0 ∧ gti t.bas i < gti t.bas best.toNat) then lvF k t f (i + 1) i r.fr else lvF k t f (i + 1) best least
def lvE (k : Nat) (t : Tb) : Int × Int := lvF k t t.rows.length 0 (-1) ⟨0, 0⟩
def negF (a : Fr) : Bool := decide (a.n < 0)
def runS (vars : Nat) (t : Tb) : Tb × Int ⊕ Tb :=
 if t.e ≠ 0 then .inl (t, -1) else
 let k := zct negF (t.cost.take vars)
 if k < 0 then .inl (t, -1) else
 let l := lvE k.toNat t
 if l.2 ≠ 0 then .inl ({ t with e := l.2 }, -1) else
 if l.1 < 0 then .inl (t, k) else .inr (pivE l.1.toNat k.toNat t)
def runE (vars : Nat) : Nat → Tb → Option (Tb × Int)
 | 0, _ => none
 | f + 1, t => match runS vars t with
  | .inl r => some r
  | .inr t' => runE vars f t'
def valsF (t : Tb) (n : Nat) : Nat → List Fr
 | 0 => List.replicate n (Fr.of 0)
 | i + 1 => if gti t.bas i < n then (valsF t n i).set (gti t.bas i).toNat (gti (gti t.rows i) ((gti t.rows i).length - 1)) else valsF t n i
def valsE (t : Tb) (n : Nat) : List Fr := valsF t n t.bas.length
def prcF : Nat → Nat → Tb → Tb
 | 0, _, t => t
 | f + 1, i, t =>
  if t.e ≠ 0 then t else
  let c := gti t.cost (gti t.bas i).toNat
  if c.n = 0 then prcF f (i + 1) t else prcF f (i + 1) { t with cost := (zdo c t.cost (gti t.rows i)).1, e := (zdo c t.cost (gti t.rows i)).2 }
def prcE (cost : List Fr) (t : Tb) : Tb := prcF t.bas.length 0 { t with cost := cost }
def begR (p : LP) (i : Nat) : List Fr :=
 let n := p.c.length
 let m := p.a.length
 let z := List.replicate (2 * m) (Fr.of 0)
 let row := gti p.a i ++ z
 let row := if gti p.rel i = 1 then row.set (n + i) (Fr.of 1) else if gti p.rel i = 2 then row.set (n + i) (Fr.of (-1)) else row
 let row := row ++ [gti p.b i]
 let row := if (gti p.b i).n < 0 then row.map fneg else row
 row.set (n + m + i) (Fr.of 1)
def begT (p : LP) : Tb := ⟨(List.range p.a.length).map (begR p), [], (List.range p.a.length).map fun i => ((p.c.length + p.a.length + i : Nat) : Int), p.c.length + p.a.length, 0⟩
def turnL (p : LP) : List Bool := p.b.map negF
def mulF (t : Tb) (turned : List Bool) (cost : Int) : Nat → Nat → Int → List Fr × Int
 | 0, _, e => ([], e)
 | f + 1, i, e =>
  let y := subE (Fr.of cost) (gti t.cost (t.last.toNat + i))
  let e' := if e = 0 then y.e else e
  let r := mulF t turned cost f (i + 1) e'
  ((if gti turned i = true then fneg y.fr else y.fr) :: r.1, r.2)
def mulTE (t : Tb) (turned : List Bool) (cost : Int) : List Fr × Int := mulF t turned cost turned.length 0 t.e
end Go.Proofs.Ytllkbjcemecmjaa.Aw
end
section
namespace Go.Proofs.Ytllkbjcemecmjaa.Bl
def sumR (f : Nat → Rat) : Nat → Rat
 | 0 => 0
 | n + 1 => sumR f n + f n
theorem sumR_congr {f g : Nat → Rat} : ∀ {n : Nat}, (∀ j, j < n → f j = g j) → sumR f n = sumR g n
 | 0, _ => rfl
 | n + 1, h => by
  have h1 := sumR_congr (n := n) (fun j hj => h j (by omega))
  have h2 := h n (by omega)
  show sumR f n + f n = sumR g n + g n
  rw [h1, h2]
theorem sumR_add (f g : Nat → Rat) : ∀ n, sumR (fun j => f j + g j) n = sumR f n + sumR g n
 | 0 => by show (0 : Rat) = 0 + 0; grind
 | n + 1 => by simp only [sumR, sumR_add f g n]; grind
theorem sumR_mul (z : Rat) (f : Nat → Rat) : ∀ n, sumR (fun j => z * f j) n = z * sumR f n
 | 0 => by simp [sumR]
 | n + 1 => by simp only [sumR, sumR_mul z f n]; grind
theorem sumR_zero : ∀ n, sumR (fun _ => 0) n = 0
 | 0 => rfl
 | n + 1 => by simp only [sumR, sumR_zero n]; grind
theorem sumR_swap (f : Nat → Nat → Rat) (m : Nat) : ∀ n, sumR (fun j => sumR (fun i => f i j) m) n = sumR (fun i => sumR (fun j => f i j) n) m
 | 0 => by simp only [sumR]; exact (sumR_zero m).symm
 | n + 1 => by simp only [sumR, sumR_swap f m n]; rw [← sumR_add]
theorem sumR_one (f : Nat → Rat) (b : Nat) : ∀ n, sumR (fun j => if b = j then f j else 0) n = if b < n then f b else 0
 | 0 => by simp [sumR]
 | n + 1 => by
  simp only [sumR, sumR_one f b n]
  by_cases h : b = n
  ·
   subst h; rw [if_neg (by omega), if_pos rfl, if_pos (by omega)]; grind
  ·
   rw [if_neg h]
   by_cases h2 : b < n
   ·
    rw [if_pos h2, if_pos (by omega)]; grind
   ·
    rw [if_neg h2, if_neg (by omega)]; grind
theorem sumR_pos {f : Nat → Rat} : ∀ {n : Nat}, 0 < sumR f n → ∃ j, j < n ∧ 0 < f j
 | 0, h => by simp [sumR] at h
 | n + 1, h => by
  by_cases h1 : 0 < f n
  ·
   exact ⟨n, by omega, h1⟩
  ·
   simp only [sumR] at h
   obtain ⟨j, h2, h3⟩ := sumR_pos (f := f) (n := n) (by grind)
   exact ⟨j, by omega, h3⟩
theorem sumR_nn {f : Nat → Rat} : ∀ {n : Nat}, (∀ j, j < n → 0 ≤ f j) → 0 ≤ sumR f n ∧ (sumR f n = 0 → ∀ j, j < n → f j = 0)
 | 0, _ => ⟨by simp [sumR], fun _ j hj => by omega⟩
 | n + 1, h => by
  obtain ⟨h1, h2⟩ := sumR_nn (f := f) (n := n) (fun j hj => h j (by omega))
  have h3 := h n (by omega)
  refine ⟨by simp only [sumR]; grind, fun h0 j hj => ?_⟩
  simp only [sumR] at h0
  by_cases e : j = n
  ·
   subst e; grind
  ·
   exact h2 (by grind) j (by omega)
structure Tab where
 a : Nat → Nat → Rat
 c : Nat → Rat
 B : Nat → Nat
structure Can (m N : Nat) (T : Tab) : Prop where
 lt : ∀ i, i < m → T.B i < N
 one : ∀ i, i < m → T.a i (T.B i) = 1
 off : ∀ i j, i < m → j < m → i ≠ j → T.a i (T.B j) = 0
 cost : ∀ i, i < m → T.c (T.B i) = 0
 nn : ∀ i, i < m → 0 ≤ T.a i N
structure Pv (m N : Nat) (T T' : Tab) (r k : Nat) : Prop where
 hr : r < m
 hk : k < N
 nz : T.a r k ≠ 0
 row : ∀ j, j ≤ N → T'.a r j = T.a r j / T.a r k
 oth : ∀ i j, i < m → i ≠ r → j ≤ N → T'.a i j = T.a i j - T.a i k * (T.a r j / T.a r k)
 cst : ∀ j, j ≤ N → T'.c j = T.c j - T.c k * (T.a r j / T.a r k)
 bas : T'.B r = k
 keep : ∀ i, i < m → i ≠ r → T'.B i = T.B i
def lin (f x : Nat → Rat) (N : Nat) : Rat := sumR (fun j => f j * x j) (N + 1)
def Ker (m N : Nat) (T : Tab) (x : Nat → Rat) : Prop := ∀ i, i < m → lin (T.a i) x N = 0
theorem lin_sub {f g h x : Nat → Rat} {z : Rat} {N : Nat} (e : ∀ j, j ≤ N → h j = f j - z * g j) : lin h x N = lin f x N - z * lin g x N := by
 unfold lin
 rw [sumR_congr (g := fun j => f j * x j + (0 - z) * (g j * x j)) (fun j hj => by rw [e j (by omega)]; grind), sumR_add, sumR_mul]
 grind
theorem lin_div {f h x : Nat → Rat} {z : Rat} {N : Nat} (e : ∀ j, j ≤ N → h j = f j / z) : lin h x N = lin f x N / z := by
 unfold lin
 rw [sumR_congr (g := fun j => (1 / z) * (f j * x j)) (fun j hj => by rw [e j (by omega)]; grind), sumR_mul]
 grind
theorem Pv.ker {m N : Nat} {T T' : Tab} {r k : Nat} (h : Pv m N T T' r k) {x : Nat → Rat} (hx : Ker m N T x) : Ker m N T' x ∧ lin T'.c x N = lin T.c x N := by
 have h0 := hx r h.hr
 have hg : lin (T'.a r) x N = 0 := by rw [lin_div h.row, h0]; grind
 refine ⟨fun i hi => ?_, ?_⟩
 ·
  by_cases e : i = r
  ·
   subst e; exact hg
  ·
   rw [lin_sub (f := T.a i) (g := T'.a r) (z := T.a i k) (fun j hj => by rw [h.oth i j hi e hj, h.row j hj]), hx i hi, hg]; grind
 ·
  rw [lin_sub (f := T.c) (g := T'.a r) (z := T.c k) (fun j hj => by rw [h.cst j hj, h.row j hj]), hg]; grind
theorem Can.inj {m N : Nat} {T : Tab} (h : Can m N T) {i j : Nat} (hi : i < m) (hj : j < m) (e : T.B i = T.B j) : i = j := by
 by_cases h1 : i = j
 ·
  exact h1
 ·
  have h2 := h.off i j hi hj h1
  rw [← e, h.one i hi] at h2
  exact absurd h2 (by decide)
theorem Pv.can {m N : Nat} {T T' : Tab} {r k : Nat} (h : Pv m N T T' r k) (hc : Can m N T) (hb : ∀ i, i < m → 0 ≤ T'.a i N) : Can m N T' := by
 have hz := h.nz
 have hB : ∀ j, j < m → j ≠ r → T.a r (T.B j) = 0 := fun j hj e => hc.off r j h.hr hj (Ne.symm e)
 refine ⟨fun i hi => ?_, fun i hi => ?_, fun i j hi hj hij => ?_, fun i hi => ?_, hb⟩
 ·
  by_cases e : i = r
  ·
   subst e; rw [h.bas]; exact h.hk
  ·
   rw [h.keep i hi e]; exact hc.lt i hi
 ·
  by_cases e : i = r
  ·
   subst e; rw [h.bas, h.row k (by have := h.hk; omega)]; grind
  ·
   rw [h.keep i hi e, h.oth i _ hi e (by have := hc.lt i hi; omega), hB i hi e, hc.one i hi]; grind
 ·
  by_cases e : j = r
  ·
   subst e
   rw [h.bas, h.oth i k hi hij (by have := h.hk; omega)]; grind
  ·
   rw [h.keep j hj e]
   by_cases e2 : i = r
   ·
    subst e2; rw [h.row _ (by have := hc.lt j hj; omega), hB j hj e]; grind
   ·
    rw [h.oth i _ hi e2 (by have := hc.lt j hj; omega), hB j hj e, hc.off i j hi hj hij]; grind
 ·
  by_cases e : i = r
  ·
   subst e; rw [h.bas, h.cst k (by have := h.hk; omega)]; grind
  ·
   rw [h.keep i hi e, h.cst _ (by have := hc.lt i hi; omega), hB i hi e, hc.cost i hi]; grind
def xs (m : Nat) (T : Tab) (j : Nat) : Nat → Rat := fun v => (if j = v then 1 else 0) - sumR (fun i => if T.B i = v then T.a i j else 0) m
theorem lin_xs {m N : Nat} {T : Tab} (hc : Can m N T) (f : Nat → Rat) {j : Nat} (hj : j ≤ N) : lin f (xs m T j) N = f j - sumR (fun i => T.a i j * f (T.B i)) m := by
 unfold lin xs
 rw [sumR_congr (g := fun v => (if j = v then f v else 0) + (0 - 1) * sumR (fun i => if T.B i = v then T.a i j * f v else 0) m) (fun v hv => ?_), sumR_add, sumR_mul, sumR_one, if_pos (by omega), sumR_swap]
 ·
  rw [sumR_congr (f := fun i => sumR (fun v => if T.B i = v then T.a i j * f v else 0) (N + 1)) (g := fun i => T.a i j * f (T.B i)) (fun i hi => ?_)]
  ·
   grind
  ·
   rw [sumR_one (fun v => T.a i j * f v) (T.B i) (N + 1), if_pos (by have := hc.lt i hi; omega)]
 ·
  have e : sumR (fun i => if T.B i = v then T.a i j * f v else 0) m = f v * sumR (fun i => if T.B i = v then T.a i j else 0) m := by
   rw [← sumR_mul]
   refine sumR_congr (fun i _ => ?_)
   split <;> grind
  rw [e]
  split <;> grind
theorem xs_ker {m N : Nat} {T : Tab} (hc : Can m N T) {j : Nat} (hj : j ≤ N) : Ker m N T (xs m T j) := fun l hl => by
 rw [lin_xs hc (T.a l) hj, sumR_congr (g := fun i => if l = i then T.a i j else 0) (fun i hi => ?_), sumR_one (fun i => T.a i j) l m, if_pos hl]
 ·
  grind
 ·
  by_cases e : l = i
  ·
   subst e; rw [if_pos rfl, hc.one l hl]; grind
  ·
   rw [if_neg e, hc.off l i hl hi e]; grind
theorem same_of {m N : Nat} {T T' : Tab} (hc : Can m N T) (hc' : Can m N T') (hk : ∀ x, Ker m N T x → Ker m N T' x ∧ lin T'.c x N = lin T.c x N) (hB : ∀ i, i < m → T'.B i = T.B i) :
  (∀ i j, i < m → j ≤ N → T'.a i j = T.a i j) ∧ ∀ j, j ≤ N → T'.c j = T.c j := by
 have key : ∀ j, j ≤ N → (∀ l, l < m → T'.a l j - sumR (fun i => T.a i j * T'.a l (T.B i)) m = 0) ∧ T'.c j - sumR (fun i => T.a i j * T'.c (T.B i)) m = T.c j - sumR (fun i => T.a i j * T.c (T.B i)) m := fun j hj => by
  obtain ⟨h1, h2⟩ := hk _ (xs_ker hc hj)
  rw [lin_xs hc _ hj, lin_xs hc _ hj] at h2
  exact ⟨fun l hl => by have := h1 l hl; rwa [lin_xs hc _ hj] at this, h2⟩
 refine ⟨fun l j hl hj => ?_, fun j hj => ?_⟩
 ·
  have h1 := (key j hj).1 l hl
  rw [sumR_congr (g := fun i => if l = i then T.a i j else 0) (fun i hi => ?_), sumR_one (fun i => T.a i j) l m, if_pos hl] at h1
  ·
   grind
  ·
   rw [← hB i hi]
   by_cases e : l = i
   ·
    subst e; rw [if_pos rfl, hc'.one l hl]; grind
   ·
    rw [if_neg e, hc'.off l i hl hi e]; grind
 ·
  have h2 := (key j hj).2
  rw [sumR_congr (g := fun _ => 0) (fun i hi => by rw [← hB i hi, hc'.cost i hi]; grind), sumR_congr (f := fun i => T.a i j * T.c (T.B i)) (g := fun _ => 0) (fun i hi => by rw [hc.cost i hi]; grind), sumR_zero] at h2
  grind
end Go.Proofs.Ytllkbjcemecmjaa.Bl
end
section
namespace Go.Proofs.Ytllkbjcemecmjaa.Bl
structure Step (m N vars : Nat) (T T' : Tab) (r k : Nat) : Prop extends Pv m N T T' r k where
 kv : k < vars
 neg : T.c k < 0
 first : ∀ j, j < k → 0 ≤ T.c j
 pos : 0 < T.a r k
 least : ∀ i, i < m → 0 < T.a i k → T.a r N / T.a r k ≤ T.a i N / T.a i k
 tie : ∀ i, i < m → 0 < T.a i k → T.a i N / T.a i k = T.a r N / T.a r k → T.B r ≤ T.B i
theorem Step.can {m N vars : Nat} {T T' : Tab} {r k : Nat} (h : Step m N vars T T' r k) (hc : Can m N T) : Can m N T' := by
 refine h.toPv.can hc (fun i hi => ?_)
 have hp := h.pos
 have hr := hc.nn r h.hr
 have hq : 0 ≤ T.a r N / T.a r k := by
  rw [Rat.div_def]
  exact Rat.mul_nonneg hr (Rat.le_of_lt (Rat.inv_pos.2 hp))
 by_cases e : i = r
 ·
  subst e; rw [h.row N (by omega)]; exact hq
 ·
  rw [h.oth i N hi e (by omega)]
  by_cases hik : 0 < T.a i k
  ·
   have h1 := h.least i hi hik
   have h2 : T.a i k * (T.a r N / T.a r k) ≤ T.a i k * (T.a i N / T.a i k) := Rat.mul_le_mul_of_nonneg_left h1 (Rat.le_of_lt hik)
   have h3 : T.a i k * (T.a i N / T.a i k) = T.a i N := by grind
   grind
  ·
   have h1 : T.a i k ≤ 0 := by grind
   have h2 : T.a i k * (T.a r N / T.a r k) ≤ 0 := by
    have := Rat.mul_nonneg (a := 0 - T.a i k) (b := T.a r N / T.a r k) (by grind) hq
    grind
   have := hc.nn i hi
   grind
section
variable {m N vars L : Nat} {T : Nat → Tab} {rr kk : Nat → Nat} (hv : vars ≤ N) (h0 : Can m N (T 0)) (hs : ∀ p, p < L → Step m N vars (T p) (T (p + 1)) (rr p) (kk p))
include h0 hs
theorem can_all : ∀ p, p ≤ L → Can m N (T p)
 | 0, _ => h0
 | p + 1, h => (hs p (by omega)).can (can_all p (by omega))
omit h0 in
theorem ker_up {x : Nat → Rat} {p : Nat} : ∀ d, p + d ≤ L → Ker m N (T p) x → Ker m N (T (p + d)) x ∧ lin (T (p + d)).c x N = lin (T p).c x N
 | 0, _, hx => ⟨hx, rfl⟩
 | d + 1, h, hx => by
  obtain ⟨h1, h2⟩ := ker_up d (by omega) hx
  obtain ⟨h3, h4⟩ := (hs (p + d) (by omega)).toPv.ker h1
  exact ⟨h3, h4.trans h2⟩
theorem no_cycle (hL : 0 < L) (hB : ∀ i, i < m → (T L).B i = (T 0).B i) : False := by
 have hc := can_all h0 hs
 have hup := fun (x : Nat → Rat) (p q : Nat) (hpq : p ≤ q) (hq : q ≤ L) (hx : Ker m N (T p) x) => by
  have := ker_up hs (x := x) (p := p) (q - p) (by omega) hx
  rwa [show p + (q - p) = q by omega] at this
 obtain ⟨ea, ec⟩ := same_of (hc 0 (by omega)) (hc L (Nat.le_refl _)) (fun x hx => hup x 0 L (by omega) (Nat.le_refl _) hx) hB
 -- the end is the beginning
 have hend : ∀ x, Ker m N (T L) x → Ker m N (T 0) x ∧ lin (T 0).c x N = lin (T L).c x N := fun x hx => by
  refine ⟨fun i hi => ?_, ?_⟩
  ·
   have := hx i hi
   unfold lin at this ⊢
   rw [← this]
   exact sumR_congr (fun j hj => by rw [ea i j hi (by omega)])
  ·
   unfold lin
   exact sumR_congr (fun j hj => by rw [ec j (by omega)])
 have hany : ∀ x p q, p ≤ L → q ≤ L → Ker m N (T p) x → Ker m N (T q) x ∧ lin (T q).c x N = lin (T p).c x N := fun x p q hp hq hx => by
  obtain ⟨h1, h2⟩ := hup x p L hp (Nat.le_refl _) hx
  obtain ⟨h3, h4⟩ := hend x h1
  obtain ⟨h5, h6⟩ := hup x 0 q (by omega) hq h3
  exact ⟨h5, h6.trans (h4.trans h2)⟩
 -- the value never falls: so it stays
 have hval : ∀ p, p < L → (T p).c N ≤ (T (p + 1)).c N ∧ ((T (p + 1)).c N = (T p).c N → (T p).a (rr p) N = 0) := fun p hp => by
  have h := hs p hp
  have h1 := (hc p (by omega)).nn _ h.hr
  have h2 := h.cst N (by omega)
  have h3 := h.neg
  have h4 := h.pos
  have hq : 0 ≤ (T p).a (rr p) N / (T p).a (rr p) (kk p) := by
   rw [Rat.div_def]; exact Rat.mul_nonneg h1 (Rat.le_of_lt (Rat.inv_pos.2 h4))
  have h5 := Rat.mul_nonneg (a := 0 - (T p).c (kk p)) (b := (T p).a (rr p) N / (T p).a (rr p) (kk p)) (by grind) hq
  refine ⟨by grind, fun e => ?_⟩
  have h6 : (T p).c (kk p) * ((T p).a (rr p) N / (T p).a (rr p) (kk p)) = 0 := by grind
  have h7 : (T p).a (rr p) N / (T p).a (rr p) (kk p) = 0 := by
   rcases Rat.mul_eq_zero.1 h6 with h | h
   ·
    grind
   ·
    exact h
  have h8 : (T p).a (rr p) N = (T p).a (rr p) N / (T p).a (rr p) (kk p) * (T p).a (rr p) (kk p) := by grind
  rw [h8, h7]; grind
 have hmono : ∀ d p, p + d ≤ L → (T p).c N ≤ (T (p + d)).c N := by
  intro d
  induction d with
  | zero => intro p _; exact Rat.le_refl
  | succ d ih => intro p h; exact Rat.le_trans (ih p (by omega)) (hval (p + d) (by omega)).1
 have hdeg : ∀ p, p < L → (T p).a (rr p) N = 0 := fun p hp => by
  refine (hval p hp).2 ?_
  have h1 := hmono p 0 (by omega)
  rw [Nat.zero_add] at h1
  have h2 := (hval p hp).1
  have h3 := hmono (L - (p + 1)) (p + 1) (by omega)
  rw [show p + 1 + (L - (p + 1)) = L by omega, ec N (by omega)] at h3
  grind
 have hrhs : ∀ p, p ≤ L → ∀ i, i < m → (T p).a i N = (T 0).a i N := by
  intro p
  induction p with
  | zero => intro _ i _; rfl
  | succ p ih =>
   intro hp i hi
   have h := hs p (by omega)
   have hd := hdeg p (by omega)
   rw [← ih (by omega) i hi]
   by_cases e : i = rr p
   ·
    subst e; rw [h.row N (by omega), hd]; grind
   ·
    rw [h.oth i N hi e (by omega), hd]; grind
 -- the greatest variable that enters
 obtain ⟨ps, hps, hmax⟩ : ∃ ps, ps < L ∧ ∀ p, p < L → kk p ≤ kk ps := by
  clear hmono hval hdeg hrhs hany hend ea ec hup hB hc hs h0
  induction L with
  | zero => omega
  | succ L ih =>
   by_cases hL0 : 0 < L
   ·
    obtain ⟨q, h1, h2⟩ := ih hL0
    by_cases h3 : kk L ≤ kk q
    ·
     exact ⟨q, by omega, fun p hp => by
      by_cases e : p = L
      ·
       subst e; exact h3
      ·
       exact h2 p (by omega)⟩
    ·
     exact ⟨L, by omega, fun p hp => by
      by_cases e : p = L
      ·
       subst e; exact Nat.le_refl _
      ·
       have := h2 p (by omega); omega⟩
   ·
    exact ⟨0, by omega, fun p hp => by rw [show p = 0 by omega]; exact Nat.le_refl _⟩
 have hS := hs ps hps
 have hcs := hc ps (by omega)
 generalize ht : kk ps = t at hmax
 -- a row that holds a variable at one time and not at another
 have hgo : ∀ l v, l < m → (∀ p, p < L → (T p).B l = v → (T (p + 1)).B l = v) → ∀ p q, p ≤ L → q ≤ L → (T p).B l = v → (T q).B l = v := by
  intro l v hl hk p q hp hq hpv
  have up : ∀ d p, p + d ≤ L → (T p).B l = v → (T (p + d)).B l = v := by
   intro d
   induction d with
   | zero => intro p _ h; exact h
   | succ d ih => intro p h hpv; exact hk (p + d) (by omega) (ih p (by omega) hpv)
  have h1 := up (L - p) p (by omega) hpv
  rw [show p + (L - p) = L by omega, hB l hl] at h1
  have h2 := up q 0 (by omega) h1
  rwa [Nat.zero_add] at h2
 have hnb : ∀ i, i < m → (T ps).B i ≠ t := fun i hi e => by
  have h1 := hcs.cost i hi
  rw [e, ← ht] at h1
  have := hS.neg
  grind
 obtain ⟨q, hq, hqt⟩ : ∃ q, q < L ∧ (T q).B (rr q) = t := by
  refine Classical.byContradiction fun hno => ?_
  have h1 := hgo (rr ps) t hS.hr (fun p hp hpv => by
   by_cases e : rr ps = rr p
   ·
    exact absurd ⟨p, hp, by rw [← e]; exact hpv⟩ hno
   ·
    rw [(hs p hp).keep _ hS.hr e]; exact hpv) (ps + 1) ps (by omega) (by omega) (by rw [hS.bas, ht])
  exact hnb _ hS.hr h1
 have hQ := hs q hq
 have hcq := hc q (by omega)
 have hkN := hQ.hk
 have hst : kk q < t := by
  have h1 := hmax q hq
  have h2 : kk q ≠ t := fun e => by
   have h3 := hcq.cost _ hQ.hr
   rw [hqt, ← e] at h3
   have := hQ.neg
   grind
  omega
 obtain ⟨h1, h2⟩ := hany _ q ps (by omega) (by omega) (xs_ker hcq (j := kk q) (by omega))
 rw [lin_xs hcq _ (by omega), lin_xs hcq _ (by omega), sumR_congr (f := fun i => (T q).a i (kk q) * (T q).c ((T q).B i)) (g := fun _ => 0) (fun i hi => by rw [hcq.cost i hi]; grind), sumR_zero] at h2
 have hneg := hQ.neg
 have hfs := hS.first
 rw [ht] at hfs
 have h3 := hfs (kk q) hst
 obtain ⟨l, hl, hlp⟩ := sumR_pos (f := fun i => (T q).a i (kk q) * (T ps).c ((T q).B i)) (n := m) (by grind)
 generalize hvB : (T q).B l = v at hlp
 have hcv : (T ps).c v ≠ 0 := fun e => by rw [e] at hlp; grind
 have hvn : ∀ i, i < m → (T ps).B i ≠ v := fun i hi e => hcv (by rw [← e]; exact hcs.cost i hi)
 obtain ⟨p', hp', hl', hv'⟩ : ∃ p', p' < L ∧ rr p' = l ∧ kk p' = v := by
  refine Classical.byContradiction fun hno => ?_
  -- backwards: where the row holds v behind a step, it held it ahead of it
  have back : ∀ p, p < L → (T (p + 1)).B l = v → (T p).B l = v := fun p hp hpv => by
   by_cases e : l = rr p
   ·
    rw [e, (hs p hp).bas] at hpv
    exact absurd ⟨p, hp, e.symm, hpv⟩ hno
   ·
    rw [(hs p hp).keep l hl e] at hpv; exact hpv
  have down : ∀ d p, p + d ≤ L → (T (p + d)).B l = v → (T p).B l = v := by
   intro d
   induction d with
   | zero => intro p _ h; exact h
   | succ d ih => intro p h hpv; exact ih p (by omega) (back (p + d) (by omega) hpv)
  have g1 := down q 0 (by omega) (by rw [Nat.zero_add]; exact hvB)
  rw [← hB l hl] at g1
  have g2 := down (L - ps) ps (by omega) (by rw [show ps + (L - ps) = L by omega]; exact g1)
  exact hvn l hl g2
 have hvt : v ≤ t := by rw [← hv']; exact hmax p' hp'
 have hlN : (T q).a l N = 0 := by
  rw [hrhs q (by omega) l hl, ← hrhs p' (by omega) l hl, ← hl']; exact hdeg p' hp'
 have hpos := hQ.pos
 by_cases e : v = t
 ·
  have e2 : l = rr q := hcq.inj hl hQ.hr (by rw [hvB, hqt, e])
  subst e2
  have hct : (T ps).c v < 0 := by rw [e, ← ht]; exact hS.neg
  have h5 := Rat.mul_pos hpos (show 0 < 0 - (T ps).c v by grind)
  grind
 ·
  have hvlt : v < t := by omega
  have h5 := hfs v hvlt
  have h6 : 0 < (T ps).c v := by grind
  have h7 : 0 < (T q).a l (kk q) := by
   refine Classical.byContradiction fun h => ?_
   have := Rat.mul_nonneg (a := 0 - (T q).a l (kk q)) (b := (T ps).c v) (by grind) h5
   grind
  have h8 := hQ.tie l hl h7 (by rw [hlN, hdeg q hq]; grind)
  rw [hvB, hqt] at h8
  omega
end
def code (N : Nat) (B : Nat → Nat) : Nat → Nat
 | 0 => 0
 | m + 1 => code N B m + B m * N ^ m
theorem code_lt {N : Nat} {B : Nat → Nat} : ∀ {m : Nat}, (∀ i, i < m → B i < N) → code N B m < N ^ m
 | 0, _ => by simp [code]
 | m + 1, h => by
  have h1 := code_lt (B := B) (m := m) (fun i hi => h i (by omega))
  have h2 := h m (by omega)
  have h3 : B m * N ^ m + N ^ m ≤ N * N ^ m := by
   have := Nat.mul_le_mul_right (N ^ m) (show B m + 1 ≤ N by omega)
   rwa [Nat.add_mul, Nat.one_mul] at this
  simp only [code, Nat.pow_succ]
  rw [Nat.mul_comm (N ^ m) N]
  omega
theorem code_inj {N : Nat} {B C : Nat → Nat} : ∀ {m : Nat}, (∀ i, i < m → B i < N) → (∀ i, i < m → C i < N) → code N B m = code N C m → ∀ i, i < m → B i = C i
 | 0, _, _, _, i, hi => by omega
 | m + 1, hb, hc, h, i, hi => by
  have b1 := code_lt (B := B) (m := m) (fun i hi => hb i (by omega))
  have c1 := code_lt (B := C) (m := m) (fun i hi => hc i (by omega))
  simp only [code] at h
  have hp : 0 < N ^ m := by omega
  have e1 : B m = C m := by
   have h1 : (code N B m + B m * N ^ m) / N ^ m = B m := by rw [Nat.add_mul_div_right _ _ hp, Nat.div_eq_of_lt b1, Nat.zero_add]
   have h2 : (code N C m + C m * N ^ m) / N ^ m = C m := by rw [Nat.add_mul_div_right _ _ hp, Nat.div_eq_of_lt c1, Nat.zero_add]
   rw [← h1, ← h2, h]
  by_cases e : i = m
  ·
   subst e; exact e1
  ·
   rw [e1] at h
   exact code_inj (m := m) (fun i hi => hb i (by omega)) (fun i hi => hc i (by omega)) (by omega) i (by omega)
theorem pigeon : ∀ (K L : Nat) (f : Nat → Nat), (∀ p, p ≤ L → f p < K) → (∀ p q, p < q → q ≤ L → f p ≠ f q) → L < K
 | 0, L, f, h, _ => by have := h 0 (by omega); omega
 | K + 1, L, f, h, hd => by
  by_cases hex : ∃ p, p ≤ L ∧ f p = K
  ·
   obtain ⟨p0, hp0, e⟩ := hex
   by_cases hL : L = 0
   ·
    omega
   have := pigeon K (L - 1) (fun p => if p < p0 then f p else f (p + 1)) (fun p hp => by
    show (if p < p0 then f p else f (p + 1)) < K
    by_cases h1 : p < p0
    ·
     rw [if_pos h1]
     have := h p (by omega)
     have := hd p p0 h1 hp0
     omega
    ·
     rw [if_neg h1]
     have := h (p + 1) (by omega)
     have := hd p0 (p + 1) (by omega) (by omega)
     omega) (fun p q hpq hq => by
    show (if p < p0 then f p else f (p + 1)) ≠ (if q < p0 then f q else f (q + 1))
    by_cases h1 : p < p0
    ·
     rw [if_pos h1]
     by_cases h2 : q < p0
     ·
      rw [if_pos h2]; exact hd p q hpq (by omega)
     ·
      rw [if_neg h2]; exact hd p (q + 1) (by omega) (by omega)
    ·
     rw [if_neg h1, if_neg (by omega)]; exact hd (p + 1) (q + 1) (by omega) (by omega))
   omega
  ·
   have := pigeon K L f (fun p hp => by
    have h1 := h p hp
    have h2 : f p ≠ K := fun e => hex ⟨p, hp, e⟩
    omega) hd
   omega
theorem run_short {m N vars L : Nat} {T : Nat → Tab} {rr kk : Nat → Nat} (h0 : Can m N (T 0)) (hs : ∀ p, p < L → Step m N vars (T p) (T (p + 1)) (rr p) (kk p)) : L < N ^ m := by
 have hc := can_all h0 hs
 refine pigeon (N ^ m) L (fun p => code N (T p).B m) (fun p hp => code_lt (hc p hp).lt) (fun p q hpq hq e => ?_)
 have h1 := code_inj (hc p (by omega)).lt (hc q hq).lt e
 exact no_cycle (L := q - p) (T := fun x => T (p + x)) (rr := fun x => rr (p + x)) (kk := fun x => kk (p + x)) (vars := vars) (m := m) (N := N) (hc p (by omega)) (fun x hx => hs (p + x) (by omega)) (by omega) (fun i hi => by
  show (T (p + (q - p))).B i = (T (p + 0)).B i
  rw [show p + (q - p) = q by omega, Nat.add_zero]
  exact (h1 i hi).symm)
end Go.Proofs.Ytllkbjcemecmjaa.Bl
end
