/-
  Texts joined: Km, SxN, SxO. Conditions: none.
-/
import Derived.Test.YtcpnffjnagbkoaaJP17
section
namespace Go.Proofs.Ytcpnffjnagbkoaa.Aw.Km
set_option linter.unusedSimpArgs false
set_option linter.unusedVariables false
set_option linter.unusedSectionVars false
open Go Go.RowKit Go.Proofs
structure KE (G G' : Cx) : Prop where
  step : G.Step G'
  mu0 : ∀ i y, i < 2 → G.mu i = some y → G'.mu i = some y
  rows : RowsKept G.w G'.w
theorem KE.refl (G : Cx) : KE G G := ⟨.refl G, fun _ _ _ h => h, RowsKept.refl _⟩
theorem KE.trans {G H K : Cx} (h : KE G H) (k : KE H K) : KE G K := ⟨h.step.trans k.step, fun i y hi x => k.mu0 i y hi (h.mu0 i y hi x), h.rows.trans k.rows⟩
theorem KE.of {G G' : Cx} (e : G.Ext G') : KE G G' := ⟨e.step, fun i y _ h => e.mu i y h, e.rows⟩
def liftK (N : Nat) (G : Cx) (Q : Exit → Frm → List Ob → Prop) : Exit → Act → World → Prop :=
  fun e a' w' => ∃ G' F' σ', G'.w = w' ∧ KE G G' ∧ S8 N G' a' F' σ' ∧ Q e F' σ'
theorem liftK_mono {N : Nat} {G G1 : Cx} (h : KE G G1) {Q Q' : Exit → Frm → List Ob → Prop} (hq : ∀ e F σ, Q e F σ → Q' e F σ) {e : Exit} {a : Act} {w : World} (x : liftK N G1 Q e a w) : liftK N G Q' e a w := by
  obtain ⟨G', F', σ', h1, h2, h3, h4⟩ := x
  exact ⟨G', F', σ', h1, h.trans h2, h3, hq _ _ _ h4⟩

def KWp (P : Program) (N : Nat) (c : Code) (F : Frm) (σ : List Ob) (Q : Exit → Frm → List Ob → Prop) : Prop :=
  ∀ G a, S8 N G a F σ → c.wp P (liftK N G Q) a G.w
def KOps (P : Program) (N : Nat) (ops : Array Oper) (l : List Oper) (F : Frm) (σ : List Ob) (Q : Exit → Frm → List Ob → Prop) : Prop :=
  ∀ G a, S8 N G a F σ → wpList P ops (liftK N G Q) l a G.w

section
variable {P : Program} {N : Nat} {F : Frm} {σ : List Ob} {Q : Exit → Frm → List Ob → Prop}

theorem kw_seq {x y : Code} (h : KWp P N x F σ (AThen (fun F σ => KWp P N y F σ Q) Q)) : KWp P N (.seq x y) F σ Q := fun G a hs => by
  refine wp_seq (Code.wp_mono (fun e a1 w1 q => ?_) (h G a hs))
  obtain ⟨G', F', σ', rfl, h2, h3, h4⟩ := q
  cases e with
  | normal => exact Code.wp_mono (fun e a w q => liftK_mono h2 (fun _ _ _ x => x) q) (h4 G' a1 h3)
  | _ => exact ⟨G', F', σ', rfl, h2, h3, h4⟩
theorem kw_skip (h : Q .normal F σ) : KWp P N .skip F σ Q := fun G a hs => wp_skip ⟨G, F, σ, rfl, .refl G, hs, h⟩
theorem kw_exit {id : Nat} (h : Q (.exit id) F σ) : KWp P N (.exit id) F σ Q := fun G a hs => wp_exit ⟨G, F, σ, rfl, .refl G, hs, h⟩
theorem kw_block {id : Nat} {c : Code} (h : KWp P N c F σ (ABlk id Q)) : KWp P N (.block id c) F σ Q := fun G a hs => by
  refine wp_block (Code.wp_mono (fun e a1 w1 q => ?_) (h G a hs))
  obtain ⟨G', F', σ', rfl, h2, h3, h4⟩ := q
  cases e with
  | exit id' =>
    simp only [ABlk] at h4
    simp only [Exit.inBlock]
    split
    · rename_i e; rw [if_pos e] at h4; exact ⟨G', F', σ', rfl, h2, h3, h4⟩
    · rename_i e; rw [if_neg e] at h4; exact ⟨G', F', σ', rfl, h2, h3, h4⟩
  | _ => exact ⟨G', F', σ', rfl, h2, h3, h4⟩
theorem kw_cond {c : Operand} {x y : Code} {b : Bool} (hc : F.eval c = .s (.bool b)) (ht : b = true → KWp P N x F σ Q) (hf : b = false → KWp P N y F σ Q) : KWp P N (.cond c x y) F σ Q := fun G a hs =>
  wp_cond_split (rep_bool hs.fr hc) (fun e => ht e G a hs) (fun e => hf e G a hs)
theorem kw_true {c : Operand} {x y : Code} (hc : F.eval c = .s (.bool true)) (ht : KWp P N x F σ Q) : KWp P N (.cond c x y) F σ Q := kw_cond hc (fun _ => ht) (fun e => by cases e)
theorem kw_false {c : Operand} {x y : Code} (hc : F.eval c = .s (.bool false)) (ht : KWp P N y F σ Q) : KWp P N (.cond c x y) F σ Q := kw_cond hc (fun e => by cases e) (fun _ => ht)
theorem kw_loop {c : Code} (I : Nat → Frm → List Ob → Prop) (m : Nat) (h0 : I m F σ)
    (round : ∀ m F σ, I m F σ → KWp P N c F σ (AThen (fun F' σ' => ∃ m', m' < m ∧ I m' F' σ') Q)) : KWp P N (.loop c) F σ Q := fun G a hs => by
  refine wp_loop_ghost (fun n a w => ∃ G' F' σ', G'.w = w ∧ KE G G' ∧ S8 N G' a F' σ' ∧ I n F' σ') m ⟨G, F, σ, rfl, .refl G, hs, h0⟩ ?_
  rintro n a w ⟨G', F', σ', rfl, h2, h3, h4⟩
  refine Code.wp_mono (fun e a1 w1 q => ?_) (round n F' σ' h4 G' a h3)
  obtain ⟨G2, F2, σ2, rfl, h5, h6, h7⟩ := q
  cases e with
  | normal => obtain ⟨m', hm, hi⟩ := h7; exact ⟨m', hm, ⟨G2, F2, σ2, rfl, h2.trans h5, h6, hi⟩⟩
  | _ => exact ⟨G2, F2, σ2, rfl, h2.trans h5, h6, h7⟩

theorem kw_region {id : Nat} {l : List Oper} (h : KOps P N l.toArray l F σ Q) : KWp P N (.region id l.toArray false) F σ Q := fun G a hs => wp_region_lit (h G a hs)
theorem kw_mono {c : Code} {Q' : Exit → Frm → List Ob → Prop} (h : KWp P N c F σ Q) (hq : ∀ e F σ, Q e F σ → Q' e F σ) : KWp P N c F σ Q' := fun G a hs =>
  Code.wp_mono (fun e a w q => liftK_mono (.refl G) hq q) (h G a hs)

end

section
variable {P : Program} {N : Nat} {F : Frm} {σ σ' : List Ob} {Q : Exit → Frm → List Ob → Prop} {ops : Array Oper} {o : Oper} {l : List Oper} {x : AV}

theorem kops_nil (h : Q .normal F σ) : KOps P N ops [] F σ Q := fun G a hs => ⟨G, F, σ, rfl, .refl G, hs, h⟩
theorem kops_op {d : Nat} (hd : o.dst = some d) (hN : Nat.blt d N = true) (hr : Runs ops F o true) (hD : Does P o F σ x σ') (k : KOps P N ops l ((d, x) :: F) σ' Q) : KOps P N ops (o :: l) F σ Q := fun G a hs => by
  unfold wpList
  rw [if_pos (hr.wanted hs.fr)]
  left
  refine hD G a _ _ hs.rel (fun y _ => rep_eval hs.fr y) (fun v G' e r hv => ?_)
  rw [hd]
  exact wpList_mono (fun e' a w q => liftK_mono (KE.of e) (fun _ _ _ x => x) q) _ _ _ (k G' _ ((hs.step e r).put (by simpa [Nat.blt_eq] using hN) hv))
theorem kops_eff (hd : o.dst = none) (hr : Runs ops F o true) (hD : Does P o F σ x σ') (k : KOps P N ops l F σ' Q) : KOps P N ops (o :: l) F σ Q := fun G a hs => by
  unfold wpList
  rw [if_pos (hr.wanted hs.fr)]
  left
  refine hD G a _ _ hs.rel (fun y _ => rep_eval hs.fr y) (fun v G' e r hv => ?_)
  rw [hd]
  exact wpList_mono (fun e' a w q => liftK_mono (KE.of e) (fun _ _ _ x => x) q) _ _ _ (k G' _ (hs.step e r))
end


def WeakK (N : Nat) (F : Frm) (σ : List Ob) (F' : Frm) (σ' : List Ob) : Prop := ∀ G a, S8 N G a F σ → ∃ G', G'.w = G.w ∧ KE G G' ∧ S8 N G' a F' σ'
theorem WeakK.refl {N : Nat} {F : Frm} {σ : List Ob} : WeakK N F σ F σ := fun G a h => ⟨G, rfl, .refl G, h⟩
section
variable {P : Program} {N : Nat} {F F' : Frm} {σ σ' : List Ob} {Q : Exit → Frm → List Ob → Prop}
theorem kw_weak {c : Code} (w : WeakK N F σ F' σ') (h : KWp P N c F' σ' Q) : KWp P N c F σ Q := fun G a hs => by
  obtain ⟨G1, e1, s1, h1⟩ := w G a hs
  rw [← e1]
  exact Code.wp_mono (fun e a w q => liftK_mono s1 (fun _ _ _ x => x) q) (h G1 a h1)
theorem kw_loops {c : Code} {S : Type} (fr : S → Frm) (st : S → List Ob) (inv : S → Prop) (ms : S → Nat) (s0 : S) (hw : WeakK N F σ (fr s0) (st s0)) (h0 : inv s0)
    (round : ∀ s, inv s → KWp P N c (fr s) (st s) (AThen (fun F' σ' => ∃ s', inv s' ∧ ms s' < ms s ∧ WeakK N F' σ' (fr s') (st s')) Q)) : KWp P N (.loop c) F σ Q := by
  refine kw_weak hw (kw_loop (fun m F σ => ∃ s, inv s ∧ ms s = m ∧ WeakK N F σ (fr s) (st s)) (ms s0) ⟨s0, h0, rfl, WeakK.refl⟩ (fun m F σ h => ?_))
  obtain ⟨s, h1, rfl, h3⟩ := h
  refine kw_weak h3 (kw_mono (round s h1) (fun e F σ q => ?_))
  cases e with
  | normal => obtain ⟨s', g1, g2, g3⟩ := q; exact ⟨ms s', g2, s', g1, rfl, g3⟩
  | _ => exact q
variable {ops : Array Oper} {o : Oper} {l : List Oper} {d : Nat}
theorem kops_opP {p : Prop} [Decidable p] (hd : o.dst = some d) (hN : Nat.blt d N = true) (hr : Runs ops F o true) (hD : Does P o F σ (.s (.bool (decide p))) σ) (k1 : p → KOps P N ops l ((d, .s (.bool true)) :: F) σ Q) (k2 : ¬ p → KOps P N ops l ((d, .s (.bool false)) :: F) σ Q) : KOps P N ops (o :: l) F σ Q := by
  by_cases h : p
  · exact kops_op hd hN hr (dec_t h hD) (k1 h)
  · exact kops_op hd hN hr (dec_f h hD) (k2 h)
theorem kops_opB {b : Bool} (hd : o.dst = some d) (hN : Nat.blt d N = true) (hr : Runs ops F o true) (hD : Does P o F σ (.s (.bool b)) σ) (k1 : b = true → KOps P N ops l ((d, .s (.bool true)) :: F) σ Q) (k2 : b = false → KOps P N ops l ((d, .s (.bool false)) :: F) σ Q) : KOps P N ops (o :: l) F σ Q := by
  cases b with
  | true => exact kops_op hd hN hr hD (k1 rfl)
  | false => exact kops_op hd hN hr hD (k2 rfl)
theorem fr_keep {G G' : Cx} {a : Act} (hF : ∀ p ∈ F, Lo 2 p.2) (h : FOk G a F) (k : KE G G') : FOk G' a F := fun t => by
  have key : ∀ F : Frm, (∀ p ∈ F, Lo 2 p.2) → Lo 2 (F.get t) := by
    intro F
    induction F with
    | nil => intro _; exact .any
    | cons p F ih =>
      intro hF
      obtain ⟨d, x⟩ := p
      simp only [Frm.get]
      cases Nat.beq d t with
      | true => exact hF (d, x) List.mem_cons_self
      | false => exact ih (fun p hp => hF p (List.mem_cons_of_mem _ hp))
  refine (h t).low (key F hF) k.step.st k.step.cell (fun id y hid hy => ?_) (fun _ => k.rows)
  exact k.mu0 id y hid hy
end
section
variable {N : Nat} {F F' : Frm} {σ σ' : List Ob}
theorem WeakK.weak (h : WeakK N F σ F' σ') : Weak N F σ F' σ' := fun G a hs => by
  obtain ⟨G', h1, h2, h3⟩ := h G a hs
  exact ⟨G', h1, h2.step, h3⟩
theorem WeakK.trans {F1 F2 : Frm} {σ1 σ2 : List Ob} (h : WeakK N F σ F1 σ1) (k : WeakK N F1 σ1 F2 σ2) : WeakK N F σ F2 σ2 := fun G a hs => by
  obtain ⟨G1, e1, s1, h1⟩ := h G a hs
  obtain ⟨G2, e2, s2, h2⟩ := k G1 a h1
  exact ⟨G2, e2.trans e1, s1.trans s2, h2⟩
theorem kwk_froz {id sz : Nat} {cs : List AV} (hs : σ[id]? = some (.row sz cs)) : WeakK N F σ F (σ.set id (.fz sz cs)) := fun G a h => by
  obtain ⟨h1, h2⟩ := froz_ok h.rel hs
  exact ⟨G.froz id, rfl, KE.of h1, h.step h1 h2⟩
theorem kwk_ref {d id sz k : Nat} {cs : List AV} {e : AV} (hd : F.get d = .ptr id sz k 0) (hs : σ[id]? = some (.fz sz cs)) (he : cs[k]? = some e) : WeakK N F σ ((d, .ref e.cells) :: F) σ := fun G a h =>
  ⟨G, rfl, .refl G, h.rel, h.fr.more (rep_fzp h.rel hs he (by rw [← hd]; exact h.fr d)), h.df, h.nt⟩
/-- a variable whose cell is made last is finished -/
theorem kwk_last {d sz : Nat} {e : AV} (hd : F.get d = .ptr σ.length sz 0 0) : WeakK N F (σ ++ [.row sz [e]]) ((d, .ref e.cells) :: F) (σ ++ [.fz sz [e]]) := by
  have h1 := kwk_froz (N := N) (F := F) (σ := σ ++ [.row sz [e]]) (id := σ.length) (sz := sz) (cs := [e]) (by simp)
  rw [show (σ ++ [Ob.row sz [e]]).set σ.length (.fz sz [e]) = σ ++ [.fz sz [e]] by rw [List.set_append_right _ _ (Nat.le_refl _), Nat.sub_self]; rfl] at h1
  exact h1.trans (kwk_ref (cs := [e]) hd (by simp) rfl)
/-- what comes last in the store is left out -/
theorem kwk_cut {X : List Ob} (h0 : 1 < σ.length) (hσ : ∀ ob ∈ σ, LoOb σ.length ob) (hF : FrLo F σ.length F') : WeakK N F (σ ++ X) F' σ := fun G a h => by
  let G' : Cx := { G with mu := fun i => if i < σ.length then G.mu i else none }
  have hmu : ∀ i, i < σ.length → G'.mu i = G.mu i := fun i hi => if_pos hi
  have low : ∀ {v x}, Rep G v x → Lo σ.length x → Rep G' v x := fun hv hx => hv.low hx (fun _ _ h => h) (fun _ _ _ => rfl) (fun id y hid hy => by rw [hmu id hid]; exact hy) (fun _ => RowsKept.refl _)
  have hr := h.rel
  have rowlow : ∀ {b sz : Nat} {cs : List AV} {f : Nat × Nat → Prop}, (∀ e ∈ cs, ∀ c ∈ e.cells, Lo σ.length c) → RowAt G b sz cs f → RowAt G' b sz cs f := fun hlo ⟨cur, t, fr, g1, g2, g3, g4⟩ =>
    ⟨cur, t, fr, g1, g2, g3, fun k e he => ⟨(g4 k e he).1, (g4 k e he).2.1, fun j c hc => by
      obtain ⟨v, h6, h7⟩ := (g4 k e he).2.2 j c hc
      exact ⟨v, h6, low h7 (hlo e (List.mem_of_getElem? he) c (List.mem_of_getElem? hc))⟩⟩⟩
  refine ⟨G', rfl, ⟨⟨rfl, rfl, fun _ _ h => h, fun _ _ _ => rfl, fun _ _ h => .inl h⟩, fun i y hi hy => by rw [hmu i (by omega)]; exact hy, RowsKept.refl _⟩, ⟨⟨hr.below, hr.le, hr.st, fun id ob hob => ?_, fun i j b hi hj hm hm' => ?_, fun id hid => if_neg (by omega)⟩, ?_, h.df, h.nt⟩⟩
  · have hid := (List.getElem?_eq_some_iff.1 hob).1
    have h1 := hr.obs id ob (by rw [List.getElem?_append_left hid]; exact hob)
    have hlo := hσ ob (List.mem_of_getElem? hob)
    cases ob with
    | dead => intro b hb; rw [hmu id hid] at hb; exact h1 b hb
    | row sz cs =>
      simp only [ObOk, hmu id hid] at h1 ⊢
      cases hx : G.mu id with
      | none => rw [hx] at h1; exact h1
      | some x =>
        rw [hx] at h1
        cases x with
        | none => exact h1
        | some b => exact ⟨rowlow hlo h1.1, h1.2⟩
    | fz sz cs =>
      simp only [ObOk, hmu id hid] at h1 ⊢
      cases hx : G.mu id with
      | none => rw [hx] at h1; exact h1
      | some x =>
        rw [hx] at h1
        cases x with
        | none => exact h1
        | some b => exact ⟨rowlow hlo h1.1, h1.2⟩
    | mp X =>
      obtain ⟨b, g1, g2, g3, g4, g5⟩ := h1
      refine ⟨b, (hmu id hid).trans g1, g2, g3, g4, fun j hj => g5 j ?_⟩
      by_cases hjl : j < σ.length
      · rwa [hmu j hjl] at hj
      · simp only [G', if_neg hjl] at hj; cases hj
  · obtain ⟨sz, cs, h1⟩ := hi
    obtain ⟨sz', cs', h1'⟩ := hj
    have hil := (List.getElem?_eq_some_iff.1 h1).1
    have hjl := (List.getElem?_eq_some_iff.1 h1').1
    rw [hmu i hil] at hm
    rw [hmu j hjl] at hm'
    exact hr.inj i j b ⟨sz, cs, by rw [List.getElem?_append_left hil]; exact h1⟩ ⟨sz', cs', by rw [List.getElem?_append_left hjl]; exact h1'⟩ hm hm'
  · have key : ∀ F', FrLo F σ.length F' → FOk G' a F' := by
      intro F'
      induction F' with
      | nil => intro _ d; exact .any _
      | cons p F' ih =>
        obtain ⟨d, y⟩ := p
        rintro ⟨⟨g1, g2⟩, g3⟩ t
        simp only [Frm.get]
        cases e : Nat.beq d t with
        | true =>
          have := Nat.eq_of_beq_eq_true e
          subst this
          have := h.fr d
          rw [g1] at this
          exact low this g2
        | false => exact ih g3 t
    exact key F' hF
theorem kwk_ren2 (ρ : List Nat) (h0 : ρ[0]? = some 0) (h1 : ρ[1]? = some 1) (hn : ρ.Nodup) (hs : StR2 σ ρ σ') (hf : FrRn F ρ F') : WeakK N F σ F' σ' := fun G a h =>
  ⟨G.ren ρ, rfl, ⟨⟨rfl, rfl, fun _ _ h => h, fun _ _ _ => rfl, fun _ _ h => .inl h⟩, fun i y hi hy => by
    match i, hi with
    | 0, _ => simp [Cx.ren, h0, hy]
    | 1, _ => simp [Cx.ren, h1, hy], RowsKept.refl _⟩, ⟨ren_rel2 h.rel hn hs, frRn_ok h.fr F' hf, h.df, h.nt⟩⟩
end
/-! ## calls that change what is named from 0 on in the store -/
structure CallK (P : Program) (f : FuncId) (args : List AV) (σ : List Ob) (y : AV) (σ' : List Ob) : Prop where
  ent : Enters P f
  lo : Lo 0 y
  call : ∀ (G : Cx) (vargs : Array Value), Rel G σ → vargs.size = args.length → (∀ (j : Nat) v x, vargs[j]? = some v → args[j]? = some x → Rep G v x) →
    Calls P f vargs G.w fun ex w' => ∃ (v : Value) (G' : Cx), ex = .returned v ∧ G'.w = w' ∧ KE G G' ∧ Rel G' σ' ∧ Rep G' v y
section
variable {P : Program} {N : Nat} {F : Frm} {σ σ' : List Ob} {Q : Exit → Frm → List Ob → Prop} {ops : Array Oper} {o : Oper} {l : List Oper} {d : Nat} {fo : Operand} {ar : Array Operand} {ts : Array TypeId} {f : FuncId} {y : AV} {args caps : List AV}
theorem ops_callK (hd : o.dst = some d) (hN : Nat.blt d N = true) (hr : Runs ops F o true) (ho : o.op = .call { callee := .value fo, args := ar, argTypes := ts }) (hf : F.eval fo = .fn f caps) (hp : CallK P f args σ y σ') (ha : ar.toList.map F.eval ++ caps = args) (hF : ∀ p ∈ F, Lo 2 p.2)
    (k : AOps P N ops l ((d, y) :: F) σ' Q) : AOps P N ops (o :: l) F σ Q := fun G a hs => by
  unfold wpList
  rw [if_pos (hr.wanted hs.fr)]
  left
  obtain ⟨cap, h1, h2, h3⟩ := call_args ho (fun y _ => rep_eval hs.fr y) hf
  rw [ha] at h2 h3
  unfold Oper.wp
  rw [call_enter ho a.eval h1 hp.ent G.w, Oper.upon_enter]
  refine (hp.call G _ hs.rel h2 h3).mono ?_
  rintro ex w' ⟨v, G', rfl, rfl, hk, hr', hv⟩
  rw [hd]
  have hfr : FOk G' a F := fr_keep hF hs.fr hk
  exact wpList_mono (fun e' a w q => lift_mono hk.step (fun _ _ _ x => x) q) _ _ _ (k G' _ (S8.put ⟨hr', hfr, hs.df, hs.nt⟩ (by simpa [Nat.blt_eq] using hN) hv))
theorem callK_fn {fn : Func} {c : Code} (hf : P.funcs[f]? = some fn) (hname : (fn.name == "runtime.NumGoroutine") = false) (hb : fn.body = some c) (hn : args.length ≤ fn.ntmps) (hres : fn.results.toList = [])
    (h : KWp P fn.ntmps c (argF 0 args) σ (fun e F σ1 => (e = .normal ∨ e = .ret) ∧ σ1 = σ')) : CallK P f args σ (.tup []) σ' := by
  refine ⟨enters_of hf hname hb, .tup _ (by simp), fun G vargs hrel hsz hrep => ?_⟩
  refine calls_of_wp hf hb ?_
  have hfo : FOk G { tmps := vargs ++ Array.replicate (fn.ntmps - vargs.size) undef, defers := [] } (argF 0 args) := by
    intro d
    rw [argF_get]
    simp only [Nat.zero_le, if_true, Nat.sub_zero]
    by_cases hd : d < args.length
    · have h1 : (vargs ++ Array.replicate (fn.ntmps - vargs.size) undef).getD d undef = vargs[d]'(by omega) := by
        rw [Array.getD_eq_getD_getElem?, Array.getElem?_append_left (by omega)]
        simp [show d < vargs.size by omega]
      rw [h1]
      have h2 : args.getD d .any = args[d] := by rw [List.getD_eq_getElem?_getD, List.getElem?_eq_getElem hd]; rfl
      rw [h2]
      exact hrep d _ _ (by simp [show d < vargs.size by omega]) (by simp [hd])
    · have h2 : args.getD d .any = .any := by
        rw [List.getD_eq_getElem?_getD, List.getElem?_eq_none (by omega)]; rfl
      rw [h2]; exact .any _
  have hs8 : S8 fn.ntmps G { tmps := vargs ++ Array.replicate (fn.ntmps - vargs.size) undef, defers := [] } (argF 0 args) σ := ⟨hrel, hfo, rfl, by simp; omega⟩
  refine Code.wp_mono (fun e a w q => ?_) (h G _ hs8)
  obtain ⟨G', F', σ1, rfl, h2, h3, he, rfl⟩ := q
  have hrl : ResL P F' σ1 fn.results.toList [] := by rw [hres]; exact .nil
  obtain ⟨v, h6, h7⟩ := results_run (fn := fn) h3.rel h3.fr hrl
  have post : ∃ (v' : Value) (G'' : Cx), Ending.returned v = .returned v' ∧ G''.w = G'.w ∧ KE G G'' ∧ Rel G'' σ1 ∧ Rep G'' v' (.tup []) := ⟨v, G', rfl, rfl, h2, h3.rel, h7⟩
  rcases he with rfl | rfl
  · exact ⟨h3.df, _, h6, post⟩
  · exact ⟨h3.df, _, h6, post⟩
end
theorem hF_nil : ∀ p ∈ ([] : Frm), Lo 2 p.2 := by simp
theorem hF_cons {d : Nat} {x : AV} {F : Frm} (h : Lo 2 x) (t : ∀ p ∈ F, Lo 2 p.2) : ∀ p ∈ (d, x) :: F, Lo 2 p.2 := fun p hp => by
  rcases List.mem_cons.1 hp with rfl | hp
  · exact h
  · exact t p hp
theorem kwk_sub {N : Nat} {F : Frm} {σ : List Ob} : ∀ {F'}, Sub F F' → WeakK N F σ F' σ := fun {F'} h G a hs => by
  refine ⟨G, rfl, .refl G, hs.rel, ?_, hs.df, hs.nt⟩
  have key : ∀ F', Sub F F' → FOk G a F' := by
    intro F'
    induction F' with
    | nil => intro _ d; exact .any _
    | cons p F' ih =>
      obtain ⟨d, y⟩ := p
      intro h t
      simp only [Frm.get]
      cases e : Nat.beq d t with
      | true => have := Nat.eq_of_beq_eq_true e; subst this; rw [← h.1]; exact hs.fr d
      | false => exact ih h.2 t
  exact key F' h
/-! ## regions that draw their order -/
theorem kw_of {P : Program} {N : Nat} {F : Frm} {σ : List Ob} {Q : Exit → Frm → List Ob → Prop} {c : Code} (h : EWp P N c F σ Q) : KWp P N c F σ Q := fun G a hs =>
  Code.wp_mono (fun e a w q => by obtain ⟨G', F', σ', h1, h2, h3, h4⟩ := q; exact ⟨G', F', σ', h1, KE.of h2, h3, h4⟩) (h G a hs)
theorem kw_draw {P : Program} {N : Nat} {l : List Oper} {F : Frm} {σ : List Ob} {Q : Exit → Frm → List Ob → Prop} {id : Nat} (hm : P.follows .mixedOrders = true) (h : EDraw P N l F σ Q) : KWp P N (.region id l.toArray true) F σ Q := kw_of (ew_draw hm h)
theorem kdraw_ex {P : Program} {N : Nat} {l : List Oper} {F : Frm} {σ : List Ob} {Q : Exit → Frm → List Ob → Prop} (h : EX P N l.toArray l [] l F σ (fun F' σ' => Q .normal F' σ')) : EDraw P N l F σ Q := by
  obtain ⟨F', σ', out, ks, sts, h1, h2, h3⟩ := h
  exact edraw_steps h1 (by simpa using h2) h3
end Go.Proofs.Ytcpnffjnagbkoaa.Aw.Km
end
section
namespace Go.Proofs.Ytcpnffjnagbkoaa.Aw
set_option linter.unusedSimpArgs false
set_option linter.unusedVariables false
set_option linter.unusedSectionVars false
open Go Go.RowKit Go.Proofs
variable {P : Program} [IsP P]

theorem fneg_neg (a : Fr) : fneg (fneg a) = a := by simp [fneg]
theorem dneg_pf (a : Fr) (h : -1073741824 ≤ a.n ∧ a.n ≤ 1073741824) : Pure P 38 [eF a] (eF (fneg a)) := by
  rw [show eF (fneg a) = .agg [eI (0 - a.n), eI a.d] by simp [eF, fneg]]
  refine aw_fn (by rw [IsP.eq (P := P)]; exact Try.func38) rfl rfl rfl rfl rfl (by repeat' (first | exact Lo.s _ | exact Lo.emp | exact Lo.any | exact lo_nil | exact lo_nilE | refine lo_cons ?_ ?_ | refine lo_consE ?_ ?_ | refine lo_map ?_ | refine lo_mapE ?_ | refine Lo.cells ?_ | refine Lo.agg _ ?_ | refine Lo.ref _ ?_ | refine Lo.tup _ ?_ | refine Lo.fn _ _ ?_ | refine Lo.sl _ ?_ | intro _)) (by repeat' (first | exact Lo.s _ | exact Lo.emp | exact Lo.any | exact lo_nil | exact lo_nilE | refine lo_cons ?_ ?_ | refine lo_consE ?_ ?_ | refine lo_map ?_ | refine lo_mapE ?_ | refine Lo.cells ?_ | refine Lo.agg _ ?_ | refine Lo.ref _ ?_ | refine Lo.tup _ ?_ | refine Lo.fn _ _ ?_ | refine Lo.sl _ ?_ | intro _)) (by simp only [argF]; rfl) ?_
  repeat (first | refine aw_seq ?_ | refine ath_n ?_ | refine aw_skip ?_ | refine abl_n ?_ | refine aw_block ?_)
  refine aw_region ?_
  refine ops_op rfl rfl (runs_none rfl) (does_box rfl rfl rfl rfl) ?_
  refine aops_weak (wk_froz (id := 0) rfl) (aops_weak (wk_ref (d := 1) rfl rfl rfl) ?_)
  refine ops_op rfl rfl (runs_none rfl) (does_alloc rfl ti28 rfl rfl) ?_
  refine ops_nil ?_
  repeat (first | refine aw_seq ?_ | refine ath_n ?_ | refine aw_skip ?_ | refine abl_n ?_ | refine aw_block ?_)
  refine aw_region ?_
  first | refine ops_op rfl rfl (runs_none rfl) (does_fieldAddr_ptr rfl tf28_0 (by decide) rfl) ?_ | refine ops_op rfl rfl (runs_none rfl) (does_fieldAddr_ref rfl tf28_0 (by decide) rfl) ?_
  first | refine ops_op rfl rfl (runs_none rfl) (does_load_ref rfl ta3 rfl) ?_ | refine ops_op rfl rfl (runs_none rfl) (does_load_ptr rfl ta3 rfl rfl rfl rfl rfl) ?_
  refine ops_op rfl rfl (runs_none rfl) (does_neg rfl rfl (IntWalk.i64_in _ (by omega))) ?_
  first | refine ops_op rfl rfl (runs_none rfl) (does_fieldAddr_ptr rfl tf28_1 (by decide) rfl) ?_ | refine ops_op rfl rfl (runs_none rfl) (does_fieldAddr_ref rfl tf28_1 (by decide) rfl) ?_
  first | refine ops_op rfl rfl (runs_none rfl) (does_load_ref rfl ta3 rfl) ?_ | refine ops_op rfl rfl (runs_none rfl) (does_load_ptr rfl ta3 rfl rfl rfl rfl rfl) ?_
  refine ops_op rfl rfl (runs_none rfl) (does_build rfl ti28 tp28 rfl rfl) ?_
  refine ops_eff rfl (runs_none rfl) (does_store rfl ti28 rfl rfl rfl rfl rfl rfl (by decide) (by decide)) ?_
  refine ops_nil ?_
  repeat (first | refine aw_seq ?_ | refine ath_n ?_ | refine aw_skip ?_ | refine abl_n ?_ | refine aw_block ?_)
  (refine aw_ret ?_; repeat (first | refine ath_r ?_ | refine abl_r ?_))
  exact post_c (N := 0) (.inr rfl) ta28 ti28 rfl rfl rfl rfl rfl (.refl _)
theorem dsign_pf (a : Fr) (tn : Bool) (h : -1073741824 ≤ a.n ∧ a.n ≤ 1073741824) : Pure P 37 [eF a, .ref [eB tn]] (eF (if tn = true then fneg a else a)) := by
  have hn := dneg_pf (P := P) a h
  refine aw_fn (by rw [IsP.eq (P := P)]; exact Try.func37) rfl rfl rfl rfl rfl (by repeat' (first | exact Lo.s _ | exact Lo.emp | exact Lo.any | exact lo_nil | exact lo_nilE | refine lo_cons ?_ ?_ | refine lo_consE ?_ ?_ | refine lo_map ?_ | refine lo_mapE ?_ | refine Lo.cells ?_ | refine Lo.agg _ ?_ | refine Lo.ref _ ?_ | refine Lo.tup _ ?_ | refine Lo.fn _ _ ?_ | refine Lo.sl _ ?_ | intro _)) (by repeat' (first | exact Lo.s _ | exact Lo.emp | exact Lo.any | exact lo_nil | exact lo_nilE | refine lo_cons ?_ ?_ | refine lo_consE ?_ ?_ | refine lo_map ?_ | refine lo_mapE ?_ | refine Lo.cells ?_ | refine Lo.agg _ ?_ | refine Lo.ref _ ?_ | refine Lo.tup _ ?_ | refine Lo.fn _ _ ?_ | refine Lo.sl _ ?_ | intro _)) (by simp only [argF]; rfl) ?_
  repeat (first | refine aw_seq ?_ | refine ath_n ?_ | refine aw_skip ?_ | refine abl_n ?_ | refine aw_block ?_)
  refine aw_region ?_
  refine ops_op rfl rfl (runs_none rfl) (does_box rfl rfl rfl rfl) ?_
  refine aops_weak (wk_froz (id := 0) rfl) (aops_weak (wk_ref (d := 2) rfl rfl rfl) ?_)
  refine ops_op rfl rfl (runs_none rfl) (does_alloc rfl ti28 rfl rfl) ?_
  refine ops_nil ?_
  repeat (first | refine aw_seq ?_ | refine ath_n ?_ | refine aw_skip ?_ | refine abl_n ?_ | refine aw_block ?_)
  refine aw_region ?_
  first | refine ops_op rfl rfl (runs_none rfl) (does_load_ref rfl ta4 rfl) ?_ | refine ops_op rfl rfl (runs_none rfl) (does_load_ptr rfl ta4 rfl rfl rfl rfl rfl) ?_
  refine ops_nil ?_
  repeat (first | refine aw_seq ?_ | refine ath_n ?_ | refine aw_skip ?_ | refine abl_n ?_ | refine aw_block ?_)
  cases tn with
  | true =>
    refine aw_true rfl ?_
    repeat (first | refine aw_seq ?_ | refine ath_n ?_ | refine aw_skip ?_ | refine abl_n ?_ | refine aw_block ?_)
    refine aw_region ?_
    first | refine ops_op rfl rfl (runs_none rfl) (does_load_refw rfl ta28 ti28 rfl rfl) ?_ | refine ops_op rfl rfl (runs_none rfl) (does_load_whole rfl ta28 ti28 rfl rfl rfl rfl rfl) ?_ | refine ops_op rfl rfl (runs_none rfl) (does_load_refs rfl ta28 ti28 rfl (Nat.le_of_ble_eq_true rfl)) ?_ | refine ops_op rfl rfl (runs_none rfl) (does_load_ptrs rfl ta28 ti28 rfl rfl rfl rfl (Nat.le_of_ble_eq_true rfl)) ?_
    refine ops_op rfl rfl (runs_none rfl) (does_call rfl rfl (hn) (evc_cons rfl evc_nil)) ?_
    refine ops_eff rfl (runs_none rfl) (does_store rfl ti28 rfl rfl rfl rfl rfl rfl (by decide) (by decide)) ?_
    refine ops_nil ?_
    repeat (first | refine aw_seq ?_ | refine ath_n ?_ | refine aw_skip ?_ | refine abl_n ?_ | refine aw_block ?_)
    (refine aw_ret ?_; repeat (first | refine ath_r ?_ | refine abl_r ?_))
    exact post_c (N := 0) (.inr rfl) ta28 ti28 rfl rfl rfl rfl rfl (.refl _)
  | false =>
    refine aw_false rfl ?_
    repeat (first | refine aw_seq ?_ | refine ath_n ?_ | refine aw_skip ?_ | refine abl_n ?_ | refine aw_block ?_)
    refine aw_region ?_
    first | refine ops_op rfl rfl (runs_none rfl) (does_load_refw rfl ta28 ti28 rfl rfl) ?_ | refine ops_op rfl rfl (runs_none rfl) (does_load_whole rfl ta28 ti28 rfl rfl rfl rfl rfl) ?_ | refine ops_op rfl rfl (runs_none rfl) (does_load_refs rfl ta28 ti28 rfl (Nat.le_of_ble_eq_true rfl)) ?_ | refine ops_op rfl rfl (runs_none rfl) (does_load_ptrs rfl ta28 ti28 rfl rfl rfl rfl (Nat.le_of_ble_eq_true rfl)) ?_
    refine ops_eff rfl (runs_none rfl) (does_store rfl ti28 rfl rfl rfl rfl rfl rfl (by decide) (by decide)) ?_
    refine ops_nil ?_
    repeat (first | refine aw_seq ?_ | refine ath_n ?_ | refine aw_skip ?_ | refine abl_n ?_ | refine aw_block ?_)
    (refine aw_ret ?_; repeat (first | refine ath_r ?_ | refine abl_r ?_))
    exact post_c (N := 0) (.inr rfl) ta28 ti28 rfl rfl rfl rfl rfl (.refl _)
/-- the store while the program makes the dual program: the struct, the result, its rows -/
def stD (p : LP) (T : List Sp) (rows : List (List AV)) : List Ob :=
  [.row 4 [.agg [.own 2 2 (dC p T).length, .own 3 1 p.c.length, .s (.slice none 0 0), .s (.slice none 0 0)]], .row 4 [zP], .row 2 ((dC p T).map eF), .row 1 (ownR 4 2 rows)] ++ obsR 2 rows
theorem stD_row {p : LP} {T : List Sp} {rows : List (List AV)} {j : Nat} {r : List AV} (h : rows[j]? = some r) : (stD p T rows)[j + 4]? = some (.row 2 r) := by
  show (obsR 2 rows)[j]? = _
  exact obsR_get h
theorem stD_len (p : LP) (T : List Sp) (rows : List (List AV)) (hl : rows.length = p.c.length) : (stD p T rows).length = p.c.length + 4 := by simp [stD, obsR_len, hl]
theorem stD_loOb (p : LP) (T : List Sp) (rows : List (List AV)) (hl : rows.length = p.c.length) (hr : ∀ r ∈ rows, ∀ e ∈ r, ∀ c ∈ e.cells, Lo 0 c) : ∀ ob ∈ stD p T rows, LoOb (stD p T rows).length ob := by
  rw [stD_len p T rows hl]
  intro ob hob
  simp only [stD, List.mem_append, List.mem_cons, List.not_mem_nil, or_false] at hob
  rcases hob with (rfl | rfl | rfl | rfl) | h
  · intro e he c hc
    simp at he; subst he
    simp [AV.cells] at hc
    rcases hc with rfl | rfl | rfl
    · exact .own _ _ _ (by omega)
    · exact .own _ _ _ (by omega)
    · exact .s _
  · intro e he c hc; exact lo_up (zP_lo e he c hc)
  · intro e he c hc; exact lo_up (lo_mapE (fun a => (lo_F a).cells) e he c hc)
  · intro e he c hc
    simp only [ownR, List.mem_map, List.mem_range] at he
    obtain ⟨t, ht, rfl⟩ := he
    simp [AV.cells] at hc; subst hc
    exact .own _ _ _ (by omega)
  · simp only [obsR, List.mem_map] at h
    obtain ⟨r, h1, rfl⟩ := h
    intro e he c hc; exact lo_up (hr r h1 e he c hc)
/-- a column more in the row of costs -/
theorem stDC_ren {p : LP} {T : List Sp} {s : Sp} {x : AV} {K : Nat} (hK : K = p.c.length + 4) (hx : eF (if s.2 = true then gti p.b s.1 else fneg (gti p.b s.1)) = x) :
    StR2 (.row 4 [.agg [.own K 2 (((dC p T).map eF).length + 1), .own 3 1 p.c.length, .s (.slice none 0 0), .s (.slice none 0 0)]] :: .row 4 [zP] :: .dead :: .row 1 (ownR 4 2 (dRows p T [] 0)) :: obsR 2 (dRows p T [] 0) ++ [.row 2 ((dC p T).map eF ++ [x])]) (mv K 2) (stD p (T ++ [s]) (dRows p T [s] 0)) := by
  have hT : ((dC p T).map eF).length + 1 = (dC p (T ++ [s])).length := by simp [dC]
  refine stR2_mv (i := 2) (by simp [obsR_len, dRows_len, hK]) (by simp [stD, obsR_len, dRows_len, hK]) (ob' := .row 2 ((dC p (T ++ [s])).map eF)) rfl (.of _ _ (.rowE (lo_mapE (fun a => (lo_F a).cells)) (by rw [dC_snoc, hx]))) ?_
  rw [dRows_0]
  refine sto4 (fun _ => .of _ _ (obRn_agg (.cons (.own _ _ _ _ _ (mv_eq (by omega)) hT) (.cons (.own _ _ _ _ _ (mv_ne (by omega) (by omega)) rfl) (.cons (.lo _ (.s _)) (.cons (.lo _ (.s _)) .nil)))))) (fun _ => .of _ _ (.rowE zP_lo rfl)) (fun h => absurd rfl h) (fun _ => ownR_same (by rw [dRows_len]; exact hK) (by omega)) (fun t a b _ ha hb => obsR_mv (dRows_lo _ _ _ _) ha hb)
/-- an element more in a row of the dual program -/
theorem stDA_ren {p : LP} {T C : List Sp} {s : Sp} {j : Nat} {x : AV} {K : Nat} (hj : j < p.c.length) (hK : K = p.c.length + 4) (hx : eF (dX p j s) = x) :
    StR2 (.row 4 [.agg [.own 2 2 (dC p C).length, .own 3 1 p.c.length, .s (.slice none 0 0), .s (.slice none 0 0)]] :: .row 4 [zP] :: .row 2 ((dC p C).map eF) :: .row 1 ((ownR 4 2 (dRows p T [s] j)).set j (.own K 2 (((dCol p T j).map eF).length + 1))) :: (obsR 2 (dRows p T [s] j)).set j .dead ++ [.row 2 ((dCol p T j).map eF ++ [x])]) (mv K (j + 4)) (stD p C (dRows p T [s] (j + 1))) := by
  subst hx
  have hl := dRows_len p T [s] j
  rw [← dRows_step hj]
  refine stR2_mv (i := j + 4) (by simp [obsR_len, dRows_len, hK]) (by simp [stD, obsR_len, dRows_len, hK]) (ob' := .row 2 ((dCol p T j).map eF ++ [eF (dX p j s)])) (by show (obsR 2 _)[j]? = _; exact obsR_get (List.getElem?_set_self (by rw [hl]; exact hj))) (.of _ _ (.rowE (by
    intro e he
    rcases List.mem_append.1 he with h | h
    · exact lo_mapE (fun a => (lo_F a).cells) e h
    · simp at h; subst h; exact (lo_F _).cells) rfl)) ?_
  refine sto4 (fun _ => .of _ _ (obRn_agg (.cons (.own _ _ _ _ _ (mv_ne (by omega) (by omega)) rfl) (.cons (.own _ _ _ _ _ (mv_ne (by omega) (by omega)) rfl) (.cons (.lo _ (.s _)) (.cons (.lo _ (.s _)) .nil)))))) (fun _ => .of _ _ (.rowE zP_lo rfl)) (fun _ => .of _ _ (.rowE (lo_mapE (fun a => (lo_F a).cells)) rfl)) (fun _ => ?_) (fun t a b ht ha hb => ?_)
  · have := ownR_mv (m := 4) (sz := 2) (sz0 := 1) (rows := dRows p T [s] j) (j := j) (k := K) (r := (dCol p T j).map eF ++ [eF (dX p j s)]) (by rw [hl]; exact hj) (by rw [hl]; exact hK)
    rwa [List.length_append] at this
  · rw [List.getElem?_set_ne (by omega)] at ha
    replace hb : (obsR 2 ((dRows p T [s] j).set j ((dCol p T j).map eF ++ [eF (dX p j s)])))[t]? = some b := hb
    rw [obsR_set, List.getElem?_set_ne (by omega)] at hb
    exact obsR_mv (dRows_lo _ _ _ _) ha hb
namespace Km
set_option maxHeartbeats 4000000 in
theorem dual1_call (p : LP) (hv : validP p = true) (T : List Sp) (hT : T.length ≤ 30) (i : Nat) (hi : i < p.a.length) (tn : Bool) :
    CallK P 36 [eI i, eB tn, .ptr 0 4 0 0, .ref (eP p).cells] (stD p T (dRows p T [] 0)) (.tup []) (stD p (T ++ [(i, tn)]) (dRows p (T ++ [(i, tn)]) [] 0)) := by
  obtain ⟨⟨q1, q2, q3, q4, q5, q6, q7, q8⟩, qr⟩ := validP_iff hv
  obtain ⟨o1, o2, o3, o4⟩ := validP_ok hv hi
  have hlp : Lo 0 (.ref (eP p).cells) := .ref _ (lo_P p).cells
  have hlf : Lo 0 (.fn 37 [.ref [eB tn]]) := .fn _ _ (by intro c hc; simp at hc; subst hc; exact .ref _ (by intro c hc; simp at hc; subst hc; exact .s _))
  have hs1 := dsign_pf (P := P) (gti p.b i) tn ⟨o1.1, o1.2.1⟩
  have hok2 : (if tn = true then fneg (gti p.b i) else gti p.b i).ok := by split; exact fneg_ok o1; exact o1
  have hs2 := dneg_pf (P := P) _ ⟨hok2.1, hok2.2.1⟩
  have hxC : eF (if tn = true then gti p.b i else fneg (gti p.b i)) = eF (fneg (if tn = true then fneg (gti p.b i) else gti p.b i)) := by cases tn <;> simp [fneg_neg]
  have hixb : (p.b.map eF)[i]? = some (eF (gti p.b i)) := ix_map (by omega)
  have hixa : (p.a.map (eL eF))[i]? = some (eL eF (gti p.a i)) := ix_map hi
  have hcl := dC_len p T
  have hcm : ((dC p T).map eF).length = (dC p T).length := by simp
  have hK : (stD p T (dRows p T [] 0)).length = p.c.length + 4 := stD_len _ _ _ (dRows_len _ _ _ _)
  refine callK_fn (by rw [IsP.eq (P := P)]; exact Try.func36) rfl rfl (Nat.le_of_ble_eq_true rfl) rfl ?_
  simp only [argF]
  refine kw_seq ?_
  all_goals refine kw_region ?_
  all_goals refine kops_op rfl rfl (runs_none rfl) (does_box rfl rfl rfl rfl) ?_
  all_goals refine kops_nil ?_
  all_goals (repeat (first | refine kw_seq ?_ | refine ath_n ?_ | refine kw_skip ?_ | refine abl_n ?_ | refine kw_block ?_))
  refine kw_weak ((kwk_last (d := 5) rfl).trans (kwk_cut (F' := [(0, eI i), (2, .ptr 0 4 0 0), (3, .ref (eP p).cells), (5, .ref [eB tn])]) (by rw [hK]; omega) (stD_loOb _ _ _ (dRows_len _ _ _ _) (dRows_lo _ _ _ _)) ⟨⟨rfl, lo_up (by repeat' (first | exact Lo.s _ | exact Lo.emp | exact Lo.any | exact lo_nil | exact lo_nilE | refine lo_cons ?_ ?_ | refine lo_consE ?_ ?_ | refine lo_map ?_ | refine lo_mapE ?_ | refine Lo.cells ?_ | refine Lo.agg _ ?_ | refine Lo.ref _ ?_ | refine Lo.tup _ ?_ | refine Lo.fn _ _ ?_ | refine Lo.sl _ ?_ | intro _))⟩, ⟨rfl, .ptr _ _ _ _ (by rw [hK]; omega)⟩, ⟨rfl, lo_up hlp⟩, ⟨rfl, lo_up (by repeat' (first | exact Lo.s _ | exact Lo.emp | exact Lo.any | exact lo_nil | exact lo_nilE | refine lo_cons ?_ ?_ | refine lo_consE ?_ ?_ | refine lo_map ?_ | refine lo_mapE ?_ | refine Lo.cells ?_ | refine Lo.agg _ ?_ | refine Lo.ref _ ?_ | refine Lo.tup _ ?_ | refine Lo.fn _ _ ?_ | refine Lo.sl _ ?_ | intro _))⟩, trivial⟩)) ?_
  all_goals refine kw_region ?_
  all_goals refine kops_op rfl rfl (runs_none rfl) (does_func rfl rfl) ?_
  all_goals (first | refine kops_op rfl rfl (runs_none rfl) (mv_fn (.inr rfl) rfl) ?_ | refine kops_op rfl rfl (runs_none rfl) (mv_s (.inr rfl) rfl) ?_)
  all_goals refine kops_nil ?_
  all_goals (repeat (first | refine kw_seq ?_ | refine ath_n ?_ | refine kw_skip ?_ | refine abl_n ?_ | refine kw_block ?_))
  all_goals refine kw_draw hmix ?_
  all_goals refine kdraw_ex ?_
  all_goals (first | refine ex_free rfl rfl (runs_none rfl) (fun _ => (does_fieldAddr_ptr rfl tf26_0 (by decide) rfl)) ?_ | refine ex_free rfl rfl (runs_none rfl) (fun _ => (does_fieldAddr_ref rfl tf26_0 (by decide) rfl)) ?_)
  all_goals (first | refine ex_free rfl rfl (runs_none rfl) (fun _ => (does_load_ref rfl ta22 rfl)) ?_ | refine ex_look rfl rfl (runs_none rfl) (look_ptr rfl ta22 rfl rfl rfl rfl rfl) ?_)
  all_goals (first | refine ex_free rfl rfl (runs_none rfl) (fun _ => (mv_fn (.inl rfl) rfl)) ?_ | refine ex_free rfl rfl (runs_none rfl) (fun _ => (mv_s (.inl rfl) rfl)) ?_)
  all_goals (first | refine ex_free rfl rfl (runs_none rfl) (fun _ => (does_fieldAddr_ptr rfl tf26_3 (by decide) rfl)) ?_ | refine ex_free rfl rfl (runs_none rfl) (fun _ => (does_fieldAddr_ref rfl tf26_3 (by decide) rfl)) ?_)
  all_goals (first | refine ex_free rfl rfl (runs_none rfl) (fun _ => (does_load_ref rfl ta22 rfl)) ?_ | refine ex_look rfl rfl (runs_none rfl) (look_ptr rfl ta22 rfl rfl rfl rfl rfl) ?_)
  all_goals refine ex_free rfl rfl (runs_none rfl) (fun _ => (mv_s (.inl rfl) rfl)) ?_
  all_goals (first | refine ex_free rfl rfl (runs_none rfl) (fun _ => (does_index_sl rfl ts22 ti28 rfl rfl rfl hixb rfl)) ?_ | refine ex_free rfl rfl (runs_none rfl) (fun _ => (does_index_own rfl ts22 ti28 rfl rfl rfl hixb)) ?_)
  all_goals (first | refine ex_free rfl rfl (runs_none rfl) (fun _ => (does_load_refw rfl ta28 ti28 rfl rfl)) ?_ | refine ex_look rfl rfl (runs_none rfl) (look_whole rfl ta28 ti28 rfl rfl rfl rfl rfl) ?_ | refine ex_free rfl rfl (runs_none rfl) (fun _ => (does_load_refs rfl ta28 ti28 rfl (Nat.le_of_ble_eq_true rfl))) ?_ | refine ex_look rfl rfl (runs_none rfl) (look_ptrs rfl ta28 ti28 rfl rfl rfl rfl (Nat.le_of_ble_eq_true rfl)) ?_)
  all_goals refine ex_free rfl rfl (runs_none rfl) (fun _ => (does_call rfl rfl (hs1) (evc_cons rfl evc_nil))) ?_
  all_goals refine ex_free rfl rfl (runs_none rfl) (fun _ => (does_call rfl rfl (hs2) (evc_cons rfl evc_nil))) ?_
  all_goals (first | refine ex_free rfl rfl (runs_none rfl) (fun _ => (lit1_sF rfl ts22 ti28 rfl rfl rfl rfl)) ?_ | refine ex_free rfl rfl (runs_none rfl) (fun _ => (lit1_slF rfl ts22 ti28 rfl rfl rfl rfl (by repeat' (first | exact Lo.s _ | exact Lo.emp | exact Lo.any | exact lo_nil | exact lo_nilE | refine lo_cons ?_ ?_ | refine lo_consE ?_ ?_ | refine lo_map ?_ | refine lo_mapE ?_ | refine Lo.cells ?_ | refine Lo.agg _ ?_ | refine Lo.ref _ ?_ | refine Lo.tup _ ?_ | refine Lo.fn _ _ ?_ | refine Lo.sl _ ?_ | intro _)))) ?_ | refine ex_free rfl rfl (runs_none rfl) (fun _ => (does_litAF rfl ts22 ti28 rfl rfl (by decide) (by decide) rfl rfl rfl (by repeat' (first | exact Lo.s _ | exact Lo.emp | exact Lo.any | exact lo_nil | exact lo_nilE | refine lo_cons ?_ ?_ | refine lo_consE ?_ ?_ | refine lo_map ?_ | refine lo_mapE ?_ | refine Lo.cells ?_ | refine Lo.agg _ ?_ | refine Lo.ref _ ?_ | refine Lo.tup _ ?_ | refine Lo.fn _ _ ?_ | refine Lo.sl _ ?_ | intro _)))) ?_)
  all_goals (first | refine ex_eff rfl rfl (runs_none rfl) (does_append rfl ts22 ti28 rfl (by decide) rfl rfl (by first | rfl | (simp; done) | (simp; omega)) rfl (by first | exact .own _ _ _ rfl rfl _ (by first | rfl | simp) | exact .emp | exact .nil | exact .sl _ (by first | simp; done | intro e he; simp at he; obtain ⟨_, _, rfl⟩ := he; rfl)) (by first | omega | (simp; omega) | (unfold maxLen; simp; omega)) (by first | omega | (simp; omega) | (unfold maxLen; simp; omega))) (fun _ h => app2_other h) ?_ | refine ex_eff rfl rfl (runs_none rfl) (does_append0 rfl ts22 ti28 rfl (by decide) rfl (.inl rfl) rfl (by first | exact .own _ _ _ rfl rfl _ (by first | rfl | simp) | exact .emp | exact .nil | exact .sl _ (by first | simp; done | intro e he; simp at he; obtain ⟨_, _, rfl⟩ := he; rfl)) (by first | omega | (simp; omega) | (unfold maxLen; simp; omega)) (by first | omega | (simp; omega) | (unfold maxLen; simp; omega))) (fun _ h => app_other h) ?_ | refine ex_eff rfl rfl (runs_none rfl) (does_append0 rfl ts22 ti28 rfl (by decide) rfl (.inr rfl) rfl (by first | exact .own _ _ _ rfl rfl _ (by first | rfl | simp) | exact .emp | exact .nil | exact .sl _ (by first | simp; done | intro e he; simp at he; obtain ⟨_, _, rfl⟩ := he; rfl)) (by first | omega | (simp; omega) | (unfold maxLen; simp; omega)) (by first | omega | (simp; omega) | (unfold maxLen; simp; omega))) (fun _ h => app_other h) ?_)
  all_goals (first | refine ex_free rfl rfl (runs_none rfl) (fun _ => (does_fieldAddr_ptr rfl tf26_0 (by decide) rfl)) ?_ | refine ex_free rfl rfl (runs_none rfl) (fun _ => (does_fieldAddr_ref rfl tf26_0 (by decide) rfl)) ?_)
  all_goals refine ex_eff0 rfl (runs_none rfl) (does_store rfl ti22 rfl rfl rfl rfl rfl rfl (by decide) (by decide)) (fun _ h => set_other h) ?_
  all_goals refine ex_nil (by kernel_rfl) ?_
  all_goals (repeat (first | refine kw_seq ?_ | refine ath_n ?_ | refine kw_skip ?_ | refine abl_n ?_ | refine kw_block ?_))
  refine kw_weak (kwk_ren2 (mv _ 2) (mv_ne (by omega) (by omega)) (mv_ne (by omega) (by omega)) (mv_nd _ _) (stDC_ren (s := (i, tn)) hK hxC) (F' := [(0, eI i), (2, .ptr 0 4 0 0), (3, .ref (eP p).cells), (6, .fn 37 [.ref [eB tn]])]) ⟨.lo _ (by repeat' (first | exact Lo.s _ | exact Lo.emp | exact Lo.any | exact lo_nil | exact lo_nilE | refine lo_cons ?_ ?_ | refine lo_consE ?_ ?_ | refine lo_map ?_ | refine lo_mapE ?_ | refine Lo.cells ?_ | refine Lo.agg _ ?_ | refine Lo.ref _ ?_ | refine Lo.tup _ ?_ | refine Lo.fn _ _ ?_ | refine Lo.sl _ ?_ | intro _)), .ptr 0 0 4 0 0 (mv_ne (by omega) (by omega)), .lo _ hlp, .lo _ hlf, trivial⟩) ?_
  all_goals refine kw_region ?_
  all_goals (first | refine kops_op rfl rfl (runs_none rfl) (does_fieldAddr_ptr rfl tf26_1 (by decide) rfl) ?_ | refine kops_op rfl rfl (runs_none rfl) (does_fieldAddr_ref rfl tf26_1 (by decide) rfl) ?_)
  all_goals (first | refine kops_op rfl rfl (runs_none rfl) (does_load_ref rfl ta23 rfl) ?_ | refine kops_op rfl rfl (runs_none rfl) (does_load_ptr rfl ta23 rfl rfl rfl rfl rfl) ?_)
  all_goals refine kops_op rfl rfl (runs_none rfl) (mv_s (.inl rfl) rfl) ?_
  all_goals (first | refine kops_op rfl rfl (runs_none rfl) (does_index_sl rfl ts23 ti22 rfl rfl rfl hixa rfl) ?_ | refine kops_op rfl rfl (runs_none rfl) (does_index_own rfl ts23 ti22 rfl rfl rfl hixa) ?_)
  all_goals (first | refine kops_op rfl rfl (runs_none rfl) (does_load_ref rfl ta22 rfl) ?_ | refine kops_op rfl rfl (runs_none rfl) (does_load_ptr rfl ta22 rfl rfl rfl rfl rfl) ?_)
  all_goals (first | refine kops_op rfl rfl (runs_none rfl) (does_len_map rfl ts22 rfl) ?_ | refine kops_op rfl rfl (runs_none rfl) (does_len_sl rfl ts22 rfl) ?_ | refine kops_op rfl rfl (runs_none rfl) (does_len_own rfl ts22 rfl) ?_ | refine kops_op rfl rfl (runs_none rfl) (does_len_s rfl ts22 rfl) ?_ | refine kops_op rfl rfl (runs_none rfl) (does_len_emp rfl ts22 rfl) ?_)
  all_goals refine kops_op rfl rfl (runs_none rfl) (mv_s (.inl rfl) rfl) ?_
  all_goals refine kops_nil ?_
  all_goals (repeat (first | refine kw_seq ?_ | refine ath_n ?_ | refine kw_skip ?_ | refine abl_n ?_ | refine kw_block ?_))
  refine kw_loops (S := Nat) (fun j => [(2, .ptr 0 4 0 0), (6, .fn 37 [.ref [eB tn]]), (27, eL eF (gti p.a i)), (28, eI p.c.length), (29, eI j)]) (fun j => stD p (T ++ [(i, tn)]) (dRows p T [(i, tn)] j)) (fun j => j ≤ p.c.length) (fun j => p.c.length - j) 0 (kwk_sub (by rw [← o3]; exact ⟨rfl, rfl, rfl, rfl, rfl, trivial⟩)) (Nat.zero_le _) (fun j hj => ?_)
  repeat (first | refine kw_seq ?_ | refine ath_n ?_ | refine kw_skip ?_ | refine abl_n ?_ | refine kw_block ?_)
  all_goals refine kw_region ?_
  all_goals (first | refine kops_opP rfl rfl (runs_none rfl) (does_lss rfl rfl rfl) (fun h30 => ?_) (fun h30 => ?_) | refine kops_opB rfl rfl (runs_none rfl) (does_lss rfl rfl rfl) (fun h30 => ?_) (fun h30 => ?_))
  all_goals refine kops_nil ?_
  all_goals (repeat (first | refine kw_seq ?_ | refine ath_n ?_ | refine kw_skip ?_ | refine abl_n ?_ | refine kw_block ?_))
  all_goals (first | refine kw_true rfl ?_ | refine kw_false rfl ?_)
  all_goals (repeat (first | refine kw_seq ?_ | refine ath_n ?_ | refine kw_skip ?_ | refine abl_n ?_ | refine kw_block ?_))
  · have hlt : j < p.c.length := by omega
    have oj := o2 j hlt
    have hixj : ((gti p.a i).map eF)[j]? = some (eF (gti (gti p.a i) j)) := ix_map (by omega)
    have hKj : (stD p (T ++ [(i, tn)]) (dRows p T [(i, tn)] j)).length = p.c.length + 4 := stD_len _ _ _ (dRows_len _ _ _ _)
    have hs3 := dsign_pf (P := P) (gti (gti p.a i) j) tn ⟨oj.1, oj.2.1⟩
    have hrow : ∀ s, (dRows p T [s] j)[j]? = some ((dCol p T j).map eF) := fun s => by rw [dRows_get hlt, if_neg (by omega)]
    have hcoll : ((dCol p T j).map eF).length = T.length := by simp [dCol]
    have hcol2 : (dCol p T j).length = T.length := by simp [dCol]
    all_goals refine kw_region ?_
    all_goals refine kops_op rfl rfl (runs_none rfl) (mv_s (.inl rfl) rfl) ?_
    all_goals (first | refine kops_op rfl rfl (runs_none rfl) (does_index_sl rfl ts22 ti28 rfl rfl rfl hixj rfl) ?_ | refine kops_op rfl rfl (runs_none rfl) (does_index_own rfl ts22 ti28 rfl rfl rfl hixj) ?_)
    all_goals (first | refine kops_op rfl rfl (runs_none rfl) (does_load_refw rfl ta28 ti28 rfl rfl) ?_ | refine kops_op rfl rfl (runs_none rfl) (does_load_whole rfl ta28 ti28 rfl rfl rfl rfl rfl) ?_ | refine kops_op rfl rfl (runs_none rfl) (does_load_refs rfl ta28 ti28 rfl (Nat.le_of_ble_eq_true rfl)) ?_ | refine kops_op rfl rfl (runs_none rfl) (does_load_ptrs rfl ta28 ti28 rfl rfl rfl rfl (Nat.le_of_ble_eq_true rfl)) ?_)
    all_goals refine kops_op rfl rfl (runs_none rfl) (does_alloc rfl ti28 rfl rfl) ?_
    all_goals refine kops_op rfl rfl (runs_none rfl) (mv_s (.inr rfl) rfl) ?_
    all_goals refine kops_eff rfl (runs_none rfl) (does_store rfl ti28 rfl rfl (last_get _ _) rfl rfl rfl (by decide) (by decide)) ?_
    all_goals refine kops_nil ?_
    all_goals (repeat (first | refine kw_seq ?_ | refine ath_n ?_ | refine kw_skip ?_ | refine abl_n ?_ | refine kw_block ?_))
    rw [set_last]
    refine kw_weak ((kwk_last (d := 8) rfl).trans (kwk_cut (F' := [(2, .ptr 0 4 0 0), (6, .fn 37 [.ref [eB tn]]), (7, eI j), (8, .ref (eF (gti (gti p.a i) j)).cells), (27, eL eF (gti p.a i)), (28, eI p.c.length), (29, eI j)]) (by rw [hKj]; omega) (stD_loOb _ _ _ (dRows_len _ _ _ _) (dRows_lo _ _ _ _)) ⟨⟨rfl, .ptr _ _ _ _ (by rw [hKj]; omega)⟩, ⟨rfl, lo_up hlf⟩, ⟨rfl, lo_up (by repeat' (first | exact Lo.s _ | exact Lo.emp | exact Lo.any | exact lo_nil | exact lo_nilE | refine lo_cons ?_ ?_ | refine lo_consE ?_ ?_ | refine lo_map ?_ | refine lo_mapE ?_ | refine Lo.cells ?_ | refine Lo.agg _ ?_ | refine Lo.ref _ ?_ | refine Lo.tup _ ?_ | refine Lo.fn _ _ ?_ | refine Lo.sl _ ?_ | intro _))⟩, ⟨rfl, lo_up (by repeat' (first | exact Lo.s _ | exact Lo.emp | exact Lo.any | exact lo_nil | exact lo_nilE | refine lo_cons ?_ ?_ | refine lo_consE ?_ ?_ | refine lo_map ?_ | refine lo_mapE ?_ | refine Lo.cells ?_ | refine Lo.agg _ ?_ | refine Lo.ref _ ?_ | refine Lo.tup _ ?_ | refine Lo.fn _ _ ?_ | refine Lo.sl _ ?_ | intro _))⟩, ⟨rfl, lo_up (lo_Fs _)⟩, ⟨rfl, lo_up (by repeat' (first | exact Lo.s _ | exact Lo.emp | exact Lo.any | exact lo_nil | exact lo_nilE | refine lo_cons ?_ ?_ | refine lo_consE ?_ ?_ | refine lo_map ?_ | refine lo_mapE ?_ | refine Lo.cells ?_ | refine Lo.agg _ ?_ | refine Lo.ref _ ?_ | refine Lo.tup _ ?_ | refine Lo.fn _ _ ?_ | refine Lo.sl _ ?_ | intro _))⟩, ⟨rfl, lo_up (by repeat' (first | exact Lo.s _ | exact Lo.emp | exact Lo.any | exact lo_nil | exact lo_nilE | refine lo_cons ?_ ?_ | refine lo_consE ?_ ?_ | refine lo_map ?_ | refine lo_mapE ?_ | refine Lo.cells ?_ | refine Lo.agg _ ?_ | refine Lo.ref _ ?_ | refine Lo.tup _ ?_ | refine Lo.fn _ _ ?_ | refine Lo.sl _ ?_ | intro _))⟩, trivial⟩)) ?_
    all_goals refine kw_draw hmix ?_
    all_goals refine kdraw_ex ?_
    all_goals (first | refine ex_free rfl rfl (runs_none rfl) (fun _ => (does_fieldAddr_ptr rfl tf26_1 (by decide) rfl)) ?_ | refine ex_free rfl rfl (runs_none rfl) (fun _ => (does_fieldAddr_ref rfl tf26_1 (by decide) rfl)) ?_)
    all_goals (first | refine ex_free rfl rfl (runs_none rfl) (fun _ => (does_load_ref rfl ta23 rfl)) ?_ | refine ex_look rfl rfl (runs_none rfl) (look_ptr rfl ta23 rfl rfl rfl rfl rfl) ?_)
    all_goals refine ex_free rfl rfl (runs_none rfl) (fun _ => (mv_s (.inl rfl) rfl)) ?_
    all_goals (first | refine ex_free rfl rfl (runs_none rfl) (fun _ => (does_fieldAddr_ptr rfl tf26_1 (by decide) rfl)) ?_ | refine ex_free rfl rfl (runs_none rfl) (fun _ => (does_fieldAddr_ref rfl tf26_1 (by decide) rfl)) ?_)
    all_goals (first | refine ex_free rfl rfl (runs_none rfl) (fun _ => (does_load_ref rfl ta23 rfl)) ?_ | refine ex_look rfl rfl (runs_none rfl) (look_ptr rfl ta23 rfl rfl rfl rfl rfl) ?_)
    all_goals refine ex_free rfl rfl (runs_none rfl) (fun _ => (mv_s (.inl rfl) rfl)) ?_
    all_goals (first | refine ex_free rfl rfl (runs_none rfl) (fun _ => (does_index_sl rfl ts23 ti22 rfl rfl rfl (ix_map (by omega)) rfl)) ?_ | refine ex_free rfl rfl (runs_none rfl) (fun _ => (does_index_own rfl ts23 ti22 rfl rfl rfl (by omega))) ?_)
    all_goals (first | refine ex_free rfl rfl (runs_none rfl) (fun _ => (does_load_ref rfl ta22 rfl)) ?_ | refine ex_look rfl rfl (runs_none rfl) (look_ptr rfl ta22 rfl rfl rfl (ownR_get (hrow _)) rfl) ?_)
    all_goals (first | refine ex_free rfl rfl (runs_none rfl) (fun _ => (mv_fn (.inl rfl) rfl)) ?_ | refine ex_free rfl rfl (runs_none rfl) (fun _ => (mv_s (.inl rfl) rfl)) ?_)
    all_goals (first | refine ex_free rfl rfl (runs_none rfl) (fun _ => (does_load_refw rfl ta28 ti28 rfl rfl)) ?_ | refine ex_look rfl rfl (runs_none rfl) (look_whole rfl ta28 ti28 rfl rfl rfl rfl rfl) ?_ | refine ex_free rfl rfl (runs_none rfl) (fun _ => (does_load_refs rfl ta28 ti28 rfl (Nat.le_of_ble_eq_true rfl))) ?_ | refine ex_look rfl rfl (runs_none rfl) (look_ptrs rfl ta28 ti28 rfl rfl rfl rfl (Nat.le_of_ble_eq_true rfl)) ?_)
    all_goals refine ex_free rfl rfl (runs_none rfl) (fun _ => (does_call rfl rfl (hs3) (evc_cons rfl evc_nil))) ?_
    all_goals (first | refine ex_free rfl rfl (runs_none rfl) (fun _ => (lit1_sF rfl ts22 ti28 rfl rfl rfl rfl)) ?_ | refine ex_free rfl rfl (runs_none rfl) (fun _ => (lit1_slF rfl ts22 ti28 rfl rfl rfl rfl (by repeat' (first | exact Lo.s _ | exact Lo.emp | exact Lo.any | exact lo_nil | exact lo_nilE | refine lo_cons ?_ ?_ | refine lo_consE ?_ ?_ | refine lo_map ?_ | refine lo_mapE ?_ | refine Lo.cells ?_ | refine Lo.agg _ ?_ | refine Lo.ref _ ?_ | refine Lo.tup _ ?_ | refine Lo.fn _ _ ?_ | refine Lo.sl _ ?_ | intro _)))) ?_ | refine ex_free rfl rfl (runs_none rfl) (fun _ => (does_litAF rfl ts22 ti28 rfl rfl (by decide) (by decide) rfl rfl rfl (by repeat' (first | exact Lo.s _ | exact Lo.emp | exact Lo.any | exact lo_nil | exact lo_nilE | refine lo_cons ?_ ?_ | refine lo_consE ?_ ?_ | refine lo_map ?_ | refine lo_mapE ?_ | refine Lo.cells ?_ | refine Lo.agg _ ?_ | refine Lo.ref _ ?_ | refine Lo.tup _ ?_ | refine Lo.fn _ _ ?_ | refine Lo.sl _ ?_ | intro _)))) ?_)
    all_goals refine ex_eff rfl rfl (runs_none rfl) (does_append rfl ts22 ti28 rfl (by decide) rfl (stD_row (hrow _)) rfl rfl (by first | exact .own _ _ _ rfl rfl _ (by first | rfl | simp) | exact .emp | exact .nil | exact .sl _ (by first | simp; done | intro e he; simp at he; obtain ⟨_, _, rfl⟩ := he; rfl)) (by first | omega | (simp; omega) | (unfold maxLen; simp; omega)) (by first | omega | (simp; omega) | (unfold maxLen; simp; omega))) (fun _ h => app2_other h) ?_
    all_goals (first | refine ex_free rfl rfl (runs_none rfl) (fun _ => (does_index_sl rfl ts23 ti22 rfl rfl rfl (ix_map (by omega)) rfl)) ?_ | refine ex_free rfl rfl (runs_none rfl) (fun _ => (does_index_own rfl ts23 ti22 rfl rfl rfl (by omega))) ?_)
    all_goals refine ex_eff0 rfl (runs_none rfl) (does_store rfl ti22 rfl rfl rfl (ownR_get (hrow _)) rfl rfl (by decide) (by decide)) (fun _ h => set_other h) ?_
    all_goals refine ex_nil (by kernel_rfl) ?_
    all_goals (repeat (first | refine kw_seq ?_ | refine ath_n ?_ | refine kw_skip ?_ | refine abl_n ?_ | refine kw_block ?_))
    all_goals refine kw_region ?_
    all_goals refine kops_op rfl rfl (runs_none rfl) (does_add rfl rfl rfl (IntWalk.i64_in _ (by omega))) ?_
    all_goals refine kops_op rfl rfl (runs_none rfl) (mv_s (.inl rfl) rfl) ?_
    all_goals refine kops_nil ?_
    all_goals (repeat (first | refine kw_seq ?_ | refine ath_n ?_ | refine kw_skip ?_ | refine abl_n ?_ | refine kw_block ?_))
    exact ⟨j + 1, by omega, by omega, kwk_ren2 (mv _ (j + 4)) (mv_ne (by omega) (by omega)) (mv_ne (by omega) (by omega)) (mv_nd _ _) (stDA_ren hlt hKj rfl) ⟨.ptr 0 0 4 0 0 (mv_ne (by omega) (by omega)), .lo _ hlf, .lo _ (lo_Fs _), .lo _ (by repeat' (first | exact Lo.s _ | exact Lo.emp | exact Lo.any | exact lo_nil | exact lo_nilE | refine lo_cons ?_ ?_ | refine lo_consE ?_ ?_ | refine lo_map ?_ | refine lo_mapE ?_ | refine Lo.cells ?_ | refine Lo.agg _ ?_ | refine Lo.ref _ ?_ | refine Lo.tup _ ?_ | refine Lo.fn _ _ ?_ | refine Lo.sl _ ?_ | intro _)), .lo _ (by repeat' (first | exact Lo.s _ | exact Lo.emp | exact Lo.any | exact lo_nil | exact lo_nilE | refine lo_cons ?_ ?_ | refine lo_consE ?_ ?_ | refine lo_map ?_ | refine lo_mapE ?_ | refine Lo.cells ?_ | refine Lo.agg _ ?_ | refine Lo.ref _ ?_ | refine Lo.tup _ ?_ | refine Lo.fn _ _ ?_ | refine Lo.sl _ ?_ | intro _)), trivial⟩⟩
  · have e : j = p.c.length := by omega
    subst e
    rw [dRows_n]
    refine kw_exit ?_
    repeat (first | refine ath_x ?_ | refine abl_hit ?_ | refine abl_miss rfl ?_ | refine abl_n ?_ | refine ath_n ?_ | refine kw_seq ?_ | refine kw_skip ?_ | refine kw_block ?_)
    exact ⟨.inl rfl, rfl⟩
end Km
end Go.Proofs.Ytcpnffjnagbkoaa.Aw
end
section
namespace Go.Proofs.Ytcpnffjnagbkoaa.Aw
set_option linter.unusedSimpArgs false
set_option linter.unusedVariables false
set_option linter.unusedSectionVars false
open Go Go.RowKit Go.Proofs
variable {P : Program} [IsP P]

theorem dclone_pf (l : List Fr) (h : l.length ≤ 20) (hn : 1 ≤ l.length) : Pure P 40 [eL eF l] (eL eF l) := by
  have hnn : NonNil (eL eF l) := by
    cases l with
    | nil => simp at hn
    | cons a t => exact .sl _ _
  refine aw_fn (by rw [IsP.eq (P := P)]; exact Try.func40) rfl rfl rfl rfl rfl (by repeat' (first | exact Lo.s _ | exact Lo.emp | exact Lo.any | exact lo_nil | exact lo_nilE | refine lo_cons ?_ ?_ | refine lo_consE ?_ ?_ | refine lo_map ?_ | refine lo_mapE ?_ | refine Lo.cells ?_ | refine Lo.agg _ ?_ | refine Lo.ref _ ?_ | refine Lo.tup _ ?_ | refine Lo.fn _ _ ?_ | refine Lo.sl _ ?_ | intro _)) (by repeat' (first | exact Lo.s _ | exact Lo.emp | exact Lo.any | exact lo_nil | exact lo_nilE | refine lo_cons ?_ ?_ | refine lo_consE ?_ ?_ | refine lo_map ?_ | refine lo_mapE ?_ | refine Lo.cells ?_ | refine Lo.agg _ ?_ | refine Lo.ref _ ?_ | refine Lo.tup _ ?_ | refine Lo.fn _ _ ?_ | refine Lo.sl _ ?_ | intro _)) (by simp only [argF]; rfl) ?_
  repeat (first | refine aw_seq ?_ | refine ath_n ?_ | refine aw_skip ?_ | refine abl_n ?_ | refine aw_block ?_)
  refine aw_region ?_
  first | refine ops_op rfl rfl (runs_none rfl) (mv_own (.inr rfl) rfl) ?_ | refine ops_op rfl rfl (runs_none rfl) (mv_sl (.inr rfl) rfl) ?_ | refine ops_op rfl rfl (runs_none rfl) (mv_s (.inr rfl) rfl) ?_ | refine ops_op rfl rfl (runs_none rfl) (mv_emp (.inr rfl) rfl) ?_
  refine ops_nil ?_
  repeat (first | refine aw_seq ?_ | refine ath_n ?_ | refine aw_skip ?_ | refine abl_n ?_ | refine aw_block ?_)
  refine aw_region ?_
  refine ops_op rfl rfl (runs_none rfl) (mv_sl (.inl rfl) rfl) ?_
  refine ops_op rfl rfl (runs_none rfl) (does_eqnil rfl ts22 rfl hnn rfl (.inl ⟨rfl, rfl⟩)) ?_
  refine ops_nil ?_
  repeat (first | refine aw_seq ?_ | refine ath_n ?_ | refine aw_skip ?_ | refine abl_n ?_ | refine aw_block ?_)
  refine aw_false rfl ?_
  repeat (first | refine aw_seq ?_ | refine ath_n ?_ | refine aw_skip ?_ | refine abl_n ?_ | refine aw_block ?_)
  refine aw_region ?_
  refine ops_op rfl rfl (runs_none rfl) (does_lit0 rfl rfl ts22 ti28) ?_
  first | refine ops_op rfl rfl (runs_none rfl) (mv_own (.inl rfl) rfl) ?_ | refine ops_op rfl rfl (runs_none rfl) (mv_sl (.inl rfl) rfl) ?_ | refine ops_op rfl rfl (runs_none rfl) (mv_s (.inl rfl) rfl) ?_ | refine ops_op rfl rfl (runs_none rfl) (mv_emp (.inl rfl) rfl) ?_
  first | refine ops_op rfl rfl (runs_none rfl) (does_append rfl ts22 ti28 rfl (by decide) rfl rfl (by first | rfl | (simp; done) | (simp; omega)) rfl (by first | exact .own _ _ _ rfl rfl _ (by first | rfl | simp) | exact .emp | exact .nil | exact .sl _ (by first | simp; done | intro e he; simp at he; obtain ⟨_, _, rfl⟩ := he; rfl)) (by first | omega | (simp; omega) | (unfold maxLen; simp; omega)) (by first | omega | (simp; omega) | (unfold maxLen; simp; omega))) ?_ | refine ops_op rfl rfl (runs_none rfl) (does_append0 rfl ts22 ti28 rfl (by decide) rfl (.inl rfl) rfl (by first | exact .own _ _ _ rfl rfl _ (by first | rfl | simp) | exact .emp | exact .nil | exact .sl _ (by first | simp; done | intro e he; simp at he; obtain ⟨_, _, rfl⟩ := he; rfl)) (by first | omega | (simp; omega) | (unfold maxLen; simp; omega)) (by first | omega | (simp; omega) | (unfold maxLen; simp; omega))) ?_ | refine ops_op rfl rfl (runs_none rfl) (does_append0 rfl ts22 ti28 rfl (by decide) rfl (.inr rfl) rfl (by first | exact .own _ _ _ rfl rfl _ (by first | rfl | simp) | exact .emp | exact .nil | exact .sl _ (by first | simp; done | intro e he; simp at he; obtain ⟨_, _, rfl⟩ := he; rfl)) (by first | omega | (simp; omega) | (unfold maxLen; simp; omega)) (by first | omega | (simp; omega) | (unfold maxLen; simp; omega))) ?_
  first | refine ops_op rfl rfl (runs_none rfl) (mv_own (.inr rfl) rfl) ?_ | refine ops_op rfl rfl (runs_none rfl) (mv_sl (.inr rfl) rfl) ?_ | refine ops_op rfl rfl (runs_none rfl) (mv_s (.inr rfl) rfl) ?_ | refine ops_op rfl rfl (runs_none rfl) (mv_emp (.inr rfl) rfl) ?_
  refine ops_nil ?_
  repeat (first | refine aw_seq ?_ | refine ath_n ?_ | refine aw_skip ?_ | refine abl_n ?_ | refine aw_block ?_)
  (refine aw_ret ?_; repeat (first | refine ath_r ?_ | refine abl_r ?_))
  exact post1f (.inr rfl) rfl (.own _ _ _ _ _ rfl rfl (by simp))
set_option maxHeartbeats 4000000 in
theorem sDual_pf (p : LP) : Pure P 11 [eP p] (ePI (dlE p)) := by
  have HI : dlE p = if validP p = true then (if 12 < (dC p (stp p p.a.length)).length then (zLP, 5) else (dlP p, 0)) else (zLP, 1) := rfl
  generalize dlE p = R at HI ⊢
  refine aw_fn (by rw [IsP.eq (P := P)]; exact Try.func11) rfl rfl rfl rfl rfl (lo_cons (lo_P p) lo_nil) (.tup _ (lo_cons (lo_P _) (lo_cons (.s _) lo_nil))) (by simp only [argF]; rfl) ?_
  repeat (first | refine aw_seq ?_ | refine ath_n ?_ | refine aw_skip ?_ | refine abl_n ?_ | refine aw_block ?_)
  have hlp : Lo 0 (.ref (eP p).cells) := .ref _ (lo_P p).cells
  refine aw_region ?_
  refine ops_op rfl rfl (runs_none rfl) (does_box rfl rfl rfl rfl) ?_
  refine aops_weak (wk_froz (id := 0) rfl) (aops_weak (wk_ref (d := 1) rfl rfl rfl) ?_)
  refine ops_op rfl rfl (runs_none rfl) (does_alloc rfl ti26 rfl rfl) ?_
  refine ops_op rfl rfl (runs_none rfl) (mv_s (.inr rfl) rfl) ?_
  refine ops_nil ?_
  repeat (first | refine aw_seq ?_ | refine ath_n ?_ | refine aw_skip ?_ | refine abl_n ?_ | refine aw_block ?_)
  all_goals refine aw_region ?_
  all_goals (first | refine ops_op rfl rfl (runs_none rfl) (does_load_refw rfl ta26 ti26 rfl rfl) ?_ | refine ops_op rfl rfl (runs_none rfl) (does_load_whole rfl ta26 ti26 rfl rfl rfl rfl rfl) ?_ | refine ops_op rfl rfl (runs_none rfl) (does_load_refs rfl ta26 ti26 rfl (Nat.le_of_ble_eq_true rfl)) ?_ | refine ops_op rfl rfl (runs_none rfl) (does_load_ptrs rfl ta26 ti26 rfl rfl rfl rfl (Nat.le_of_ble_eq_true rfl)) ?_)
  all_goals (first | refine ops_opP rfl rfl (runs_none rfl) (does_call rfl rfl (sValid_pf _) (evc_cons rfl evc_nil)) (fun h9 => ?_) (fun h9 => ?_) | refine ops_opB rfl rfl (runs_none rfl) (does_call rfl rfl (sValid_pf _) (evc_cons rfl evc_nil)) (fun h9 => ?_) (fun h9 => ?_))
  all_goals (first | refine ops_op rfl rfl (runs_none rfl) (does_notp rfl rfl) ?_ | refine ops_op rfl rfl (runs_none rfl) (does_not rfl rfl) ?_)
  all_goals refine ops_nil ?_
  all_goals (repeat (first | refine aw_seq ?_ | refine ath_n ?_ | refine aw_skip ?_ | refine abl_n ?_ | refine aw_block ?_))
  all_goals (first | refine aw_true rfl ?_ | refine aw_false rfl ?_)
  all_goals (repeat (first | refine aw_seq ?_ | refine ath_n ?_ | refine aw_skip ?_ | refine abl_n ?_ | refine aw_block ?_))
  rotate_left 1
  · skip
    refine aw_region ?_
    refine ops_op rfl rfl (runs_none rfl) (does_build rfl ti26 tp26 rfl rfl) ?_
    refine ops_eff rfl (runs_none rfl) (does_store rfl ti26 rfl rfl rfl rfl rfl rfl (by decide) (by decide)) ?_
    refine ops_op rfl rfl (runs_none rfl) (mv_s (.inr rfl) rfl) ?_
    refine ops_nil ?_
    repeat (first | refine aw_seq ?_ | refine ath_n ?_ | refine aw_skip ?_ | refine abl_n ?_ | refine aw_block ?_)
    (refine aw_ret ?_; repeat (first | refine ath_r ?_ | refine abl_r ?_))
    exact post_zp (N := 0) (.inr rfl) ta26 ti26 rfl rfl rfl rfl rfl rfl (by rw [HI, if_neg (by rw [h9]; simp)])
  rw [if_pos h9] at HI
  obtain ⟨⟨q1, q2, q3, q4, q5, q6, q7, q8⟩, qr⟩ := validP_iff h9
  have hv := h9
  clear h9
  refine aw_region ?_
  refine ops_op rfl rfl (runs_none rfl) (does_alloc rfl ti26 rfl rfl) ?_
  refine ops_nil ?_
  repeat (first | refine aw_seq ?_ | refine ath_n ?_ | refine aw_skip ?_ | refine abl_n ?_ | refine aw_block ?_)
  refine aw_region ?_
  first | refine ops_op rfl rfl (runs_none rfl) (does_fieldAddr_ptr rfl tf26_0 (by decide) rfl) ?_ | refine ops_op rfl rfl (runs_none rfl) (does_fieldAddr_ref rfl tf26_0 (by decide) rfl) ?_
  first | refine ops_op rfl rfl (runs_none rfl) (does_load_ref rfl ta22 rfl) ?_ | refine ops_op rfl rfl (runs_none rfl) (does_load_ptr rfl ta22 rfl rfl rfl rfl rfl) ?_
  first | refine ops_op rfl rfl (runs_none rfl) (does_len_map rfl ts22 rfl) ?_ | refine ops_op rfl rfl (runs_none rfl) (does_len_sl rfl ts22 rfl) ?_ | refine ops_op rfl rfl (runs_none rfl) (does_len_own rfl ts22 rfl) ?_ | refine ops_op rfl rfl (runs_none rfl) (does_len_s rfl ts22 rfl) ?_ | refine ops_op rfl rfl (runs_none rfl) (does_len_emp rfl ts22 rfl) ?_
  refine ops_op rfl rfl (runs_none rfl) (does_make rfl ts23 ti22 rfl rfl (by decide) rfl rfl rfl rfl (by omega) (by omega) (by omega)) ?_
  first | refine ops_op rfl rfl (runs_none rfl) (does_fieldAddr_ptr rfl tf26_1 (by decide) rfl) ?_ | refine ops_op rfl rfl (runs_none rfl) (does_fieldAddr_ref rfl tf26_1 (by decide) rfl) ?_
  refine ops_eff rfl (runs_none rfl) (does_store rfl ti23 rfl rfl rfl rfl rfl rfl (by decide) (by decide)) ?_
  refine ops_nil ?_
  repeat (first | refine aw_seq ?_ | refine ath_n ?_ | refine aw_skip ?_ | refine abl_n ?_ | refine aw_block ?_)
  refine aw_weak (wk_ownC (id := 2) (sz2 := 2) (e' := .agg [.own 4 2 0, .own 3 1 p.c.length, .s (.slice none 0 0), .s (.slice none 0 0)]) (pre := []) (post := [.own 3 1 p.c.length, .s (.slice none 0 0), .s (.slice none 0 0)]) rfl rfl rfl) ?_
  refine aw_weak (F' := [(1, .ref (eP p).cells), (2, .ptr 1 4 0 0), (4, .ptr 0 4 0 0)]) (σ' := [.row 4 [.agg [.own 2 2 0, .own 3 1 p.c.length, .s (.slice none 0 0), .s (.slice none 0 0)]], .row 4 [zP], .row 2 [], .row 1 (List.replicate p.c.length (.s (.slice none 0 0)))]) (wk_st [2, 1, 4, 3] (by decide) ⟨⟨_, rfl, obRn_agg (.cons (.own _ _ _ _ _ rfl rfl) (.cons (.own _ _ _ _ _ rfl rfl) (.cons (.lo _ (.s _)) (.cons (.lo _ (.s _)) .nil))))⟩, ⟨_, rfl, .rowE zP_lo rfl⟩, ⟨_, rfl, .rowE (by simp) rfl⟩, ⟨_, rfl, .rowE (lo_nils _) rfl⟩, trivial⟩ ⟨.lo _ hlp, .ptr 1 1 4 0 0 rfl, .ptr 2 0 4 0 0 rfl, trivial⟩) ?_
  refine aw_weak (wk_nils (id := 3) (sz := 1) (sz2 := 2) (n := p.c.length) rfl) ?_
  have hst0 : stD p (stp p 0) (dRows p (stp p 0) [] 0) = [.row 4 [.agg [.own 2 2 0, .own 3 1 p.c.length, .s (.slice none 0 0), .s (.slice none 0 0)]], .row 4 [zP], .row 2 [], .row 1 (ownR 4 2 (List.replicate p.c.length []))] ++ obsR 2 (List.replicate p.c.length []) := by
    have e1 : dRows p (stp p 0) [] 0 = List.replicate p.c.length [] := by
      refine List.ext_getElem? fun t => ?_
      by_cases ht : t < p.c.length
      · rw [dRows_get ht]; simp [stp, dCol, List.getElem?_replicate, ht]
      · rw [List.getElem?_eq_none (by simp [dRows_len]; omega), List.getElem?_eq_none (by simp; omega)]
    rw [e1]; rfl
  obtain ⟨fn, hfn⟩ : ∃ fn, fn = AV.fn 36 [.ptr 0 4 0 0, .ref (eP p).cells] := ⟨_, rfl⟩
  have hlf : Lo 2 fn := by rw [hfn]; exact .fn _ _ (by intro c hc; simp at hc; rcases hc with rfl | rfl; exact .ptr _ _ _ _ (by omega); exact lo_up hlp)
  refine aw_region ?_
  refine ops_op rfl rfl (runs_none rfl) (does_func rfl rfl) ?_
  first | refine ops_op rfl rfl (runs_none rfl) (mv_fn (.inr rfl) rfl) ?_ | refine ops_op rfl rfl (runs_none rfl) (mv_s (.inr rfl) rfl) ?_
  refine ops_nil ?_
  repeat (first | refine aw_seq ?_ | refine ath_n ?_ | refine aw_skip ?_ | refine abl_n ?_ | refine aw_block ?_)
  refine aw_region ?_
  first | refine ops_op rfl rfl (runs_none rfl) (does_fieldAddr_ptr rfl tf26_2 (by decide) rfl) ?_ | refine ops_op rfl rfl (runs_none rfl) (does_fieldAddr_ref rfl tf26_2 (by decide) rfl) ?_
  first | refine ops_op rfl rfl (runs_none rfl) (does_load_ref rfl ta24 rfl) ?_ | refine ops_op rfl rfl (runs_none rfl) (does_load_ptr rfl ta24 rfl rfl rfl rfl rfl) ?_
  first | refine ops_op rfl rfl (runs_none rfl) (does_len_map rfl ts24 rfl) ?_ | refine ops_op rfl rfl (runs_none rfl) (does_len_sl rfl ts24 rfl) ?_ | refine ops_op rfl rfl (runs_none rfl) (does_len_own rfl ts24 rfl) ?_ | refine ops_op rfl rfl (runs_none rfl) (does_len_s rfl ts24 rfl) ?_ | refine ops_op rfl rfl (runs_none rfl) (does_len_emp rfl ts24 rfl) ?_
  refine ops_op rfl rfl (runs_none rfl) (mv_s (.inl rfl) rfl) ?_
  refine ops_nil ?_
  repeat (first | refine aw_seq ?_ | refine ath_n ?_ | refine aw_skip ?_ | refine abl_n ?_ | refine aw_block ?_)
  refine aw_loops (S := Nat) (fun i => [(1, .ref (eP p).cells), (2, .ptr 1 4 0 0), (4, .ptr 0 4 0 0), (5, .fn 36 [.ptr 0 4 0 0, .ref (eP p).cells]), (19, eL eI p.rel), (20, eI p.rel.length), (21, eI i)]) (fun i => stD p (stp p i) (dRows p (stp p i) [] 0)) (fun i => i ≤ p.a.length) (fun i => p.a.length - i) 0 (by rw [hst0]; exact wk_sub _ ⟨rfl, rfl, rfl, rfl, rfl, rfl, rfl, trivial⟩) (Nat.zero_le _) (fun i hi => ?_)
  repeat (first | refine aw_seq ?_ | refine ath_n ?_ | refine aw_skip ?_ | refine abl_n ?_ | refine aw_block ?_)
  have hTl0 := stp_len p i
  all_goals refine aw_region ?_
  all_goals (first | refine ops_opP rfl rfl (runs_none rfl) (does_lss rfl rfl rfl) (fun h22 => ?_) (fun h22 => ?_) | refine ops_opB rfl rfl (runs_none rfl) (does_lss rfl rfl rfl) (fun h22 => ?_) (fun h22 => ?_))
  all_goals refine ops_nil ?_
  all_goals (repeat (first | refine aw_seq ?_ | refine ath_n ?_ | refine aw_skip ?_ | refine abl_n ?_ | refine aw_block ?_))
  all_goals (first | refine aw_true rfl ?_ | refine aw_false rfl ?_)
  all_goals (repeat (first | refine aw_seq ?_ | refine ath_n ?_ | refine aw_skip ?_ | refine abl_n ?_ | refine aw_block ?_))
  · have hlt : i < p.a.length := by omega
    obtain ⟨o1, o2, o3, o4⟩ := validP_ok hv hlt
    have hsi : stp p (i + 1) = stp p i ++ dk (gti p.rel i) i := rfl
    have hixr : (p.rel.map eI)[i]? = some (eI (gti p.rel i)) := ix_map (by omega)
    generalize gti p.rel i = r at hsi hixr o4
    refine aw_region ?_
    refine ops_op rfl rfl (runs_none rfl) (mv_s (.inl rfl) rfl) ?_
    first | refine ops_op rfl rfl (runs_none rfl) (does_index_sl rfl ts24 ti3 rfl rfl rfl hixr rfl) ?_ | refine ops_op rfl rfl (runs_none rfl) (does_index_own rfl ts24 ti3 rfl rfl rfl hixr) ?_
    first | refine ops_op rfl rfl (runs_none rfl) (does_load_ref rfl ta3 rfl) ?_ | refine ops_op rfl rfl (runs_none rfl) (does_load_ptr rfl ta3 rfl rfl rfl rfl rfl) ?_
    refine ops_op rfl rfl (runs_none rfl) (mv_s (.inr rfl) rfl) ?_
    refine ops_op rfl rfl (runs_none rfl) (mv_s (.inr rfl) rfl) ?_
    refine ops_nil ?_
    repeat (first | refine aw_seq ?_ | refine ath_n ?_ | refine aw_skip ?_ | refine abl_n ?_ | refine aw_block ?_)
    all_goals refine aw_region ?_
    all_goals (first | refine ops_op rfl rfl (runs_none rfl) (mv_fn (.inl rfl) rfl) ?_ | refine ops_op rfl rfl (runs_none rfl) (mv_s (.inl rfl) rfl) ?_)
    all_goals refine ops_op rfl rfl (runs_none rfl) (mv_s (.inl rfl) rfl) ?_
    all_goals refine ops_op rfl rfl (runs_none rfl) (mv_s (.inl rfl) rfl) ?_
    all_goals refine ops_op rfl rfl (runs_none rfl) (does_eql rfl rfl rfl) ?_
    all_goals refine Km.ops_callK rfl rfl (runs_none rfl) rfl rfl (Km.dual1_call p hv (stp p i) (by omega) i hlt (decide (r = 1))) rfl (by rw [hfn] at hlf; repeat (first | exact Km.hF_nil | refine Km.hF_cons (by first | exact hlf | exact lo_up hlp | exact .ptr _ _ _ _ (by decide) | exact .s _ | exact lo_up (by repeat' (first | exact Lo.s _ | exact Lo.emp | exact Lo.any | exact lo_nil | exact lo_nilE | refine lo_cons ?_ ?_ | refine lo_consE ?_ ?_ | refine lo_map ?_ | refine lo_mapE ?_ | refine Lo.cells ?_ | refine Lo.agg _ ?_ | refine Lo.ref _ ?_ | refine Lo.tup _ ?_ | refine Lo.fn _ _ ?_ | refine Lo.sl _ ?_ | intro _))) ?_)) ?_
    all_goals refine ops_nil ?_
    all_goals (repeat (first | refine aw_seq ?_ | refine ath_n ?_ | refine aw_skip ?_ | refine abl_n ?_ | refine aw_block ?_))
    all_goals refine aw_region ?_
    all_goals refine ops_op rfl rfl (runs_none rfl) (mv_s (.inl rfl) rfl) ?_
    all_goals (first | refine ops_opP rfl rfl (runs_none rfl) (does_eql rfl rfl rfl) (fun h32 => ?_) (fun h32 => ?_) | refine ops_opB rfl rfl (runs_none rfl) (does_eql rfl rfl rfl) (fun h32 => ?_) (fun h32 => ?_))
    all_goals refine ops_nil ?_
    all_goals (repeat (first | refine aw_seq ?_ | refine ath_n ?_ | refine aw_skip ?_ | refine abl_n ?_ | refine aw_block ?_))
    all_goals (first | refine aw_true rfl ?_ | refine aw_false rfl ?_)
    all_goals (repeat (first | refine aw_seq ?_ | refine ath_n ?_ | refine aw_skip ?_ | refine abl_n ?_ | refine aw_block ?_))
    · skip
      all_goals refine aw_region ?_
      all_goals (first | refine ops_op rfl rfl (runs_none rfl) (mv_fn (.inl rfl) rfl) ?_ | refine ops_op rfl rfl (runs_none rfl) (mv_s (.inl rfl) rfl) ?_)
      all_goals refine ops_op rfl rfl (runs_none rfl) (mv_s (.inl rfl) rfl) ?_
      all_goals refine Km.ops_callK rfl rfl (runs_none rfl) rfl rfl (Km.dual1_call p hv (stp p i ++ [(i, decide (r = 1))]) (by simp; omega) i hlt true) rfl (by rw [hfn] at hlf; repeat (first | exact Km.hF_nil | refine Km.hF_cons (by first | exact hlf | exact lo_up hlp | exact .ptr _ _ _ _ (by decide) | exact .s _ | exact lo_up (by repeat' (first | exact Lo.s _ | exact Lo.emp | exact Lo.any | exact lo_nil | exact lo_nilE | refine lo_cons ?_ ?_ | refine lo_consE ?_ ?_ | refine lo_map ?_ | refine lo_mapE ?_ | refine Lo.cells ?_ | refine Lo.agg _ ?_ | refine Lo.ref _ ?_ | refine Lo.tup _ ?_ | refine Lo.fn _ _ ?_ | refine Lo.sl _ ?_ | intro _))) ?_)) ?_
      all_goals refine ops_nil ?_
      all_goals (repeat (first | refine aw_seq ?_ | refine ath_n ?_ | refine aw_skip ?_ | refine abl_n ?_ | refine aw_block ?_))
      refine aw_region ?_
      refine ops_op rfl rfl (runs_none rfl) (does_add rfl rfl rfl (IntWalk.i64_in _ (by omega))) ?_
      refine ops_op rfl rfl (runs_none rfl) (mv_s (.inl rfl) rfl) ?_
      refine ops_nil ?_
      repeat (first | refine aw_seq ?_ | refine ath_n ?_ | refine aw_skip ?_ | refine abl_n ?_ | refine aw_block ?_)
      refine ⟨i + 1, by omega, by omega, ?_⟩
      have e : stp p (i + 1) = stp p i ++ [(i, decide (r = 1))] ++ [(i, true)] := by rw [hsi, h32]; simp [dk]
      rw [e]
      exact wk_sub _ ⟨rfl, rfl, rfl, rfl, rfl, rfl, rfl, trivial⟩
    · skip
      refine aw_region ?_
      refine ops_op rfl rfl (runs_none rfl) (does_add rfl rfl rfl (IntWalk.i64_in _ (by omega))) ?_
      refine ops_op rfl rfl (runs_none rfl) (mv_s (.inl rfl) rfl) ?_
      refine ops_nil ?_
      repeat (first | refine aw_seq ?_ | refine ath_n ?_ | refine aw_skip ?_ | refine abl_n ?_ | refine aw_block ?_)
      refine ⟨i + 1, by omega, by omega, ?_⟩
      have e : stp p (i + 1) = stp p i ++ [(i, decide (r = 1))] := by rw [hsi]; simp [dk, h32]
      rw [e]
      exact wk_sub _ ⟨rfl, rfl, rfl, rfl, rfl, rfl, rfl, trivial⟩
  · have e : i = p.a.length := by omega
    subst e
    (refine aw_exit ?_; repeat (first | refine ath_x ?_ | refine abl_hit ?_ | refine abl_miss rfl ?_ | refine abl_n ?_ | refine ath_n ?_ | refine aw_seq ?_ | refine aw_skip ?_ | refine aw_block ?_))
    have hTn := stp_len p p.a.length
    have hcl := dC_len p (stp p p.a.length)
    have hcm : ((dC p (stp p p.a.length)).map eF).length = (dC p (stp p p.a.length)).length := by simp
    have hcd : (dlP p).c.length = (dC p (stp p p.a.length)).length := rfl
    refine aw_fzs (id := 3) (S := [.row 4 [.agg [.own 2 2 (dC p (stp p p.a.length)).length, .own 3 1 p.c.length, .s (.slice none 0 0), .s (.slice none 0 0)]], .row 4 [zP], .row 2 ((dC p (stp p p.a.length)).map eF), .row 1 (ownR 4 2 (dRows p (stp p p.a.length) [] 0))]) (sz := 1) (sz2 := 2) (rows := dRows p (stp p p.a.length) [] 0) rfl (fun X => ?_)
    rw [dRows_end]
    refine aw_weak (kwk_fzC (id := 0) (sz := 4) (i := 3) (sz2 := 1) (e' := .agg [.own 2 2 (dC p (stp p p.a.length)).length, eL (eL eF) (dlP p).a, .s (.slice none 0 0), .s (.slice none 0 0)]) (pre := [.own 2 2 (dC p (stp p p.a.length)).length]) (post := [.s (.slice none 0 0), .s (.slice none 0 0)]) (cs2 := (dlP p).a.map (eL eF)) rfl (by simp [AV.cells, dlP]) rfl (by decide) rfl).weak ?_
    refine aw_weak (kwk_fzC (id := 0) (sz := 4) (i := 2) (sz2 := 2) (e' := .agg [eL eF (dlP p).c, eL (eL eF) (dlP p).a, .s (.slice none 0 0), .s (.slice none 0 0)]) (pre := []) (post := [eL (eL eF) (dlP p).a, .s (.slice none 0 0), .s (.slice none 0 0)]) (cs2 := (dC p (stp p p.a.length)).map eF) rfl (by simp [AV.cells]) rfl (by decide) rfl).weak ?_
    all_goals refine aw_region ?_
    all_goals (first | refine ops_op rfl rfl (runs_none rfl) (does_fieldAddr_ptr rfl tf26_0 (by decide) rfl) ?_ | refine ops_op rfl rfl (runs_none rfl) (does_fieldAddr_ref rfl tf26_0 (by decide) rfl) ?_)
    all_goals (first | refine ops_op rfl rfl (runs_none rfl) (does_load_ref rfl ta22 rfl) ?_ | refine ops_op rfl rfl (runs_none rfl) (does_load_ptr rfl ta22 rfl rfl rfl rfl rfl) ?_)
    all_goals (first | refine ops_op rfl rfl (runs_none rfl) (does_len_map rfl ts22 rfl) ?_ | refine ops_op rfl rfl (runs_none rfl) (does_len_sl rfl ts22 rfl) ?_ | refine ops_op rfl rfl (runs_none rfl) (does_len_own rfl ts22 rfl) ?_ | refine ops_op rfl rfl (runs_none rfl) (does_len_s rfl ts22 rfl) ?_ | refine ops_op rfl rfl (runs_none rfl) (does_len_emp rfl ts22 rfl) ?_)
    all_goals (first | refine ops_opP rfl rfl (runs_none rfl) (does_gtr rfl rfl rfl) (fun h40 => ?_) (fun h40 => ?_) | refine ops_opB rfl rfl (runs_none rfl) (does_gtr rfl rfl rfl) (fun h40 => ?_) (fun h40 => ?_))
    all_goals refine ops_nil ?_
    all_goals (repeat (first | refine aw_seq ?_ | refine ath_n ?_ | refine aw_skip ?_ | refine abl_n ?_ | refine aw_block ?_))
    all_goals (first | refine aw_true rfl ?_ | refine aw_false rfl ?_)
    all_goals (repeat (first | refine aw_seq ?_ | refine ath_n ?_ | refine aw_skip ?_ | refine abl_n ?_ | refine aw_block ?_))
    · skip
      refine aw_region ?_
      refine ops_op rfl rfl (runs_none rfl) (does_build rfl ti26 tp26 rfl rfl) ?_
      refine ops_eff rfl (runs_none rfl) (does_store rfl ti26 rfl rfl rfl rfl rfl rfl (by decide) (by decide)) ?_
      refine ops_op rfl rfl (runs_none rfl) (mv_s (.inr rfl) rfl) ?_
      refine ops_nil ?_
      repeat (first | refine aw_seq ?_ | refine ath_n ?_ | refine aw_skip ?_ | refine abl_n ?_ | refine aw_block ?_)
      (refine aw_ret ?_; repeat (first | refine ath_r ?_ | refine abl_r ?_))
      exact post_zp (N := 0) (.inr rfl) ta26 ti26 rfl rfl rfl rfl rfl rfl (by rw [HI, if_pos (by omega)])
    · rw [if_neg (by omega)] at HI
      subst HI
      refine aw_region ?_
      first | refine ops_op rfl rfl (runs_none rfl) (lit1_sF rfl ts24 ti3 rfl rfl rfl rfl) ?_ | refine ops_op rfl rfl (runs_none rfl) (lit1_slF rfl ts24 ti3 rfl rfl rfl rfl (by repeat' (first | exact Lo.s _ | exact Lo.emp | exact Lo.any | exact lo_nil | exact lo_nilE | refine lo_cons ?_ ?_ | refine lo_consE ?_ ?_ | refine lo_map ?_ | refine lo_mapE ?_ | refine Lo.cells ?_ | refine Lo.agg _ ?_ | refine Lo.ref _ ?_ | refine Lo.tup _ ?_ | refine Lo.fn _ _ ?_ | refine Lo.sl _ ?_ | intro _))) ?_ | refine ops_op rfl rfl (runs_none rfl) (does_litAF rfl ts24 ti3 rfl rfl (by decide) (by decide) rfl rfl rfl (by repeat' (first | exact Lo.s _ | exact Lo.emp | exact Lo.any | exact lo_nil | exact lo_nilE | refine lo_cons ?_ ?_ | refine lo_consE ?_ ?_ | refine lo_map ?_ | refine lo_mapE ?_ | refine Lo.cells ?_ | refine Lo.agg _ ?_ | refine Lo.ref _ ?_ | refine Lo.tup _ ?_ | refine Lo.fn _ _ ?_ | refine Lo.sl _ ?_ | intro _))) ?_
      first | refine ops_op rfl rfl (runs_none rfl) (does_fieldAddr_ptr rfl tf26_0 (by decide) rfl) ?_ | refine ops_op rfl rfl (runs_none rfl) (does_fieldAddr_ref rfl tf26_0 (by decide) rfl) ?_
      first | refine ops_op rfl rfl (runs_none rfl) (does_load_ref rfl ta22 rfl) ?_ | refine ops_op rfl rfl (runs_none rfl) (does_load_ptr rfl ta22 rfl rfl rfl rfl rfl) ?_
      first | refine ops_op rfl rfl (runs_none rfl) (does_len_map rfl ts22 rfl) ?_ | refine ops_op rfl rfl (runs_none rfl) (does_len_sl rfl ts22 rfl) ?_ | refine ops_op rfl rfl (runs_none rfl) (does_len_own rfl ts22 rfl) ?_ | refine ops_op rfl rfl (runs_none rfl) (does_len_s rfl ts22 rfl) ?_ | refine ops_op rfl rfl (runs_none rfl) (does_len_emp rfl ts22 rfl) ?_
      refine ops_op rfl rfl (runs_none rfl) (does_call rfl rfl ((ones_pf p.c.length (by omega))) (evc_cons rfl (evc_cons rfl evc_nil))) ?_
      first | refine ops_op rfl rfl (runs_none rfl) (does_fieldAddr_ptr rfl tf26_2 (by decide) rfl) ?_ | refine ops_op rfl rfl (runs_none rfl) (does_fieldAddr_ref rfl tf26_2 (by decide) rfl) ?_
      refine ops_eff rfl (runs_none rfl) (does_store rfl ti24 rfl rfl rfl rfl rfl rfl (by decide) (by decide)) ?_
      refine ops_nil ?_
      repeat (first | refine aw_seq ?_ | refine ath_n ?_ | refine aw_skip ?_ | refine abl_n ?_ | refine aw_block ?_)
      refine aw_region ?_
      first | refine ops_op rfl rfl (runs_none rfl) (does_fieldAddr_ptr rfl tf26_0 (by decide) rfl) ?_ | refine ops_op rfl rfl (runs_none rfl) (does_fieldAddr_ref rfl tf26_0 (by decide) rfl) ?_
      first | refine ops_op rfl rfl (runs_none rfl) (does_load_ref rfl ta22 rfl) ?_ | refine ops_op rfl rfl (runs_none rfl) (does_load_ptr rfl ta22 rfl rfl rfl rfl rfl) ?_
      refine ops_op rfl rfl (runs_none rfl) (does_call rfl rfl ((dclone_pf p.c (by omega) (by omega))) (evc_cons rfl evc_nil)) ?_
      first | refine ops_op rfl rfl (runs_none rfl) (does_fieldAddr_ptr rfl tf26_3 (by decide) rfl) ?_ | refine ops_op rfl rfl (runs_none rfl) (does_fieldAddr_ref rfl tf26_3 (by decide) rfl) ?_
      refine ops_eff rfl (runs_none rfl) (does_store rfl ti22 rfl rfl rfl rfl rfl rfl (by decide) (by decide)) ?_
      refine ops_nil ?_
      repeat (first | refine aw_seq ?_ | refine ath_n ?_ | refine aw_skip ?_ | refine abl_n ?_ | refine aw_block ?_)
      refine aw_region ?_
      first | refine ops_op rfl rfl (runs_none rfl) (does_load_refw rfl ta26 ti26 rfl rfl) ?_ | refine ops_op rfl rfl (runs_none rfl) (does_load_whole rfl ta26 ti26 rfl rfl rfl rfl rfl) ?_ | refine ops_op rfl rfl (runs_none rfl) (does_load_refs rfl ta26 ti26 rfl (Nat.le_of_ble_eq_true rfl)) ?_ | refine ops_op rfl rfl (runs_none rfl) (does_load_ptrs rfl ta26 ti26 rfl rfl rfl rfl (Nat.le_of_ble_eq_true rfl)) ?_
      refine ops_eff rfl (runs_none rfl) (does_store rfl ti26 rfl rfl rfl rfl rfl rfl (by decide) (by decide)) ?_
      refine ops_op rfl rfl (runs_none rfl) (mv_s (.inr rfl) rfl) ?_
      refine ops_nil ?_
      repeat (first | refine aw_seq ?_ | refine ath_n ?_ | refine aw_skip ?_ | refine abl_n ?_ | refine aw_block ?_)
      (refine aw_ret ?_; repeat (first | refine ath_r ?_ | refine abl_r ?_))
      exact post_cs (N := 0) (.inr rfl) ta26 ti26 rfl rfl rfl rfl rfl rfl (.refl _) (.refl _)
end Go.Proofs.Ytcpnffjnagbkoaa.Aw
end
