/-
  Texts joined: EvL, Rw, Rx, AwZ, SpJ. Conditions: none.
-/
import Derived.Test.YthdpacbjbdkemaaJC6
import Derived.Test.YthdpacbjbdkemaaJC5
import Derived.Test.YthdpacbjbdkemaaJC7
section
namespace Go.Proofs.Ythdpacbjbdkemaa.Aw
set_option linter.unusedSimpArgs false
set_option linter.unusedVariables false
set_option linter.unusedSectionVars false
open Go.RowKit

structure KE (G G' : Cx) : Prop where
  step : G.Step G'
  mu0 : ∀ y, G.mu 0 = some y → G'.mu 0 = some y
  rows : RowsKept G.w G'.w
theorem KE.refl (G : Cx) : KE G G := ⟨.refl G, fun _ h => h, RowsKept.refl _⟩
theorem KE.trans {G H K : Cx} (h : KE G H) (k : KE H K) : KE G K := ⟨h.step.trans k.step, fun y x => k.mu0 y (h.mu0 y x), h.rows.trans k.rows⟩
theorem KE.of {G G' : Cx} (e : G.Ext G') : KE G G' := ⟨e.step, e.mu 0, e.rows⟩
def liftK (N : Nat) (G : Cx) (Q : Exit → Frm → List Ob → Prop) : Exit → Act → World → Prop :=
  fun e a' w' => ∃ G' F' σ', G'.w = w' ∧ KE G G' ∧ S8 N G' a' F' σ' ∧ Q e F' σ'
theorem liftK_mono {N : Nat} {G G1 : Cx} (h : KE G G1) {Q Q' : Exit → Frm → List Ob → Prop} (hq : ∀ e F σ, Q e F σ → Q' e F σ) {e : Exit} {a : Act} {w : World} (x : liftK N G1 Q e a w) : liftK N G Q' e a w := by
  obtain ⟨G', F', σ', h1, h2, h3, h4⟩ := x
  exact ⟨G', F', σ', h1, h.trans h2, h3, hq _ _ _ h4⟩

def KWp (P : Program) (N : Nat) (c : Code) (F : Frm) (σ : List Ob) (Q : Exit → Frm → List Ob → Prop) : Prop :=
  ∀ G a, S8 N G a F σ → c.wp P (liftK N G Q) a G.w
def KOps (P : Program) (N : Nat) (ops : Array Oper) (l : List Oper) (F : Frm) (σ : List Ob) (Q : Exit → Frm → List Ob → Prop) : Prop :=
  ∀ G a, S8 N G a F σ → wpList P ops (liftK N G Q) l a G.w

section
variable {P : Program} {N : Nat} {F : Frm} {σ : List Ob} {Q : Exit → Frm → List Ob → Prop}

theorem kw_seq {x y : Code} (h : KWp P N x F σ (AThen (fun F σ => KWp P N y F σ Q) Q)) : KWp P N (.seq x y) F σ Q := fun G a hs => by
  refine wp_seq (Code.wp_mono (fun e a1 w1 q => ?_) (h G a hs))
  obtain ⟨G', F', σ', rfl, h2, h3, h4⟩ := q
  cases e with
  | normal => exact Code.wp_mono (fun e a w q => liftK_mono h2 (fun _ _ _ x => x) q) (h4 G' a1 h3)
  | _ => exact ⟨G', F', σ', rfl, h2, h3, h4⟩
theorem kw_skip (h : Q .normal F σ) : KWp P N .skip F σ Q := fun G a hs => wp_skip ⟨G, F, σ, rfl, .refl G, hs, h⟩
theorem kw_exit {id : Nat} (h : Q (.exit id) F σ) : KWp P N (.exit id) F σ Q := fun G a hs => wp_exit ⟨G, F, σ, rfl, .refl G, hs, h⟩
theorem kw_ret (h : Q .ret F σ) : KWp P N .ret F σ Q := fun G a hs => wp_ret ⟨G, F, σ, rfl, .refl G, hs, h⟩
theorem kw_block {id : Nat} {c : Code} (h : KWp P N c F σ (ABlk id Q)) : KWp P N (.block id c) F σ Q := fun G a hs => by
  refine wp_block (Code.wp_mono (fun e a1 w1 q => ?_) (h G a hs))
  obtain ⟨G', F', σ', rfl, h2, h3, h4⟩ := q
  cases e with
  | exit id' =>
    simp only [ABlk] at h4
    simp only [Exit.inBlock]
    split
    · rename_i e; rw [if_pos e] at h4; exact ⟨G', F', σ', rfl, h2, h3, h4⟩
    · rename_i e; rw [if_neg e] at h4; exact ⟨G', F', σ', rfl, h2, h3, h4⟩
  | _ => exact ⟨G', F', σ', rfl, h2, h3, h4⟩
theorem kw_cond {c : Operand} {x y : Code} {b : Bool} (hc : F.eval c = .s (.bool b)) (ht : b = true → KWp P N x F σ Q) (hf : b = false → KWp P N y F σ Q) : KWp P N (.cond c x y) F σ Q := fun G a hs =>
  wp_cond_split (rep_bool hs.fr hc) (fun e => ht e G a hs) (fun e => hf e G a hs)
theorem kw_true {c : Operand} {x y : Code} (hc : F.eval c = .s (.bool true)) (ht : KWp P N x F σ Q) : KWp P N (.cond c x y) F σ Q := kw_cond hc (fun _ => ht) (fun e => by cases e)
theorem kw_false {c : Operand} {x y : Code} (hc : F.eval c = .s (.bool false)) (ht : KWp P N y F σ Q) : KWp P N (.cond c x y) F σ Q := kw_cond hc (fun e => by cases e) (fun _ => ht)
theorem kw_loop {c : Code} (I : Nat → Frm → List Ob → Prop) (m : Nat) (h0 : I m F σ)
    (round : ∀ m F σ, I m F σ → KWp P N c F σ (AThen (fun F' σ' => ∃ m', m' < m ∧ I m' F' σ') Q)) : KWp P N (.loop c) F σ Q := fun G a hs => by
  refine wp_loop_ghost (fun n a w => ∃ G' F' σ', G'.w = w ∧ KE G G' ∧ S8 N G' a F' σ' ∧ I n F' σ') m ⟨G, F, σ, rfl, .refl G, hs, h0⟩ ?_
  rintro n a w ⟨G', F', σ', rfl, h2, h3, h4⟩
  refine Code.wp_mono (fun e a1 w1 q => ?_) (round n F' σ' h4 G' a h3)
  obtain ⟨G2, F2, σ2, rfl, h5, h6, h7⟩ := q
  cases e with
  | normal => obtain ⟨m', hm, hi⟩ := h7; exact ⟨m', hm, ⟨G2, F2, σ2, rfl, h2.trans h5, h6, hi⟩⟩
  | _ => exact ⟨G2, F2, σ2, rfl, h2.trans h5, h6, h7⟩

theorem kw_region {id : Nat} {l : List Oper} (h : KOps P N l.toArray l F σ Q) : KWp P N (.region id l.toArray false) F σ Q := fun G a hs => wp_region_lit (h G a hs)
theorem kw_mono {c : Code} {Q' : Exit → Frm → List Ob → Prop} (h : KWp P N c F σ Q) (hq : ∀ e F σ, Q e F σ → Q' e F σ) : KWp P N c F σ Q' := fun G a hs =>
  Code.wp_mono (fun e a w q => liftK_mono (.refl G) hq q) (h G a hs)

end

section
variable {P : Program} {N : Nat} {F : Frm} {σ σ' : List Ob} {Q : Exit → Frm → List Ob → Prop} {ops : Array Oper} {o : Oper} {l : List Oper} {x : AV}

theorem kops_nil (h : Q .normal F σ) : KOps P N ops [] F σ Q := fun G a hs => ⟨G, F, σ, rfl, .refl G, hs, h⟩
theorem kops_op {d : Nat} (hd : o.dst = some d) (hN : Nat.blt d N = true) (hr : Runs ops F o true) (hD : Does P o F σ x σ') (k : KOps P N ops l ((d, x) :: F) σ' Q) : KOps P N ops (o :: l) F σ Q := fun G a hs => by
  unfold wpList
  rw [if_pos (hr.wanted hs.fr)]
  left
  refine hD G a _ _ hs.rel (fun y _ => rep_eval hs.fr y) (fun v G' e r hv => ?_)
  rw [hd]
  exact wpList_mono (fun e' a w q => liftK_mono (KE.of e) (fun _ _ _ x => x) q) _ _ _ (k G' _ ((hs.step e r).put (by simpa [Nat.blt_eq] using hN) hv))
theorem kops_eff (hd : o.dst = none) (hr : Runs ops F o true) (hD : Does P o F σ x σ') (k : KOps P N ops l F σ' Q) : KOps P N ops (o :: l) F σ Q := fun G a hs => by
  unfold wpList
  rw [if_pos (hr.wanted hs.fr)]
  left
  refine hD G a _ _ hs.rel (fun y _ => rep_eval hs.fr y) (fun v G' e r hv => ?_)
  rw [hd]
  exact wpList_mono (fun e' a w q => liftK_mono (KE.of e) (fun _ _ _ x => x) q) _ _ _ (k G' _ (hs.step e r))
end


def WeakK (N : Nat) (F : Frm) (σ : List Ob) (F' : Frm) (σ' : List Ob) : Prop := ∀ G a, S8 N G a F σ → ∃ G', G'.w = G.w ∧ KE G G' ∧ S8 N G' a F' σ'
theorem WeakK.refl {N : Nat} {F : Frm} {σ : List Ob} : WeakK N F σ F σ := fun G a h => ⟨G, rfl, .refl G, h⟩
section
variable {P : Program} {N : Nat} {F F' : Frm} {σ σ' : List Ob} {Q : Exit → Frm → List Ob → Prop}
theorem kw_weak {c : Code} (w : WeakK N F σ F' σ') (h : KWp P N c F' σ' Q) : KWp P N c F σ Q := fun G a hs => by
  obtain ⟨G1, e1, s1, h1⟩ := w G a hs
  rw [← e1]
  exact Code.wp_mono (fun e a w q => liftK_mono s1 (fun _ _ _ x => x) q) (h G1 a h1)
/-- new names; the name 0 stays -/
theorem kwk_st (ρ : List Nat) (h0 : ρ[0]? = some 0) (hn : ρ.Nodup) (hs : StL ρ σ ρ σ') (hf : FrRn F ρ F') : WeakK N F σ F' σ' := fun G a h =>
  ⟨G.ren ρ, rfl, ⟨⟨rfl, rfl, fun _ _ h => h, fun _ _ _ => rfl, fun _ _ h => .inl h⟩, fun y hy => by simp [Cx.ren, h0, hy], RowsKept.refl _⟩, ⟨ren_rel h.rel hn (stRn_of ρ σ' hs), frRn_ok h.fr F' hf, h.df, h.nt⟩⟩
theorem kw_loops {c : Code} {S : Type} (fr : S → Frm) (st : S → List Ob) (inv : S → Prop) (ms : S → Nat) (s0 : S) (hw : WeakK N F σ (fr s0) (st s0)) (h0 : inv s0)
    (round : ∀ s, inv s → KWp P N c (fr s) (st s) (AThen (fun F' σ' => ∃ s', inv s' ∧ ms s' < ms s ∧ WeakK N F' σ' (fr s') (st s')) Q)) : KWp P N (.loop c) F σ Q := by
  refine kw_weak hw (kw_loop (fun m F σ => ∃ s, inv s ∧ ms s = m ∧ WeakK N F σ (fr s) (st s)) (ms s0) ⟨s0, h0, rfl, WeakK.refl⟩ (fun m F σ h => ?_))
  obtain ⟨s, h1, rfl, h3⟩ := h
  refine kw_weak h3 (kw_mono (round s h1) (fun e F σ q => ?_))
  cases e with
  | normal => obtain ⟨s', g1, g2, g3⟩ := q; exact ⟨ms s', g2, s', g1, rfl, g3⟩
  | _ => exact q
variable {ops : Array Oper} {o : Oper} {l : List Oper} {d : Nat}
theorem kops_opP {p : Prop} [Decidable p] (hd : o.dst = some d) (hN : Nat.blt d N = true) (hr : Runs ops F o true) (hD : Does P o F σ (.s (.bool (decide p))) σ) (k1 : p → KOps P N ops l ((d, .s (.bool true)) :: F) σ Q) (k2 : ¬ p → KOps P N ops l ((d, .s (.bool false)) :: F) σ Q) : KOps P N ops (o :: l) F σ Q := by
  by_cases h : p
  · exact kops_op hd hN hr (dec_t h hD) (k1 h)
  · exact kops_op hd hN hr (dec_f h hD) (k2 h)
theorem kops_opB {b : Bool} (hd : o.dst = some d) (hN : Nat.blt d N = true) (hr : Runs ops F o true) (hD : Does P o F σ (.s (.bool b)) σ) (k1 : b = true → KOps P N ops l ((d, .s (.bool true)) :: F) σ Q) (k2 : b = false → KOps P N ops l ((d, .s (.bool false)) :: F) σ Q) : KOps P N ops (o :: l) F σ Q := by
  cases b with
  | true => exact kops_op hd hN hr hD (k1 rfl)
  | false => exact kops_op hd hN hr hD (k2 rfl)
theorem fr_keep {G G' : Cx} {a : Act} (hF : ∀ p ∈ F, Lo 1 p.2) (h : FOk G a F) (k : KE G G') : FOk G' a F := fun t => by
  have key : ∀ F : Frm, (∀ p ∈ F, Lo 1 p.2) → Lo 1 (F.get t) := by
    intro F
    induction F with
    | nil => intro _; exact .any
    | cons p F ih =>
      intro hF
      obtain ⟨d, x⟩ := p
      simp only [Frm.get]
      cases Nat.beq d t with
      | true => exact hF (d, x) List.mem_cons_self
      | false => exact ih (fun p hp => hF p (List.mem_cons_of_mem _ hp))
  refine (h t).low (key F hF) k.step.st k.step.cell (fun id y hid hy => ?_) (fun _ => k.rows)
  obtain rfl : id = 0 := by omega
  exact k.mu0 y hy
section
variable {fo : Operand} {ar : Array Operand} {ts : Array TypeId} {f : FuncId} {x : AV} {e n : Int}
end
end
theorem hF_nil : ∀ p ∈ ([] : Frm), Lo 1 p.2 := by simp
theorem hF_cons {d : Nat} {x : AV} {F : Frm} (h : Lo 1 x) (t : ∀ p ∈ F, Lo 1 p.2) : ∀ p ∈ (d, x) :: F, Lo 1 p.2 := fun p hp => by
  rcases List.mem_cons.1 hp with rfl | hp
  · exact h
  · exact t p hp
end Go.Proofs.Ythdpacbjbdkemaa.Aw
end
section
namespace Go.Proofs.Ythdpacbjbdkemaa.Aw
set_option linter.unusedSimpArgs false
set_option linter.unusedVariables false
set_option linter.unusedSectionVars false
open Go Go.RowKit Go.Proofs

/-- an own thing under a new name, and things named in a row too -/
inductive ObR2 (ρ : List Nat) : Ob → Ob → Prop
  | of (ob ob' : Ob) (h : ObRn ρ ob ob') : ObR2 ρ ob ob'
  | rowN (sz : Nat) (cs cs' : List AV) (hl : cs.length = cs'.length) (h : ∀ (k : Nat) e e', cs[k]? = some e → cs'[k]? = some e' → e.cells.length = e'.cells.length ∧ ∀ (j : Nat) x y, e.cells[j]? = some x → e'.cells[j]? = some y → Rn ρ x y) : ObR2 ρ (.row sz cs) (.row sz cs')
def StR2 (σ : List Ob) (ρ : List Nat) (σ' : List Ob) : Prop := σ'.length = ρ.length ∧ ∀ (j i : Nat) ob', ρ[j]? = some i → σ'[j]? = some ob' → ∃ ob, σ[i]? = some ob ∧ ObR2 ρ ob ob'
theorem row_ren {G : Cx} {ρ : List Nat} {i j : Nat} {sz : Nat} {cs cs' : List AV} (hm : (G.ren ρ).mu j = G.mu i) (hl : cs.length = cs'.length)
    (h : ∀ (k : Nat) e e', cs[k]? = some e → cs'[k]? = some e' → e.cells.length = e'.cells.length ∧ ∀ (j : Nat) x y, e.cells[j]? = some x → e'.cells[j]? = some y → Rn ρ x y) (h3 : ObOk G i (.row sz cs)) : ObOk (G.ren ρ) j (.row sz cs') := by
  simp only [ObOk, hm] at h3 ⊢
  cases hx : G.mu i with
  | none => rw [hx] at h3; exact h3
  | some x =>
    rw [hx] at h3
    cases x with
    | none => exact List.length_eq_zero_iff.1 (by rw [← hl, h3]; rfl)
    | some b => exact ⟨ren_row h3.1 hl h, h3.2⟩
theorem ren_rel2 {G : Cx} {σ σ' : List Ob} {ρ : List Nat} (hr : Rel G σ) (hn : ρ.Nodup) (hs : StR2 σ ρ σ') : Rel (G.ren ρ) σ' := by
  obtain ⟨hlen, hst⟩ := hs
  -- what is not a row of rows is renamed as before
  let τ : List Ob := σ'.map fun ob => match ob with | .row sz cs => .dead | ob => ob
  have hτ : StRn σ ρ τ := by
    refine ⟨by simp [τ, hlen], fun j i ob' hj hob => ?_⟩
    simp only [τ, List.getElem?_map, Option.map_eq_some_iff] at hob
    obtain ⟨ob1, h1, h2⟩ := hob
    obtain ⟨ob, h3, h4⟩ := hst j i ob1 hj h1
    refine ⟨ob, h3, ?_⟩
    subst h2
    cases h4 with
    | of _ _ h =>
      cases h with
      | dead => exact .dead _
      | row sz cs h => exact .dead _
      | fz sz cs h => exact .fz _ _ h
      | rowR sz e e' h h1 hl => exact .dead _
      | mp X n hn => exact .mp X n hn
    | rowN sz cs cs' hl h => exact .dead _
  have hr1 := ren_rel hr hn hτ
  have hmu : ∀ j i, ρ[j]? = some i → (G.ren ρ).mu j = G.mu i := fun j i h => by simp [Cx.ren, h]
  refine ⟨hr1.below, hr1.le, hr1.st, fun j ob' hob => ?_, fun j j' b hj hj' hm hm' => ?_, fun j hj => hr1.fresh j (by simp [τ]; exact hj)⟩
  · have hj : j < ρ.length := by rw [← hlen]; exact (List.getElem?_eq_some_iff.1 hob).1
    have hρ := List.getElem?_eq_getElem hj
    obtain ⟨ob, h1, h2⟩ := hst j _ ob' hρ hob
    have keep : (∀ sz cs, ob' ≠ .row sz cs) → ObOk (G.ren ρ) j ob' := fun h => hr1.obs j ob' (by
      show (σ'.map _)[j]? = _
      rw [List.getElem?_map, hob]
      cases ob' with
      | row sz cs => exact absurd rfl (h sz cs)
      | dead => rfl
      | fz sz cs => rfl
      | mp X => rfl)
    cases h2 with
    | of _ _ h =>
      cases h with
      | row sz cs h =>
        refine row_ren (hmu j _ hρ) rfl (fun k e e' he he' => ?_) (hr.obs _ _ h1)
        rw [he] at he'; cases he'
        refine ⟨rfl, fun i x y hx hy => ?_⟩
        rw [hx] at hy; cases hy
        exact .lo _ (h e (List.mem_of_getElem? he) x (List.mem_of_getElem? hx))
      | rowR sz e e' h g1 hl =>
        refine row_ren (cs := [e]) (hmu j _ hρ) rfl (fun k x x' he he' => ?_) (hr.obs _ _ h1)
        cases k with
        | succ k => simp at he
        | zero => simp at he he'; subst he he'; exact ⟨hl, g1⟩
      | dead => exact keep (fun sz cs h => by cases h)
      | fz sz cs h => exact keep (fun sz cs h => by cases h)
      | mp X n hn => exact keep (fun sz cs h => by cases h)
    | rowN sz cs cs' hl h => exact row_ren (hmu j _ hρ) hl h (hr.obs _ _ h1)
  · obtain ⟨sz, cs, h1⟩ := hj
    obtain ⟨sz', cs', h1'⟩ := hj'
    have hlj : j < ρ.length := by rw [← hlen]; exact (List.getElem?_eq_some_iff.1 h1).1
    have hlj' : j' < ρ.length := by rw [← hlen]; exact (List.getElem?_eq_some_iff.1 h1').1
    have al : ∀ j sz cs (hlj : j < ρ.length), σ'[j]? = some (.row sz cs) → alive σ ρ[j] := by
      intro j sz cs hlj h1
      obtain ⟨ob, h2, h3⟩ := hst j _ _ (List.getElem?_eq_getElem hlj) h1
      cases h3 with
      | of _ _ h =>
        cases h with
        | row _ _ _ => exact ⟨sz, cs, h2⟩
        | rowR _ e _ _ _ _ => exact ⟨sz, [e], h2⟩
      | rowN _ cs0 _ _ _ => exact ⟨sz, cs0, h2⟩
    have e := hr.inj ρ[j] ρ[j'] b (al j sz cs hlj h1) (al j' sz' cs' hlj' h1') (by simpa [Cx.ren, hlj] using hm) (by simpa [Cx.ren, hlj'] using hm')
    exact (List.getElem_inj hn).1 e
section
variable {N : Nat} {F F' : Frm} {σ σ' : List Ob}
theorem wk_ren2 (ρ : List Nat) (hn : ρ.Nodup) (hs : StR2 σ ρ σ') (hf : FrRn F ρ F') : Weak N F σ F' σ' := fun G a h =>
  ⟨G.ren ρ, rfl, ⟨rfl, rfl, fun _ _ h => h, fun _ _ _ => rfl, fun _ _ h => .inl h⟩, ⟨ren_rel2 h.rel hn hs, frRn_ok h.fr F' hf, h.df, h.nt⟩⟩
end
/-! ## the names after a row is appended to: L in place of j + m -/
def rho (m n j L : Nat) : List Nat := (List.range (m + n)).set (j + m) L
theorem rho_lo {m n j L i : Nat} (h : i < m + n) (hne : i ≠ j + m) : (rho m n j L)[i]? = some i := by
  unfold rho
  rw [List.getElem?_set_ne (fun e => hne e.symm), List.getElem?_range h]
theorem rho_j {m n j L : Nat} (h : j < n) : (rho m n j L)[j + m]? = some L := by
  unfold rho
  rw [List.getElem?_set_self (by simp; omega)]
/-! ## the row of rows -/
/-- elements: the rows with the names m, m + 1, .. -/
def ownR (m sz : Nat) (rows : List (List AV)) : List AV := (List.range rows.length).map fun t => .own (t + m) sz ((rows[t]?).getD []).length
theorem ownR_len (m sz : Nat) (rows : List (List AV)) : (ownR m sz rows).length = rows.length := by simp [ownR]
theorem ownR_get {m sz : Nat} {rows : List (List AV)} {t : Nat} {r : List AV} (h : rows[t]? = some r) : (ownR m sz rows)[t]? = some (.own (t + m) sz r.length) := by
  have ht := (List.getElem?_eq_some_iff.1 h).1
  simp [ownR, List.getElem?_range ht, h]
def obsR (sz : Nat) (rows : List (List AV)) : List Ob := rows.map (.row sz)
theorem obsR_get {sz : Nat} {rows : List (List AV)} {t : Nat} {r : List AV} (h : rows[t]? = some r) : (obsR sz rows)[t]? = some (.row sz r) := by simp [obsR, h]
theorem obsR_len (sz : Nat) (rows : List (List AV)) : (obsR sz rows).length = rows.length := by simp [obsR]
theorem obsR_set (sz : Nat) (rows : List (List AV)) (j : Nat) (r : List AV) : obsR sz (rows.set j r) = (obsR sz rows).set j (.row sz r) := by simp [obsR, List.map_set]
/-- the row of rows under the new names -/
theorem ownR_ren {m sz sz0 : Nat} {rows : List (List AV)} {j L : Nat} {r : List AV} (hj : j < rows.length) : ObR2 (rho m rows.length j L) (.row sz0 ((ownR m sz rows).set j (.own L sz r.length))) (.row sz0 (ownR m sz (rows.set j r))) := by
  refine .rowN _ _ _ (by simp [ownR_len]) (fun k e e' he he' => ?_)
  have hk : k < rows.length := by have := (List.getElem?_eq_some_iff.1 he').1; simpa [ownR_len] using this
  by_cases h : k = j
  · subst h
    rw [List.getElem?_set_self (by rw [ownR_len]; exact hj)] at he
    obtain rfl := Option.some.inj he
    rw [ownR_get (List.getElem?_set_self hj)] at he'
    obtain rfl := Option.some.inj he'
    refine ⟨rfl, fun i x y hx hy => ?_⟩
    cases i with
    | succ i => simp [AV.cells] at hx
    | zero => simp [AV.cells] at hx hy; subst hx hy; exact .own _ _ _ _ _ (rho_j hj) rfl
  · rw [List.getElem?_set_ne (fun e => h e.symm), ownR_get (List.getElem?_eq_getElem hk)] at he
    obtain rfl := Option.some.inj he
    rw [ownR_get (show (rows.set j r)[k]? = some rows[k] by rw [List.getElem?_set_ne (fun e => h e.symm)]; exact List.getElem?_eq_getElem hk)] at he'
    obtain rfl := Option.some.inj he'
    refine ⟨rfl, fun i x y hx hy => ?_⟩
    cases i with
    | succ i => simp [AV.cells] at hx
    | zero => simp [AV.cells] at hx hy; subst hx hy; exact .own _ _ _ _ _ (rho_lo (by omega) (by omega)) rfl
theorem obsR_lo {ρ : List Nat} {sz : Nat} {rows : List (List AV)} (h : ∀ r ∈ rows, ∀ e ∈ r, ∀ c ∈ e.cells, Lo 0 c) : ∀ o ∈ obsR sz rows, ObR2 ρ o o := by
  intro o ho
  simp only [obsR, List.mem_map] at ho
  obtain ⟨r, hr, rfl⟩ := ho
  exact .of _ _ (.row sz r (h r hr))
section
variable {N : Nat} {F : Frm} {σ : List Ob}
/-- an element that is nil, as an empty row of the call's own -/
theorem wk_ownE {id sz sz2 k : Nat} {cs : List AV} (hs : σ[id]? = some (.row sz cs)) (hk : cs[k]? = some (.s (.slice none 0 0))) : Weak N F σ F (σ.set id (.row sz (cs.set k (.own σ.length sz2 0))) ++ [.row sz2 []]) := fun G a h => by
  have he := nil_ext h.rel
  have hr := nil_rel h.rel sz2
  have hid : id < σ.length := (List.getElem?_eq_some_iff.1 hs).1
  have hkl := (List.getElem?_eq_some_iff.1 hk).1
  refine ⟨G.new σ.length G.w none, rfl, he.step, ?_, h.fr.ext he, h.df, h.nt⟩
  rw [show σ.set id (Ob.row sz (cs.set k (.own σ.length sz2 0))) ++ [Ob.row sz2 []] = (σ ++ [Ob.row sz2 []]).set id (Ob.row sz (cs.set k (.own σ.length sz2 0))) by rw [List.set_append_left _ _ hid]]
  refine reread_rel hr (by rw [List.getElem?_append_left hid]; exact hs) (fun h => by rw [h] at hkl; simp at hkl) ?_
  rintro b f ⟨cur, t, fr, g1, g2, g3, g4⟩
  refine ⟨cur, t, fr, g1, g2, by simpa using g3, fun i y hy => ?_⟩
  by_cases hi : i = k
  · subst hi
    rw [List.getElem?_set_self hkl] at hy
    obtain rfl := Option.some.inj hy
    obtain ⟨k1, k2, k3⟩ := g4 i _ hk
    refine ⟨k1, fun c hc => ?_, fun j c hc => ?_⟩
    · simp [AV.cells] at hc; subst hc; rfl
    · cases j with
      | succ j => simp [AV.cells] at hc
      | zero =>
        simp [AV.cells] at hc
        subst hc
        obtain ⟨v, h6, h7⟩ := k3 0 _ rfl
        refine ⟨v, h6, ?_⟩
        cases h7
        exact .own0 σ.length sz2 none (fun a ha => by cases ha) (by simp [Cx.new])
  · rw [List.getElem?_set_ne (fun e => hi e.symm)] at hy
    exact g4 i y hy
theorem wk_nils_k {id sz sz2 n : Nat} {S : List Ob} (hs : S[id]? = some (.row sz (List.replicate n (.s (.slice none 0 0))))) : ∀ k, k ≤ n →
    Weak N F S F (S.set id (.row sz (ownR S.length sz2 (List.replicate k []) ++ List.replicate (n - k) (.s (.slice none 0 0)))) ++ obsR sz2 (List.replicate k []))
  | 0, _ => by
    have hid : id < S.length := (List.getElem?_eq_some_iff.1 hs).1
    have e : S.set id (.row sz (ownR S.length sz2 (List.replicate 0 []) ++ List.replicate (n - 0) (.s (.slice none 0 0)))) ++ obsR sz2 (List.replicate 0 []) = S := by
      simp only [ownR, obsR, List.replicate_zero, List.length_nil, List.range_zero, List.map_nil, List.nil_append, List.append_nil, Nat.sub_zero]
      refine List.ext_getElem? fun i => ?_
      by_cases hi : id = i
      · subst hi; rw [List.getElem?_set_self hid, hs]
      · rw [List.getElem?_set_ne hi]
    rw [e]
    exact Weak.refl
  | k + 1, hk => by
    have hid : id < S.length := (List.getElem?_eq_some_iff.1 hs).1
    refine (wk_nils_k (sz2 := sz2) hs k (by omega)).trans ?_
    have hL : (S.set id (.row sz (ownR S.length sz2 (List.replicate k []) ++ List.replicate (n - k) (.s (.slice none 0 0)))) ++ obsR sz2 (List.replicate k [])).length = k + S.length := by simp [obsR]; omega
    have h1 : (ownR S.length sz2 (List.replicate k ([] : List AV)) ++ List.replicate (n - k) (AV.s (.slice none 0 0)))[k]? = some (.s (.slice none 0 0)) := by
      rw [List.getElem?_append_right (by simp [ownR_len]), ownR_len, List.length_replicate, Nat.sub_self, List.getElem?_replicate, if_pos (by omega)]
    have := wk_ownE (N := N) (F := F) (σ := S.set id (.row sz (ownR S.length sz2 (List.replicate k []) ++ List.replicate (n - k) (.s (.slice none 0 0)))) ++ obsR sz2 (List.replicate k [])) (id := id) (sz := sz) (sz2 := sz2) (k := k)
      (by rw [List.getElem?_append_left (by simpa using hid), List.getElem?_set_self hid]) h1
    rw [hL] at this
    have e : (S.set id (Ob.row sz (ownR S.length sz2 (List.replicate k []) ++ List.replicate (n - k) (.s (.slice none 0 0)))) ++ obsR sz2 (List.replicate k [])).set id (Ob.row sz ((ownR S.length sz2 (List.replicate k []) ++ List.replicate (n - k) (AV.s (.slice none 0 0))).set k (.own (k + S.length) sz2 0))) ++ [Ob.row sz2 []]
        = S.set id (Ob.row sz (ownR S.length sz2 (List.replicate (k + 1) []) ++ List.replicate (n - (k + 1)) (.s (.slice none 0 0)))) ++ obsR sz2 (List.replicate (k + 1) []) := by
      have e1 : (ownR S.length sz2 (List.replicate k ([] : List AV)) ++ List.replicate (n - k) (AV.s (.slice none 0 0))).set k (.own (k + S.length) sz2 0) = ownR S.length sz2 (List.replicate (k + 1) ([] : List AV)) ++ List.replicate (n - (k + 1)) (AV.s (.slice none 0 0)) := by
        rw [List.set_append_right _ _ (by simp [ownR_len]), ownR_len, List.length_replicate, Nat.sub_self, show n - k = (n - (k + 1)) + 1 by omega, List.replicate_succ, List.set_cons_zero]
        have : ownR S.length sz2 (List.replicate (k + 1) ([] : List AV)) = ownR S.length sz2 (List.replicate k ([] : List AV)) ++ [.own (k + S.length) sz2 0] := by
          unfold ownR
          simp only [List.length_replicate, List.range_succ, List.map_append, List.map_cons, List.map_nil]
          congr 1
          · refine List.map_congr_left fun t ht => ?_
            have := List.mem_range.1 ht
            simp [List.getElem?_replicate, show t < k + 1 by omega, this]
          · simp [List.getElem?_replicate]
        rw [this, List.append_assoc]; rfl
      rw [e1, List.set_append_left _ _ (by simpa using hid), List.set_set, show obsR sz2 (List.replicate (k + 1) ([] : List AV)) = obsR sz2 (List.replicate k []) ++ [Ob.row sz2 []] by simp [obsR, List.replicate_succ'], List.append_assoc]
    rw [e] at this
    exact this
/-- nil elements, as empty rows of the call's own -/
theorem wk_nils {id sz sz2 n : Nat} {S : List Ob} (hs : S[id]? = some (.row sz (List.replicate n (.s (.slice none 0 0))))) :
    Weak N F S F (S.set id (.row sz (ownR S.length sz2 (List.replicate n []))) ++ obsR sz2 (List.replicate n [])) := by
  have := wk_nils_k (N := N) (F := F) (sz2 := sz2) hs n (Nat.le_refl _)
  rwa [Nat.sub_self, List.replicate_zero, List.append_nil] at this
/-- an element that is a row of the call's own is finished -/
theorem wk_fzE {id sz k i sz2 : Nat} {cs cs2 : List AV} (hs : σ[id]? = some (.row sz cs)) (hk : cs[k]? = some (.own i sz2 cs2.length)) (hi : σ[i]? = some (.row sz2 cs2)) (hne : i ≠ id) :
    Weak N F σ F ((σ.set i (.fz sz2 cs2)).set id (.row sz (cs.set k (.sl cs2)))) := fun G a h => by
  obtain ⟨he, hr⟩ := froz_ok h.rel hi
  have hid : id < σ.length := (List.getElem?_eq_some_iff.1 hs).1
  have hil : i < σ.length := (List.getElem?_eq_some_iff.1 hi).1
  have hkl := (List.getElem?_eq_some_iff.1 hk).1
  refine ⟨G.froz i, rfl, he.step, ?_, h.fr.ext he, h.df, h.nt⟩
  refine reread_rel hr (by rw [List.getElem?_set_ne hne]; exact hs) (fun h => by rw [h] at hkl; simp at hkl) ?_
  rintro b f ⟨cur, t, fr, g1, g2, g3, g4⟩
  refine ⟨cur, t, fr, g1, g2, by simpa using g3, fun l y hy => ?_⟩
  by_cases hl : l = k
  · subst hl
    rw [List.getElem?_set_self hkl] at hy
    obtain rfl := Option.some.inj hy
    obtain ⟨k1, k2, k3⟩ := g4 l _ hk
    refine ⟨k1, fun c hc => ?_, fun j c hc => ?_⟩
    · simp [AV.cells] at hc; subst hc; rfl
    · cases j with
      | succ j => simp [AV.cells] at hc
      | zero =>
        simp [AV.cells] at hc
        subst hc
        obtain ⟨v, h6, h7⟩ := k3 0 _ rfl
        exact ⟨v, h6, rep_fz hr (List.getElem?_set_self hil) rfl h7⟩
  · rw [List.getElem?_set_ne (fun e => hl e.symm)] at hy
    exact g4 l y hy
theorem wk_fzs_k {id sz sz2 : Nat} {S : List Ob} {rows : List (List AV)} (hs : S[id]? = some (.row sz (ownR S.length sz2 rows))) : ∀ k, k ≤ rows.length →
    ∃ X, Weak N F (S ++ obsR sz2 rows) F (S.set id (.row sz ((rows.take k).map AV.sl ++ (ownR S.length sz2 rows).drop k)) ++ X) ∧ X.length = rows.length ∧ ∀ t, k ≤ t → X[t]? = (obsR sz2 rows)[t]?
  | 0, _ => by
    have hid : id < S.length := (List.getElem?_eq_some_iff.1 hs).1
    refine ⟨obsR sz2 rows, ?_, obsR_len _ _, fun t _ => rfl⟩
    have e : S.set id (.row sz ((rows.take 0).map AV.sl ++ (ownR S.length sz2 rows).drop 0)) = S := by
      simp only [List.take_zero, List.map_nil, List.nil_append, List.drop_zero]
      refine List.ext_getElem? fun i => ?_
      by_cases hi : id = i
      · subst hi; rw [List.getElem?_set_self hid, hs]
      · rw [List.getElem?_set_ne hi]
    rw [e]
    exact Weak.refl
  | k + 1, hk => by
    have hid : id < S.length := (List.getElem?_eq_some_iff.1 hs).1
    obtain ⟨X, h1, h2, h3⟩ := wk_fzs_k hs k (by omega)
    have hkr : rows[k]? = some rows[k] := List.getElem?_eq_getElem (by omega)
    have hXk : X[k]? = some (.row sz2 rows[k]) := by rw [h3 k (Nat.le_refl _), obsR_get hkr]
    have hg := ownR_get (m := S.length) (sz := sz2) hkr
    have hlt : ((rows.take k).map AV.sl).length = k := by simp; omega
    have hc : ((rows.take k).map AV.sl ++ (ownR S.length sz2 rows).drop k)[k]? = some (.own (k + S.length) sz2 rows[k].length) := by
      rw [List.getElem?_append_right (by omega), hlt, Nat.sub_self, List.getElem?_drop, Nat.add_zero, hg]
    have := wk_fzE (N := N) (F := F) (σ := S.set id (.row sz ((rows.take k).map AV.sl ++ (ownR S.length sz2 rows).drop k)) ++ X) (id := id) (sz := sz) (k := k) (i := k + S.length) (sz2 := sz2) (cs2 := rows[k])
      (by rw [List.getElem?_append_left (by simpa using hid), List.getElem?_set_self hid]) hc (by rw [List.getElem?_append_right (by simp), List.length_set, Nat.add_sub_cancel]; exact hXk) (by omega)
    refine ⟨X.set k (.fz sz2 rows[k]), ?_, by simpa using h2, fun t ht => by rw [List.getElem?_set_ne (by omega)]; exact h3 t (by omega)⟩
    have e : ((S.set id (.row sz ((rows.take k).map AV.sl ++ (ownR S.length sz2 rows).drop k)) ++ X).set (k + S.length) (.fz sz2 rows[k])).set id (.row sz (((rows.take k).map AV.sl ++ (ownR S.length sz2 rows).drop k).set k (.sl rows[k])))
        = S.set id (.row sz ((rows.take (k + 1)).map AV.sl ++ (ownR S.length sz2 rows).drop (k + 1))) ++ X.set k (.fz sz2 rows[k]) := by
      have e1 : ((rows.take k).map AV.sl ++ (ownR S.length sz2 rows).drop k).set k (.sl rows[k]) = (rows.take (k + 1)).map AV.sl ++ (ownR S.length sz2 rows).drop (k + 1) := by
        rw [List.set_append_right _ _ (by omega), hlt, Nat.sub_self, List.drop_eq_getElem_cons (show k < (ownR S.length sz2 rows).length by rw [ownR_len]; omega), List.set_cons_zero, List.take_add_one, hkr]
        simp only [List.map_append, Option.toList, List.map_cons, List.map_nil, List.append_assoc, List.cons_append, List.nil_append]
      rw [e1, List.set_append_right _ _ (by simp), List.length_set, Nat.add_sub_cancel, List.set_append_left _ _ (by simpa using hid), List.set_set]
    rw [e] at this
    exact h1.trans this
/-- the rows finished: a row of finished slices -/
theorem wk_fzs {id sz sz2 : Nat} {S : List Ob} {rows : List (List AV)} (hs : S[id]? = some (.row sz (ownR S.length sz2 rows))) :
    ∃ X, Weak N F (S ++ obsR sz2 rows) F (S.set id (.row sz (rows.map AV.sl)) ++ X) := by
  obtain ⟨X, h1, _, _⟩ := wk_fzs_k (N := N) (F := F) hs rows.length (Nat.le_refl _)
  refine ⟨X, ?_⟩
  rwa [List.take_length, List.drop_eq_nil_of_le (by rw [ownR_len]; exact Nat.le_refl _), List.append_nil] at h1
end
end Go.Proofs.Ythdpacbjbdkemaa.Aw
end
section
namespace Go.Proofs.Ythdpacbjbdkemaa.Aw
set_option linter.unusedSimpArgs false
set_option linter.unusedVariables false
set_option linter.unusedSectionVars false
open Go Go.RowKit Go.Proofs
section
variable {N : Nat} {F F' : Frm} {σ σ' : List Ob}
theorem WeakK.weak (h : WeakK N F σ F' σ') : Weak N F σ F' σ' := fun G a hs => by
  obtain ⟨G', h1, h2, h3⟩ := h G a hs
  exact ⟨G', h1, h2.step, h3⟩
theorem WeakK.trans {F1 F2 : Frm} {σ1 σ2 : List Ob} (h : WeakK N F σ F1 σ1) (k : WeakK N F1 σ1 F2 σ2) : WeakK N F σ F2 σ2 := fun G a hs => by
  obtain ⟨G1, e1, s1, h1⟩ := h G a hs
  obtain ⟨G2, e2, s2, h2⟩ := k G1 a h1
  exact ⟨G2, e2.trans e1, s1.trans s2, h2⟩
theorem kwk_froz {id sz : Nat} {cs : List AV} (hs : σ[id]? = some (.row sz cs)) : WeakK N F σ F (σ.set id (.fz sz cs)) := fun G a h => by
  obtain ⟨h1, h2⟩ := froz_ok h.rel hs
  exact ⟨G.froz id, rfl, KE.of h1, h.step h1 h2⟩
theorem kwk_ref {d id sz k : Nat} {cs : List AV} {e : AV} (hd : F.get d = .ptr id sz k 0) (hs : σ[id]? = some (.fz sz cs)) (he : cs[k]? = some e) : WeakK N F σ ((d, .ref e.cells) :: F) σ := fun G a h =>
  ⟨G, rfl, .refl G, h.rel, h.fr.more (rep_fzp h.rel hs he (by rw [← hd]; exact h.fr d)), h.df, h.nt⟩
/-- a variable whose cell is made last is finished -/
theorem kwk_last {d sz : Nat} {e : AV} (hd : F.get d = .ptr σ.length sz 0 0) : WeakK N F (σ ++ [.row sz [e]]) ((d, .ref e.cells) :: F) (σ ++ [.fz sz [e]]) := by
  have h1 := kwk_froz (N := N) (F := F) (σ := σ ++ [.row sz [e]]) (id := σ.length) (sz := sz) (cs := [e]) (by simp)
  rw [show (σ ++ [Ob.row sz [e]]).set σ.length (.fz sz [e]) = σ ++ [.fz sz [e]] by rw [List.set_append_right _ _ (Nat.le_refl _), Nat.sub_self]; rfl] at h1
  exact h1.trans (kwk_ref (cs := [e]) hd (by simp) rfl)
theorem lo_up {k : Nat} {x : AV} (h : Lo 0 x) : Lo k x := by
  induction h with
  | any => exact .any
  | s v => exact .s v
  | agg cs _ ih => exact .agg cs ih
  | emp => exact .emp
  | sl l _ ih => exact .sl l ih
  | ref cs _ ih => exact .ref cs ih
  | own id sz n h => omega
  | ptr id sz i j h => omega
  | fn f cs _ ih => exact .fn f cs ih
  | tup l _ ih => exact .tup l ih
  | mp id h => omega
  | sub id sz o n h => omega
def LoOb (k : Nat) : Ob → Prop
  | .row _ cs => ∀ e ∈ cs, ∀ c ∈ e.cells, Lo k c
  | .fz _ cs => ∀ e ∈ cs, ∀ c ∈ e.cells, Lo k c
  | .dead => True
  | .mp _ => True
def FrLo (F : Frm) (k : Nat) : Frm → Prop
  | [] => True
  | (d, y) :: F' => (F.get d = y ∧ Lo k y) ∧ FrLo F k F'
/-- what comes last in the store is left out -/
theorem kwk_cut {X : List Ob} (h0 : 0 < σ.length) (hσ : ∀ ob ∈ σ, LoOb σ.length ob) (hF : FrLo F σ.length F') : WeakK N F (σ ++ X) F' σ := fun G a h => by
  let G' : Cx := { G with mu := fun i => if i < σ.length then G.mu i else none }
  have hmu : ∀ i, i < σ.length → G'.mu i = G.mu i := fun i hi => if_pos hi
  have low : ∀ {v x}, Rep G v x → Lo σ.length x → Rep G' v x := fun hv hx => hv.low hx (fun _ _ h => h) (fun _ _ _ => rfl) (fun id y hid hy => by rw [hmu id hid]; exact hy) (fun _ => RowsKept.refl _)
  have hr := h.rel
  have rowlow : ∀ {b sz : Nat} {cs : List AV} {f : Nat × Nat → Prop}, (∀ e ∈ cs, ∀ c ∈ e.cells, Lo σ.length c) → RowAt G b sz cs f → RowAt G' b sz cs f := fun hlo ⟨cur, t, fr, g1, g2, g3, g4⟩ =>
    ⟨cur, t, fr, g1, g2, g3, fun k e he => ⟨(g4 k e he).1, (g4 k e he).2.1, fun j c hc => by
      obtain ⟨v, h6, h7⟩ := (g4 k e he).2.2 j c hc
      exact ⟨v, h6, low h7 (hlo e (List.mem_of_getElem? he) c (List.mem_of_getElem? hc))⟩⟩⟩
  refine ⟨G', rfl, ⟨⟨rfl, rfl, fun _ _ h => h, fun _ _ _ => rfl, fun _ _ h => .inl h⟩, fun y hy => by rw [hmu 0 h0]; exact hy, RowsKept.refl _⟩, ⟨⟨hr.below, hr.le, hr.st, fun id ob hob => ?_, fun i j b hi hj hm hm' => ?_, fun id hid => if_neg (by omega)⟩, ?_, h.df, h.nt⟩⟩
  · have hid := (List.getElem?_eq_some_iff.1 hob).1
    have h1 := hr.obs id ob (by rw [List.getElem?_append_left hid]; exact hob)
    have hlo := hσ ob (List.mem_of_getElem? hob)
    cases ob with
    | dead => intro b hb; rw [hmu id hid] at hb; exact h1 b hb
    | row sz cs =>
      simp only [ObOk, hmu id hid] at h1 ⊢
      cases hx : G.mu id with
      | none => rw [hx] at h1; exact h1
      | some x =>
        rw [hx] at h1
        cases x with
        | none => exact h1
        | some b => exact ⟨rowlow hlo h1.1, h1.2⟩
    | fz sz cs =>
      simp only [ObOk, hmu id hid] at h1 ⊢
      cases hx : G.mu id with
      | none => rw [hx] at h1; exact h1
      | some x =>
        rw [hx] at h1
        cases x with
        | none => exact h1
        | some b => exact ⟨rowlow hlo h1.1, h1.2⟩
    | mp X =>
      obtain ⟨b, g1, g2, g3, g4, g5⟩ := h1
      refine ⟨b, (hmu id hid).trans g1, g2, g3, g4, fun j hj => g5 j ?_⟩
      by_cases hjl : j < σ.length
      · rwa [hmu j hjl] at hj
      · simp only [G', if_neg hjl] at hj; cases hj
  · obtain ⟨sz, cs, h1⟩ := hi
    obtain ⟨sz', cs', h1'⟩ := hj
    have hil := (List.getElem?_eq_some_iff.1 h1).1
    have hjl := (List.getElem?_eq_some_iff.1 h1').1
    rw [hmu i hil] at hm
    rw [hmu j hjl] at hm'
    exact hr.inj i j b ⟨sz, cs, by rw [List.getElem?_append_left hil]; exact h1⟩ ⟨sz', cs', by rw [List.getElem?_append_left hjl]; exact h1'⟩ hm hm'
  · have key : ∀ F', FrLo F σ.length F' → FOk G' a F' := by
      intro F'
      induction F' with
      | nil => intro _ d; exact .any _
      | cons p F' ih =>
        obtain ⟨d, y⟩ := p
        rintro ⟨⟨g1, g2⟩, g3⟩ t
        simp only [Frm.get]
        cases e : Nat.beq d t with
        | true =>
          have := Nat.eq_of_beq_eq_true e
          subst this
          have := h.fr d
          rw [g1] at this
          exact low this g2
        | false => exact ih g3 t
    exact key F' hF
/-- a row of the call's own in a struct of the call's own is finished -/
theorem kwk_fzC {id sz i sz2 : Nat} {e e' : AV} {pre post cs2 : List AV} (hs : σ[id]? = some (.row sz [e])) (h1 : e.cells = pre ++ .own i sz2 cs2.length :: post) (hi : σ[i]? = some (.row sz2 cs2)) (hne : i ≠ id) (h2 : e'.cells = pre ++ .sl cs2 :: post) :
    WeakK N F σ F ((σ.set i (.fz sz2 cs2)).set id (.row sz [e'])) := fun G a h => by
  obtain ⟨he, hr⟩ := froz_ok h.rel hi
  have hid : id < σ.length := (List.getElem?_eq_some_iff.1 hs).1
  have hil : i < σ.length := (List.getElem?_eq_some_iff.1 hi).1
  refine ⟨G.froz i, rfl, KE.of he, ?_, h.fr.ext he, h.df, h.nt⟩
  refine reread_rel hr (by rw [List.getElem?_set_ne hne]; exact hs) (fun h => by cases h) ?_
  rintro b f ⟨cur, t, fr, g1, g2, g3, g4⟩
  refine ⟨cur, t, fr, g1, g2, g3, fun k y hy => ?_⟩
  cases k with
  | succ k => simp at hy
  | zero =>
    simp at hy
    subst hy
    obtain ⟨k1, k2, k3⟩ := g4 0 e rfl
    rw [h1] at k1 k2 k3
    rw [h2]
    refine ⟨by simpa using k1, fun c hc => ?_, fun j c hc => ?_⟩
    · simp only [List.mem_append, List.mem_cons] at hc
      rcases hc with hc | rfl | hc
      · exact k2 c (by simp [hc])
      · rfl
      · exact k2 c (by simp [hc])
    · by_cases hj : j = pre.length
      · subst hj
        simp at hc
        subst hc
        obtain ⟨v, h6, h7⟩ := k3 pre.length (.own i sz2 cs2.length) (by simp)
        exact ⟨v, h6, rep_fz hr (List.getElem?_set_self hil) rfl h7⟩
      · have e : (pre ++ AV.own i sz2 cs2.length :: post)[j]? = some c := by
          rw [← hc]
          by_cases hlt : j < pre.length
          · rw [List.getElem?_append_left hlt, List.getElem?_append_left hlt]
          · rw [List.getElem?_append_right (by omega), List.getElem?_append_right (by omega)]
            obtain ⟨i, hi⟩ : ∃ i, j - pre.length = i + 1 := ⟨j - pre.length - 1, by omega⟩
            rw [hi]; rfl
        exact k3 j c e
end
/-! ## one thing is made anew, behind all others, and takes the place of an old one -/
def mv (k i : Nat) : List Nat := (List.range k).set i k
theorem mv_ne {k i t : Nat} (h : t < k) (hne : t ≠ i) : (mv k i)[t]? = some t := by
  unfold mv
  rw [List.getElem?_set_ne (fun e => hne e.symm), List.getElem?_range h]
theorem mv_eq {k i : Nat} (h : i < k) : (mv k i)[i]? = some k := by
  unfold mv
  rw [List.getElem?_set_self (by simpa using h)]
theorem mv_nd (k i : Nat) : (mv k i).Nodup := by
  unfold mv
  refine List.nodup_iff_pairwise_ne.2 ?_
  rw [List.pairwise_iff_getElem]
  intro a b ha hb hlt
  simp only [List.length_set, List.length_range] at ha hb
  rw [List.getElem_set, List.getElem_set]
  split <;> split <;> first | omega | (simp only [List.getElem_range]; omega)
theorem stR2_mv {σ0 σ' : List Ob} {k i : Nat} {ob ob' : Ob} (h0 : σ0.length = k) (h1 : σ'.length = k) (hi : σ'[i]? = some ob') (ho : ObR2 (mv k i) ob ob')
    (h : ∀ (t : Nat) a b, t ≠ i → σ0[t]? = some a → σ'[t]? = some b → ObR2 (mv k i) a b) : StR2 (σ0 ++ [ob]) (mv k i) σ' := by
  have hik : i < k := by rw [← h1]; exact (List.getElem?_eq_some_iff.1 hi).1
  refine ⟨by simp [mv, h1], fun t u o ht hot => ?_⟩
  have htk : t < k := by rw [← h1]; exact (List.getElem?_eq_some_iff.1 hot).1
  by_cases e : t = i
  · subst e
    rw [mv_eq hik] at ht
    obtain rfl := Option.some.inj ht
    rw [hi] at hot
    obtain rfl := Option.some.inj hot
    exact ⟨ob, by rw [← h0]; simp, ho⟩
  · rw [mv_ne htk e] at ht
    obtain rfl := Option.some.inj ht
    obtain ⟨a, ha⟩ : ∃ a, σ0[t]? = some a := ⟨σ0[t]'(by omega), List.getElem?_eq_getElem (by omega)⟩
    exact ⟨a, by rw [List.getElem?_append_left (by omega)]; exact ha, h t a o e ha hot⟩
/-- the row of rows under the new names -/
theorem ownR_mv {m sz sz0 : Nat} {rows : List (List AV)} {j k : Nat} {r : List AV} (hj : j < rows.length) (hk : k = rows.length + m) : ObR2 (mv k (j + m)) (.row sz0 ((ownR m sz rows).set j (.own k sz r.length))) (.row sz0 (ownR m sz (rows.set j r))) := by
  subst hk
  have := ownR_ren (m := m) (sz := sz) (sz0 := sz0) (rows := rows) (j := j) (L := rows.length + m) (r := r) hj
  rwa [show rho m rows.length j (rows.length + m) = mv (rows.length + m) (j + m) by unfold rho mv; rw [Nat.add_comm m]] at this
theorem obsR_mv {ρ : List Nat} {sz : Nat} {rows : List (List AV)} (h : ∀ r ∈ rows, ∀ e ∈ r, ∀ c ∈ e.cells, Lo 0 c) {t : Nat} {a b : Ob} (ha : (obsR sz rows)[t]? = some a) (hb : (obsR sz rows)[t]? = some b) : ObR2 ρ a b := by
  rw [ha] at hb
  obtain rfl := Option.some.inj hb
  exact obsR_lo h a (List.mem_of_getElem? ha)
section
variable {P : Program} {N : Nat} {F : Frm} {σ σ' : List Ob} {Q : Exit → Frm → List Ob → Prop} {ops : Array Oper} {o : Oper} {l : List Oper} {d : Nat} {fo : Operand} {ar : Array Operand} {ts : Array TypeId} {f : FuncId} {y : AV} {args caps : List AV}
end
end Go.Proofs.Ythdpacbjbdkemaa.Aw
end
section
namespace Go.Proofs.Ythdpacbjbdkemaa.Aw
set_option linter.unusedSimpArgs false
set_option linter.unusedVariables false
set_option linter.unusedSectionVars false
open Go Go.RowKit Go.Proofs
section
variable {P : Program} {o : Oper} {F : Frm} {σ : List Ob}
/-- what an operation does, of several possible ends -/
def DoesR (P : Program) (o : Oper) (F : Frm) (σ : List Ob) (R : AV → List Ob → Prop) : Prop :=
  ∀ (G : Cx) (a : Act) (next : Act → World → Prop) (Q : Exit → Act → World → Prop), Rel G σ → (∀ y ∈ o.op.operands, Rep G (a.eval y) (F.eval y)) →
    (∀ v G' x σ', R x σ' → G.Ext G' → Rel G' σ' → Rep G' v x → next (a.put o.dst v) G'.w) → o.wp P a G.w next Q
theorem doesR_new {R : AV → List Ob → Prop} (h : ∀ (G : Cx) (ρ : Operand → Value), Rel G σ → (∀ y ∈ o.op.operands, Rep G (ρ y) (F.eval y)) → ∃ v G' x σ', R x σ' ∧ (execOp ρ o).run P G.w = .ok (.value v) G'.w ∧ G.Ext G' ∧ Rel G' σ' ∧ Rep G' v x) : DoesR P o F σ R := by
  intro G a next Q hr ho hn
  obtain ⟨v, G', x, σ', h0, h1, h2, h3, h4⟩ := h G a.eval hr ho
  unfold Oper.wp
  rw [h1]
  exact hn v G' x σ' h0 h2 h3 h4
/-- a part of a row, cut once more -/
theorem does_slice_sub {t e : TypeId} {x y : Operand} {z : Option Value} {n bt : Nat} {id sz q m : Nat} {k : IntKind} {i : Int} {l : Nat} (ho : o.op = .slice t x (some y) none none) (ht : tySlice P t = some e) (hi : tyInfo P e = some (z, n, bt)) (hn : n = sz) (hx : F.eval x = .sub id sz q m) (hm0 : 0 < m) (hy : F.eval y = .s (.int k i)) (hk : i = (l : Int)) (hl : l ≤ m) : Does P o F σ (.sub id sz (q + l) (m - l)) σ :=
  does_val fun G ρ hr hop => by
    have g1 := hop x (by simp [ho, Op.operands])
    have g2 := hop y (by simp [ho, Op.operands])
    rw [hx] at g1
    rw [hy] at g2
    have e2 := rep_s g2
    obtain ⟨q1, q2⟩ := elem_of ht
    subst hk hn
    generalize hv : ρ x = u at g1
    cases g1 with
    | sub _ _ _ _ b cap A hm hA hc =>
      have hA := hA hm0
      subst hA
      obtain ⟨c1, c2, cur, te, f, h3, h4⟩ := hc
      have h2 := run_slice_l (P := P) G.w t (some ⟨b, q * n, none⟩) m cap q2 k (l : Int) (by omega) (by omega)
      refine ⟨sliced (some ⟨b, q * n, none⟩) l m cap n, by simp only [execOp, ho, Option.map_some, Option.map_none, hv, e2, Sem.run_bind, run_sliceAt_slice (P := P) G.w t _ _ _ _ q2, h2, q1, run_sizeOf hi, Result.andThen_ok, Sem.run_pure, Int.toNat_natCast], ?_⟩
      refine .sub id n (q + l) (m - l) b (cap - l) _ hm (fun h0 => ?_) ⟨by omega, by omega, cur, te, f, h3, by rw [show q + l + (cap - l) = q + cap by omega]; exact h4⟩
      have : ¬ (cap = l) := by omega
      simp [this, Addr.add_lit, Nat.add_mul]
theorem run_append_at {t ty e : TypeId} {z : Option Value} {sz bt : Nat} (ht : tySlice P t = some e) (hi : tyInfo P e = some (z, sz, bt)) (w : World) (g q n cap : Nat) (cur : Array Value) (te : TypeId) (hg : w.heap[g]? = some (.cells cur te (0, 0)))
    (A : Option Addr) (m c : Nat) (news : List Value) (hl : news.length = m * sz) (hA : A = none → m = 0) (hnews : ∀ a, A = some a → ∀ (j : Nat) u, news[j]? = some u → w.cell? (a.add j) = some u) (h1 : ∀ u ∈ news, u.oneCell' = true)
    (hroom : n + m ≤ cap) (hfit : q + n * sz + news.length ≤ cur.size) :
    (Builtin.append_ #[t, t] ty #[.slice (some ⟨g, q, none⟩) n cap, .slice A m c]).run P w = .ok (.slice (some ⟨g, q, none⟩) (n + m) cap) (w.setRow g (cur.toList.take (q + n * sz) ++ news ++ cur.toList.drop (q + n * sz + news.length)).toArray) := by
  have hf : (Builtin.firstCells sz m (.slice A m c)).run P w = .ok news.toArray w := by
    cases A with
    | none =>
      have := hA rfl
      subst this
      have : news = [] := List.eq_nil_of_length_eq_zero (by simpa using hl)
      subst this
      simp [Builtin.firstCells]
    | some a => exact run_firstCells_some (P := P) w sz m a m c news hl (hnews a rfl)
  have hst := run_storeCells_at P g (q + n * sz) te news 0 cur w hg (by simpa using hfit) h1
  simp only [Nat.add_zero] at hst
  simp [Builtin.append_, run_underlying (slice_of ht), run_sizeOf hi, Builtin.lenOf, hroom, hf, Addr.add_lit, hst]
def SubR (σ : List Ob) (id sz q n : Nat) (cs l : List AV) (x : AV) (σ' : List Ob) : Prop :=
  ∃ (q' : Nat) (cs' : List AV), (q' = q ∧ cs' = cs ++ l ∨ q' = 0 ∧ cs' = cs.drop q ++ l) ∧ x = .sub σ.length sz q' (n + l.length) ∧ σ' = σ.set id .dead ++ [.row sz cs']
theorem does_append_sub {t e : TypeId} {s y : Operand} {z : Value} {sz bt id q n : Nat} {y' : AV} {cs l : List AV} (ho : o.op = .call { callee := .builtin .append, args := #[s, y], argTypes := #[t, t] })
    (ht : tySlice P t = some e) (hi : tyInfo P e = some (some z, sz, bt)) (hzs : z.cells.size = sz) (hsz : 0 < sz) (hx : F.eval s = .sub id sz q n) (hs : σ[id]? = some (.row sz cs)) (hn : q + n = cs.length) (hn0 : 0 < n) (hy : F.eval y = y') (hsrc : Src σ sz y' l)
    (h63 : n + l.length ≤ maxLen) (hby : (n + l.length) * bt ≤ 140737488355328) : DoesR P o F σ (SubR σ id sz q n cs l) :=
  doesR_new fun G ρ hr hop => by
    have g1 := hop s (by simp [ho, Op.operands, Call.operands])
    have g2 := hop y (by simp [ho, Op.operands, Call.operands])
    rw [hx] at g1
    rw [hy] at g2
    generalize hv1 : ρ s = v1 at g1
    have hid : id < σ.length := (List.getElem?_eq_some_iff.1 hs).1
    have hbl : (cs.drop q).length = n := by rw [List.length_drop]; omega
    have hbase : (cs.drop q).take n = cs.drop q := List.take_of_length_le (by omega)
    obtain ⟨B0, cap, olds, hvo, hvb⟩ := src_vals hsz hr (Src.sub id _ cs hs rfl q n (by omega)) g1
    rw [hbase] at hvb hvo
    rw [hbl] at hvo
    cases g1 with
    | sub _ _ _ _ b cap0 A0 hm hA0 hc0 =>
      cases hvo
      obtain ⟨c1, c2, cur, te2, f2, h3, h4⟩ := hc0
      have hA0 := hA0 hn0
      subst hA0
      have h1 := hr.obs id _ hs
      simp only [ObOk, hm] at h1
      obtain ⟨⟨cur0, te, fr, hcur, rfl, hcl, hrow⟩, hbb, hst⟩ := h1
      rw [hcur] at h3
      cases h3
      obtain ⟨A, c, news, hv2, hvn⟩ := src_vals hsz hr hsrc g2
      have hsmall : n + l.length ≤ 9223372036854775807 := by simp only [maxLen] at h63; omega
      have hop2 : ∀ (v : Value) (w : World), (Builtin.append_ #[t, t] o.type #[.slice (some ⟨b, q * sz, none⟩) n cap, .slice A l.length c]).run P G.w = .ok v w → (execOp ρ o).run P G.w = .ok (.value v) w := by
        intro v w h
        simp only [execOp, ho, resolve, invoke, builtin, Sem.run_bind, Sem.run_pure, Result.andThen_ok, List.map_toArray, List.map_cons, List.map_nil, hv1, hv2, h]
      have hAn : A = none → l.length = 0 := fun h => by rw [hvn.nil h]; rfl
      have hol := hvb.len
      rw [hbl] at hol
      have hk := kill_rel hr id
      have hcl3 : cur.toList.length = cur.size := Array.length_toList
      by_cases hroom : n + l.length ≤ cap
      · -- in its place
        have hcsz : q * sz + n * sz = cs.length * sz := by rw [← Nat.add_mul, hn]
        have hfit : q * sz + n * sz + news.length ≤ cur.size := by
          rw [hvn.len, ← Nat.add_mul, ← Nat.add_mul]
          exact Nat.le_trans (Nat.mul_le_mul_right _ (by omega)) h4
        have hrun := run_append_at (P := P) ht hi (ty := o.type) G.w b (q * sz) n cap cur te2 hcur A l.length c news hvn.len hAn hvn.at_ hvn.one hroom hfit
        rw [hcsz] at hrun hfit
        obtain ⟨nc, hnc⟩ : ∃ nc : Array Value, nc = (cur.toList.take (cs.length * sz) ++ news ++ cur.toList.drop (cs.length * sz + news.length)).toArray := ⟨_, rfl⟩
        rw [← hnc] at hrun
        have hncs : nc.size = cur.size := by
          rw [hnc]
          simp only [List.size_toArray, List.length_append, List.length_take, List.length_drop, Array.length_toList]
          omega
        have hrow2 : ∀ (k : Nat) x, (cs ++ l)[k]? = some x → x.cells.length = sz ∧ (∀ c ∈ x.cells, c.one = true) ∧ ∀ (j : Nat) c, x.cells[j]? = some c → ∃ v, nc[k * sz + j]? = some v ∧ Rep G v c := by
          intro k x hkx
          have hkl : k < cs.length + l.length := by have := (List.getElem?_eq_some_iff.1 hkx).1; simpa using this
          by_cases hk1 : k < cs.length
          · rw [List.getElem?_append_left hk1] at hkx
            obtain ⟨r1, r2, r3⟩ := hrow k x hkx
            refine ⟨r1, r2, fun j c hc => ?_⟩
            have hj : j < sz := by have := (List.getElem?_eq_some_iff.1 hc).1; omega
            have hpos : k * sz + j < cs.length * sz := by
              have : (k + 1) * sz ≤ cs.length * sz := Nat.mul_le_mul_right _ hk1
              rw [Nat.add_mul] at this; omega
            obtain ⟨u, r4, r5⟩ := r3 j c hc
            refine ⟨u, ?_, r5⟩
            rw [hnc, List.getElem?_toArray, List.append_assoc, List.getElem?_append_left (by rw [List.length_take, hcl3]; omega), List.getElem?_take, if_pos hpos, Array.getElem?_toList]
            exact r4
          · rw [List.getElem?_append_right (by omega)] at hkx
            obtain ⟨r1, r2, r3⟩ := hvn.rep _ x hkx
            refine ⟨r1, r2, fun j c hc => ?_⟩
            have hj : j < sz := by have := (List.getElem?_eq_some_iff.1 hc).1; omega
            obtain ⟨u, r4, r5⟩ := r3 j c hc
            refine ⟨u, ?_, r5⟩
            have hle : cs.length * sz ≤ k * sz := Nat.mul_le_mul_right _ (by omega)
            have hlt : (k - cs.length) * sz + j < news.length := (List.getElem?_eq_some_iff.1 r4).1
            have htk : (cur.toList.take (cs.length * sz)).length = cs.length * sz := by rw [List.length_take, hcl3]; omega
            rw [Nat.sub_mul] at hlt r4
            rw [hnc, List.getElem?_toArray, List.append_assoc, List.getElem?_append_right (by rw [htk]; omega), htk, List.getElem?_append_left (by omega)]
            rw [← r4]
            congr 1
            omega
        have hw := write_rel (cs' := cs ++ l) hr hs hm hcur hncs (by rw [hncs, List.length_append, Nat.add_mul, ← hvn.len]; exact hfit) hrow2
        have hwe := write_ext hr hs hm hcur hncs
        have hm2 : ({ G with w := G.w.setRow b nc } : Cx).mu id = some (some b) := hm
        obtain ⟨h9, h10⟩ := rename_rel (id := id) (sz := sz) (cs := cs ++ l) hw (by rw [List.getElem?_set_self hid]) hm2
        rw [List.set_set, List.length_set] at h9
        rw [List.length_set] at h10
        refine ⟨_, _, .sub σ.length sz q (n + l.length), σ.set id .dead ++ [.row sz (cs ++ l)], ⟨q, _, .inl ⟨rfl, rfl⟩, rfl, rfl⟩, hop2 _ _ hrun, hwe.trans h10, h9, ?_⟩
        refine .sub σ.length sz q _ b cap _ (by simp [Cx.new]) (fun _ => rfl) ⟨hroom, c2, nc, te2, (0, 0), ?_, by rw [hncs]; exact h4⟩
        exact setRow_heap _ _ cur nc _ _ hcur
      · -- into a new block
        have hrun := run_append_new (P := P) ht hi (ty := o.type) G.w (some ⟨b, q * sz, none⟩) n cap olds hol (fun h => by cases h) hvb.at_ A l.length c news hvn.len hAn hvn.at_ (by omega) hsmall hby
        obtain ⟨cells, hcs⟩ : ∃ cells, cells = olds.toArray ++ news.toArray ++ Builtin.zeroCells z.cells (grownCap G.w (n + l.length) cap e - (n + l.length)) := ⟨_, rfl⟩
        rw [← hcs] at hrun
        have hge := grownCap_ge G.w (n + l.length) cap e
        have hcm : grownCap G.w (n + l.length) cap e ≤ maxLen := grownCap_le_maxLen G.w _ cap e h63
        have hsize : cells.size = grownCap G.w (n + l.length) cap e * sz := by
          rw [hcs]
          simp only [Array.size_append, List.size_toArray, size_zeroCells, hzs, hol, hvn.len, ← Nat.add_mul]
          congr 1
          omega
        have hcl2 : ∀ i, i < (n + l.length) * sz → cells[i]? = (olds ++ news)[i]? := fun i hi => by
          rw [hcs, ← Array.getElem?_toList]
          simp only [Array.toList_append, List.append_assoc]
          rw [← List.append_assoc, List.getElem?_append_left (by rw [List.length_append, hol, hvn.len, ← Nat.add_mul]; exact hi)]
        have hrow2 : ∀ (k : Nat) x, (cs.drop q ++ l)[k]? = some x → x.cells.length = sz ∧ (∀ c ∈ x.cells, c.one = true) ∧ ∀ (j : Nat) c, x.cells[j]? = some c → ∃ v, cells[k * sz + j]? = some v ∧ Rep G v c := by
          intro k x hkx
          have hkl : k < n + l.length := by have := (List.getElem?_eq_some_iff.1 hkx).1; rw [List.length_append, hbl] at this; exact this
          have hpos : ∀ j, j < sz → k * sz + j < (n + l.length) * sz := fun j hj => by
            have : (k + 1) * sz ≤ (n + l.length) * sz := Nat.mul_le_mul_right _ hkl
            rw [Nat.add_mul] at this; omega
          by_cases hk1 : k < n
          · rw [List.getElem?_append_left (by omega)] at hkx
            obtain ⟨r1, r2, r3⟩ := hvb.rep k x hkx
            refine ⟨r1, r2, fun j c hc => ?_⟩
            have hj : j < sz := by have := (List.getElem?_eq_some_iff.1 hc).1; omega
            obtain ⟨u, r4, r5⟩ := r3 j c hc
            refine ⟨u, ?_, r5⟩
            rw [hcl2 _ (hpos j hj), List.getElem?_append_left (List.getElem?_eq_some_iff.1 r4).1]
            exact r4
          · rw [List.getElem?_append_right (by omega), hbl] at hkx
            obtain ⟨r1, r2, r3⟩ := hvn.rep _ x hkx
            refine ⟨r1, r2, fun j c hc => ?_⟩
            have hj : j < sz := by have := (List.getElem?_eq_some_iff.1 hc).1; omega
            obtain ⟨u, r4, r5⟩ := r3 j c hc
            refine ⟨u, ?_, r5⟩
            have hle : n * sz ≤ k * sz := Nat.mul_le_mul_right _ (by omega)
            rw [Nat.sub_mul] at r4
            rw [hcl2 _ (hpos j hj), List.getElem?_append_right (by omega), hol, ← r4]
            congr 1
            omega
        have h9 := alloc_rel hk G.w.drew rfl hk.below.drew cells e sz (cs.drop q ++ l) (by rw [hsize, List.length_append, hbl]; exact Nat.mul_le_mul_right _ hge) hrow2
        have h10 := alloc_ext hk G.w.drew rfl cells e
        rw [List.length_set] at h9 h10
        refine ⟨_, _, .sub σ.length sz 0 (n + l.length), σ.set id .dead ++ [.row sz (cs.drop q ++ l)], ⟨0, _, .inr ⟨rfl, rfl⟩, rfl, rfl⟩, hop2 _ _ hrun, h10, h9, ?_⟩
        refine .sub σ.length sz 0 _ G.w.heap.size _ _ (by simp [Cx.new]) (fun _ => by simp) ⟨hge, hcm, cells, e, (0, 0), ?_, by rw [hsize, Nat.zero_add]; exact Nat.le_refl _⟩
        show (G.w.drew.alloc (.cells cells e)).heap[G.w.heap.size]? = _
        exact heap_alloc_new G.w.drew _
end
section
variable {P : Program} {N : Nat} {F : Frm} {σ σ' : List Ob} {Q : Exit → Frm → List Ob → Prop} {ops : Array Oper} {o : Oper} {l : List Oper} {x : AV}
theorem ops_opR {d : Nat} {R : AV → List Ob → Prop} (hd : o.dst = some d) (hN : Nat.blt d N = true) (hr : Runs ops F o true) (hD : DoesR P o F σ R) (k : ∀ x σ', R x σ' → AOps P N ops l ((d, x) :: F) σ' Q) : AOps P N ops (o :: l) F σ Q := fun G a hs => by
  unfold wpList
  rw [if_pos (hr.wanted hs.fr)]
  left
  refine hD G a _ _ hs.rel (fun y _ => rep_eval hs.fr y) (fun v G' x σ' hR e r hv => ?_)
  rw [hd]
  exact wpList_mono (fun e' a w q => lift_mono e.step (fun _ _ _ x => x) q) _ _ _ (k x σ' hR G' _ ((hs.step e r).put (by simpa [Nat.blt_eq] using hN) hv))
theorem kops_opR {d : Nat} {R : AV → List Ob → Prop} (hd : o.dst = some d) (hN : Nat.blt d N = true) (hr : Runs ops F o true) (hD : DoesR P o F σ R) (k : ∀ x σ', R x σ' → KOps P N ops l ((d, x) :: F) σ' Q) : KOps P N ops (o :: l) F σ Q := fun G a hs => by
  unfold wpList
  rw [if_pos (hr.wanted hs.fr)]
  left
  refine hD G a _ _ hs.rel (fun y _ => rep_eval hs.fr y) (fun v G' x σ' hR e r hv => ?_)
  rw [hd]
  exact wpList_mono (fun e' a w q => liftK_mono (.of e) (fun _ _ _ x => x) q) _ _ _ (k x σ' hR G' _ ((hs.step e r).put (by simpa [Nat.blt_eq] using hN) hv))
/-- a row of the call's own as a part of itself -/
theorem rep_own_sub {G : Cx} {v : Value} {id sz n : Nat} (h0 : 0 < n) (h : Rep G v (.own id sz n)) : Rep G v (.sub id sz 0 n) := by
  cases h with
  | own0 => omega
  | own _ _ _ b cap hm hn hc hb =>
    obtain ⟨cur, te, f, h3, h4⟩ := hb
    exact .sub id sz 0 n b cap _ hm (fun _ => by simp) ⟨hn, hc, cur, te, f, h3, by rw [h4, Nat.zero_add]; exact Nat.le_refl _⟩
theorem kwk_sub0 {d id sz n : Nat} (hd : F.get d = .own id sz n) (h0 : 0 < n) : WeakK N F σ ((d, .sub id sz 0 n) :: F) σ := fun G a h =>
  ⟨G, rfl, .refl G, h.rel, h.fr.more (rep_own_sub h0 (by rw [← hd]; exact h.fr d)), h.df, h.nt⟩
theorem wk_sub0 {d id sz n : Nat} (hd : F.get d = .own id sz n) (h0 : 0 < n) : Weak N F σ ((d, .sub id sz 0 n) :: F) σ := fun G a h =>
  ⟨G, rfl, .refl G, h.rel, h.fr.more (rep_own_sub h0 (by rw [← hd]; exact h.fr d)), h.df, h.nt⟩
/-- a call that writes the row with the name 0 and returns something -/
structure CallR (P : Program) (f : FuncId) (args : List AV) (σ : List Ob) (y : AV) (σ' : List Ob) : Prop where
  ent : Enters P f
  call : ∀ (G : Cx) (vargs : Array Value), Rel G σ → vargs.size = args.length → (∀ (j : Nat) v x, vargs[j]? = some v → args[j]? = some x → Rep G v x) →
    Calls P f vargs G.w fun ex w' => ∃ (v : Value) (G' : Cx), ex = .returned v ∧ G'.w = w' ∧ KE G G' ∧ Rel G' σ' ∧ Rep G' v y
variable {d : Nat} {fo : Operand} {ar : Array Operand} {ts : Array TypeId} {f : FuncId} {y : AV} {args caps : List AV}
theorem ops_callR (hd : o.dst = some d) (hN : Nat.blt d N = true) (hr : Runs ops F o true) (ho : o.op = .call { callee := .value fo, args := ar, argTypes := ts }) (hf : F.eval fo = .fn f caps) (hp : CallR P f args σ y σ') (ha : ar.toList.map F.eval ++ caps = args) (hF : ∀ p ∈ F, Lo 1 p.2)
    (k : AOps P N ops l ((d, y) :: F) σ' Q) : AOps P N ops (o :: l) F σ Q := fun G a hs => by
  unfold wpList
  rw [if_pos (hr.wanted hs.fr)]
  left
  obtain ⟨cap, h1, h2, h3⟩ := call_args ho (fun y _ => rep_eval hs.fr y) hf
  rw [ha] at h2 h3
  unfold Oper.wp
  rw [call_enter ho a.eval h1 hp.ent G.w, Oper.upon_enter]
  refine (hp.call G _ hs.rel h2 h3).mono ?_
  rintro ex w' ⟨v, G', rfl, rfl, hk, hr', hv⟩
  rw [hd]
  have hfr : FOk G' a F := fr_keep hF hs.fr hk
  exact wpList_mono (fun e' a w q => lift_mono hk.step (fun _ _ _ x => x) q) _ _ _ (k G' _ (S8.put ⟨hr', hfr, hs.df, hs.nt⟩ (by simpa [Nat.blt_eq] using hN) hv))
theorem callR_fn {fn : Func} {c : Code} {t : Nat} (hf : P.funcs[f]? = some fn) (hname : (fn.name == "runtime.NumGoroutine") = false) (hb : fn.body = some c) (hn : args.length ≤ fn.ntmps) (hres : fn.results.toList = [.tmp t])
    (h : KWp P fn.ntmps c (argF 0 args) σ (fun e F σ1 => (e = .normal ∨ e = .ret) ∧ F.get t = y ∧ σ1 = σ')) : CallR P f args σ y σ' := by
  refine ⟨enters_of hf hname hb, fun G vargs hrel hsz hrep => ?_⟩
  refine calls_of_wp hf hb ?_
  have hfo : FOk G { tmps := vargs ++ Array.replicate (fn.ntmps - vargs.size) undef, defers := [] } (argF 0 args) := by
    intro d
    rw [argF_get]
    simp only [Nat.zero_le, if_true, Nat.sub_zero]
    by_cases hd : d < args.length
    · have h1 : (vargs ++ Array.replicate (fn.ntmps - vargs.size) undef).getD d undef = vargs[d]'(by omega) := by
        rw [Array.getD_eq_getD_getElem?, Array.getElem?_append_left (by omega)]
        simp [show d < vargs.size by omega]
      rw [h1]
      have h2 : args.getD d .any = args[d] := by rw [List.getD_eq_getElem?_getD, List.getElem?_eq_getElem hd]; rfl
      rw [h2]
      exact hrep d _ _ (by simp [show d < vargs.size by omega]) (by simp [hd])
    · have h2 : args.getD d .any = .any := by
        rw [List.getD_eq_getElem?_getD, List.getElem?_eq_none (by omega)]; rfl
      rw [h2]; exact .any _
  have hs8 : S8 fn.ntmps G { tmps := vargs ++ Array.replicate (fn.ntmps - vargs.size) undef, defers := [] } (argF 0 args) σ := ⟨hrel, hfo, rfl, by simp; omega⟩
  refine Code.wp_mono (fun e a w q => ?_) (h G _ hs8)
  obtain ⟨G', F', σ1, rfl, h2, h3, he, hy, rfl⟩ := q
  have hrl : ResL P F' σ1 fn.results.toList [y] := by rw [hres]; exact .cons _ _ _ _ (.tmp t y hy) .nil
  obtain ⟨v, h6, h7⟩ := results_run (fn := fn) h3.rel h3.fr hrl
  have post : ∃ (v' : Value) (G'' : Cx), Ending.returned v = .returned v' ∧ G''.w = G'.w ∧ KE G G'' ∧ Rel G'' σ1 ∧ Rep G'' v' y := ⟨v, G', rfl, rfl, h2, h3.rel, h7⟩
  rcases he with rfl | rfl
  · exact ⟨h3.df, _, h6, post⟩
  · exact ⟨h3.df, _, h6, post⟩
theorem callR_fn0 {fn : Func} {c : Code} (hf : P.funcs[f]? = some fn) (hname : (fn.name == "runtime.NumGoroutine") = false) (hb : fn.body = some c) (hn : args.length ≤ fn.ntmps) (hres : fn.results.toList = [])
    (h : KWp P fn.ntmps c (argF 0 args) σ (fun e F σ1 => (e = .normal ∨ e = .ret) ∧ σ1 = σ')) : CallR P f args σ (.tup []) σ' := by
  refine ⟨enters_of hf hname hb, fun G vargs hrel hsz hrep => ?_⟩
  refine calls_of_wp hf hb ?_
  have hfo : FOk G { tmps := vargs ++ Array.replicate (fn.ntmps - vargs.size) undef, defers := [] } (argF 0 args) := by
    intro d
    rw [argF_get]
    simp only [Nat.zero_le, if_true, Nat.sub_zero]
    by_cases hd : d < args.length
    · have h1 : (vargs ++ Array.replicate (fn.ntmps - vargs.size) undef).getD d undef = vargs[d]'(by omega) := by
        rw [Array.getD_eq_getD_getElem?, Array.getElem?_append_left (by omega)]
        simp [show d < vargs.size by omega]
      rw [h1]
      have h2 : args.getD d .any = args[d] := by rw [List.getD_eq_getElem?_getD, List.getElem?_eq_getElem hd]; rfl
      rw [h2]
      exact hrep d _ _ (by simp [show d < vargs.size by omega]) (by simp [hd])
    · have h2 : args.getD d .any = .any := by
        rw [List.getD_eq_getElem?_getD, List.getElem?_eq_none (by omega)]; rfl
      rw [h2]; exact .any _
  have hs8 : S8 fn.ntmps G { tmps := vargs ++ Array.replicate (fn.ntmps - vargs.size) undef, defers := [] } (argF 0 args) σ := ⟨hrel, hfo, rfl, by simp; omega⟩
  refine Code.wp_mono (fun e a w q => ?_) (h G _ hs8)
  obtain ⟨G', F', σ1, rfl, h2, h3, he, rfl⟩ := q
  have hrl : ResL P F' σ1 fn.results.toList [] := by rw [hres]; exact .nil
  obtain ⟨v, h6, h7⟩ := results_run (fn := fn) h3.rel h3.fr hrl
  have post : ∃ (v' : Value) (G'' : Cx), Ending.returned v = .returned v' ∧ G''.w = G'.w ∧ KE G G'' ∧ Rel G'' σ1 ∧ Rep G'' v' (.tup []) := ⟨v, G', rfl, rfl, h2, h3.rel, h7⟩
  rcases he with rfl | rfl
  · exact ⟨h3.df, _, h6, post⟩
  · exact ⟨h3.df, _, h6, post⟩
theorem kw_bdo {c : Code} {d id sz n : Nat} (hd : F.get d = .own id sz n) (k : n ≤ maxLen → KWp P N c F σ Q) : KWp P N c F σ Q := fun G a hs => k (rep_leno (by rw [← hd]; exact hs.fr d)) G a hs
end
theorem kwk_sub {N : Nat} {F : Frm} {σ : List Ob} : ∀ {F'}, Sub F F' → WeakK N F σ F' σ := fun {F'} h G a hs => by
  refine ⟨G, rfl, .refl G, hs.rel, ?_, hs.df, hs.nt⟩
  have key : ∀ F', Sub F F' → FOk G a F' := by
    intro F'
    induction F' with
    | nil => intro _ d; exact .any _
    | cons p F' ih =>
      obtain ⟨d, y⟩ := p
      intro h t
      simp only [Frm.get]
      cases e : Nat.beq d t with
      | true => have := Nat.eq_of_beq_eq_true e; subst this; rw [← h.1]; exact hs.fr d
      | false => exact ih h.2 t
  exact key F' h
/-! ## regions that draw their order -/
theorem kw_of {P : Program} {N : Nat} {F : Frm} {σ : List Ob} {Q : Exit → Frm → List Ob → Prop} {c : Code} (h : EWp P N c F σ Q) : KWp P N c F σ Q := fun G a hs =>
  Code.wp_mono (fun e a w q => by obtain ⟨G', F', σ', h1, h2, h3, h4⟩ := q; exact ⟨G', F', σ', h1, KE.of h2, h3, h4⟩) (h G a hs)
theorem kw_draw {P : Program} {N : Nat} {l : List Oper} {F : Frm} {σ : List Ob} {Q : Exit → Frm → List Ob → Prop} {id : Nat} (hm : P.follows .mixedOrders = true) (h : EDraw P N l F σ Q) : KWp P N (.region id l.toArray true) F σ Q := kw_of (ew_draw hm h)
theorem kdraw_ex {P : Program} {N : Nat} {l : List Oper} {F : Frm} {σ : List Ob} {Q : Exit → Frm → List Ob → Prop} (h : EX P N l.toArray l [] l F σ (fun F' σ' => Q .normal F' σ')) : EDraw P N l F σ Q := by
  obtain ⟨F', σ', out, ks, sts, h1, h2, h3⟩ := h
  exact edraw_steps h1 (by simpa using h2) h3
/-! ## a row of rows of the call's own, with the name 0; its rows have the names 1, 2, .. -/
theorem set_last {α : Type} (l : List α) (a b : α) : (l ++ [a]).set l.length b = l ++ [b] := by
  rw [List.set_append_right _ _ (Nat.le_refl _), Nat.sub_self]; rfl
theorem last_get {α : Type} (l : List α) (a : α) : (l ++ [a])[l.length]? = some a := by simp
theorem aw_fzs {P : Program} {N : Nat} {c : Code} {F : Frm} {Q : Exit → Frm → List Ob → Prop} {id sz sz2 : Nat} {S : List Ob} {rows : List (List AV)} (hs : S[id]? = some (.row sz (ownR S.length sz2 rows)))
    (h : ∀ X, AWp P N c F (S.set id (.row sz (rows.map .sl)) ++ X) Q) : AWp P N c F (S ++ obsR sz2 rows) Q := by
  obtain ⟨X, hX⟩ := wk_fzs (N := N) (F := F) hs
  exact aw_weak hX (h X)
theorem lo_nils (n : Nat) : ∀ e ∈ List.replicate n (AV.s (.slice none 0 0)), ∀ c ∈ e.cells, Lo 0 c := by
  intro e he c hc
  rw [List.eq_of_mem_replicate he] at hc
  simp [AV.cells] at hc; subst hc; exact .s _
def sto1 (sz : Nat) (rows : List (List AV)) : List Ob := .row 1 (ownR 1 sz rows) :: obsR sz rows
theorem sto1_len (sz : Nat) (rows : List (List AV)) : (sto1 sz rows).length = rows.length + 1 := by simp [sto1, obsR_len]
theorem sto1_row {sz : Nat} {rows : List (List AV)} {j : Nat} {r : List AV} (h : rows[j]? = some r) : (sto1 sz rows)[j + 1]? = some (.row sz r) := by
  show (obsR sz rows)[j]? = _
  exact obsR_get h
theorem sto1_loOb (sz : Nat) (rows : List (List AV)) (hr : ∀ r ∈ rows, ∀ e ∈ r, ∀ c ∈ e.cells, Lo 0 c) : ∀ ob ∈ sto1 sz rows, LoOb (sto1 sz rows).length ob := by
  rw [sto1_len]
  intro ob hob
  simp only [sto1, List.mem_cons] at hob
  rcases hob with rfl | h
  · intro e he c hc
    simp only [ownR, List.mem_map, List.mem_range] at he
    obtain ⟨t, ht, rfl⟩ := he
    simp [AV.cells] at hc; subst hc
    exact .own _ _ _ (by omega)
  · simp only [obsR, List.mem_map] at h
    obtain ⟨r, h1, rfl⟩ := h
    intro e he c hc; exact lo_up (hr r h1 e he c hc)
/-- an element more in a row -/
theorem sto1_ren {sz : Nat} {rows : List (List AV)} {v K : Nat} {r : List AV} {x : AV} (hv : rows[v]? = some r) (hK : K = rows.length + 1) (hlo : ∀ r ∈ rows, ∀ e ∈ r, ∀ c ∈ e.cells, Lo 0 c) (hx : ∀ c ∈ x.cells, Lo 0 c) :
    StR2 (.row 1 ((ownR 1 sz rows).set v (.own K sz (r.length + 1))) :: (obsR sz rows).set v .dead ++ [.row sz (r ++ [x])]) (mv K (v + 1)) (sto1 sz (rows.set v (r ++ [x]))) := by
  have hvl : v < rows.length := (List.getElem?_eq_some_iff.1 hv).1
  refine stR2_mv (i := v + 1) (by simp [obsR_len, hK]) (by rw [sto1_len, List.length_set, hK]) (ob' := .row sz (r ++ [x])) (sto1_row (List.getElem?_set_self hvl)) (.of _ _ (.rowE (by
    intro e he
    rcases List.mem_append.1 he with h | h
    · exact hlo r (List.mem_of_getElem? hv) e h
    · simp at h; subst h; exact hx) rfl)) (fun t a b ht ha hb => ?_)
  cases t with
  | zero =>
    simp only [List.getElem?_cons_zero, Option.some.injEq] at ha
    subst ha
    have hb : Ob.row 1 (ownR 1 sz (rows.set v (r ++ [x]))) = b := by simpa [sto1] using hb
    subst hb
    have := ownR_mv (m := 1) (sz := sz) (sz0 := 1) (rows := rows) (j := v) (k := K) (r := r ++ [x]) hvl hK
    rwa [List.length_append] at this
  | succ t =>
    rw [List.getElem?_cons_succ, List.getElem?_set_ne (by omega)] at ha
    have hb : (obsR sz (rows.set v (r ++ [x])))[t]? = some b := by simpa [sto1] using hb
    rw [obsR_set, List.getElem?_set_ne (by omega)] at hb
    exact obsR_mv hlo ha hb
/-- an empty slice as a row of the call's own -/
theorem kwk_own {N : Nat} {F : Frm} {σ : List Ob} {d : Nat} {x : AV} (sz : Nat) (hd : F.get d = x) (hx : x = .emp ∨ x = .s (.slice none 0 0)) : WeakK N F σ ((d, .own σ.length sz 0) :: F) (σ ++ [.row sz []]) := fun G a h => by
  have he := nil_ext h.rel
  refine ⟨G.new σ.length G.w none, rfl, .of he, nil_rel h.rel sz, (h.fr.ext he).more ?_, h.df, h.nt⟩
  have h1 := h.fr d
  rw [hd] at h1
  generalize a.tmps.getD d undef = v at h1
  rcases hx with rfl | rfl
  · cases h1 with | emp A hA => exact .own0 σ.length sz A hA (by simp [Cx.new])
  · cases h1; exact .own0 σ.length sz none (fun a ha => by cases ha) (by simp [Cx.new])
/-! ## a row of rows behind other things -/
def stoN (A : List Ob) (sz : Nat) (rows : List (List AV)) : List Ob := A ++ .row 1 (ownR (A.length + 1) sz rows) :: obsR sz rows
theorem stoN_len (A : List Ob) (sz : Nat) (rows : List (List AV)) : (stoN A sz rows).length = rows.length + (A.length + 1) := by simp [stoN, obsR_len]; omega
theorem stoN_row {A : List Ob} {sz : Nat} {rows : List (List AV)} {j : Nat} {r : List AV} (h : rows[j]? = some r) : (stoN A sz rows)[j + (A.length + 1)]? = some (.row sz r) := by
  unfold stoN
  rw [List.getElem?_append_right (by omega), show j + (A.length + 1) - A.length = j + 1 by omega]
  exact obsR_get h
theorem stoN_loOb {A : List Ob} {sz : Nat} {rows : List (List AV)} (hA : ∀ ob ∈ A, LoOb (A.length + 1) ob) (hr : ∀ r ∈ rows, ∀ e ∈ r, ∀ c ∈ e.cells, Lo 0 c) (hup : ∀ ob ∈ A, ∀ k, A.length + 1 ≤ k → LoOb k ob) : ∀ ob ∈ stoN A sz rows, LoOb (stoN A sz rows).length ob := by
  rw [stoN_len]
  intro ob hob
  simp only [stoN, List.mem_append, List.mem_cons] at hob
  rcases hob with h | rfl | h
  · exact hup ob h _ (by omega)
  · intro e he c hc
    simp only [ownR, List.mem_map, List.mem_range] at he
    obtain ⟨t, ht, rfl⟩ := he
    simp [AV.cells] at hc; subst hc
    exact .own _ _ _ (by omega)
  · simp only [obsR, List.mem_map] at h
    obtain ⟨r, h1, rfl⟩ := h
    intro e he c hc; exact lo_up (hr r h1 e he c hc)
/-- an element more in a row -/
theorem stoN_ren {A : List Ob} {sz : Nat} {rows : List (List AV)} {v K : Nat} {r : List AV} {x : AV} (hA : ∀ a ∈ A, ObR2 (mv K (v + (A.length + 1))) a a) (hv : rows[v]? = some r) (hK : K = rows.length + (A.length + 1)) (hlo : ∀ r ∈ rows, ∀ e ∈ r, ∀ c ∈ e.cells, Lo 0 c) (hx : ∀ c ∈ x.cells, Lo 0 c) :
    StR2 ((A ++ .row 1 ((ownR (A.length + 1) sz rows).set v (.own K sz (r.length + 1))) :: (obsR sz rows).set v .dead) ++ [.row sz (r ++ [x])]) (mv K (v + (A.length + 1))) (stoN A sz (rows.set v (r ++ [x]))) := by
  have hvl : v < rows.length := (List.getElem?_eq_some_iff.1 hv).1
  refine stR2_mv (i := v + (A.length + 1)) (by simp [obsR_len, hK]; omega) (by rw [stoN_len, List.length_set, hK]) (ob' := .row sz (r ++ [x])) (stoN_row (List.getElem?_set_self hvl)) (.of _ _ (.rowE (by
    intro e he
    rcases List.mem_append.1 he with h | h
    · exact hlo r (List.mem_of_getElem? hv) e h
    · simp at h; subst h; exact hx) rfl)) (fun t a b ht ha hb => ?_)
  unfold stoN at hb
  by_cases h1 : t < A.length
  · rw [List.getElem?_append_left h1] at ha hb
    rw [ha] at hb
    obtain rfl := Option.some.inj hb
    exact hA a (List.mem_of_getElem? ha)
  · rw [List.getElem?_append_right (by omega)] at ha hb
    obtain ⟨u, hu⟩ : ∃ u, t - A.length = u := ⟨_, rfl⟩
    rw [hu] at ha hb
    cases u with
    | zero =>
      simp only [List.getElem?_cons_zero, Option.some.injEq] at ha hb
      subst ha hb
      have := ownR_mv (m := A.length + 1) (sz := sz) (sz0 := 1) (rows := rows) (j := v) (k := K) (r := r ++ [x]) hvl hK
      rwa [List.length_append] at this
    | succ u =>
      rw [List.getElem?_cons_succ] at ha hb
      rw [List.getElem?_set_ne (by omega)] at ha
      rw [obsR_set, List.getElem?_set_ne (by omega)] at hb
      exact obsR_mv hlo ha hb
end Go.Proofs.Ythdpacbjbdkemaa.Aw
end
section
namespace Go.Proofs.Ythdpacbjbdkemaa.Aw
set_option linter.unusedSimpArgs false
set_option linter.unusedVariables false
set_option linter.unusedSectionVars false
open Go Go.RowKit Go.Proofs
variable {P : Program} [IsP P]
theorem indexFIs_pf (f : FuncId) (caps : List AV) (p : (List Int) → Bool) (l : List (List Int)) (hlo : ∀ a : (List Int), Lo 0 ((eL eI) a)) (hlc : Lo 0 (.fn f caps)) (hf : ∀ a ∈ l, Pure P f ([(eL eI) a] ++ caps) (eB (p a))) :
    Pure P 45 [eL (eL eI) l, .fn f caps] (eI (firstAt p l)) := by
  refine aw_fn (by rw [IsP.eq (P := P)]; exact Try.func45) rfl rfl rfl rfl rfl (lo_cons (lo_map hlo) (lo_cons hlc lo_nil)) (.s _) (by simp only [argF]; rfl) ?_
  refine aw_bdm (d := 0) rfl (fun hmx => ?_)
  unfold maxLen at hmx
  repeat (first | refine aw_seq ?_ | refine ath_n ?_ | refine aw_skip ?_ | refine abl_n ?_ | refine aw_block ?_)
  refine aw_region ?_
  refine ops_op rfl rfl (runs_none rfl) (mv_s (.inr rfl) rfl) ?_
  refine ops_nil ?_
  repeat (first | refine aw_seq ?_ | refine ath_n ?_ | refine aw_skip ?_ | refine abl_n ?_ | refine aw_block ?_)
  refine aw_region ?_
  first | refine ops_op rfl rfl (runs_none rfl) (mv_own (.inl rfl) rfl) ?_ | refine ops_op rfl rfl (runs_none rfl) (mv_sl (.inl rfl) rfl) ?_ | refine ops_op rfl rfl (runs_none rfl) (mv_s (.inl rfl) rfl) ?_ | refine ops_op rfl rfl (runs_none rfl) (mv_emp (.inl rfl) rfl) ?_
  first | refine ops_op rfl rfl (runs_none rfl) (does_len_map rfl ts26 rfl) ?_ | refine ops_op rfl rfl (runs_none rfl) (does_len_sl rfl ts26 rfl) ?_ | refine ops_op rfl rfl (runs_none rfl) (does_len_own rfl ts26 rfl) ?_ | refine ops_op rfl rfl (runs_none rfl) (does_len_s rfl ts26 rfl) ?_ | refine ops_op rfl rfl (runs_none rfl) (does_len_emp rfl ts26 rfl) ?_ | refine ops_op rfl rfl (runs_none rfl) (does_len_sub rfl ts26 rfl) ?_
  refine ops_op rfl rfl (runs_none rfl) (mv_s (.inl rfl) rfl) ?_
  refine ops_nil ?_
  repeat (first | refine aw_seq ?_ | refine ath_n ?_ | refine aw_skip ?_ | refine abl_n ?_ | refine aw_block ?_)
  refine aw_loops (S := Nat) (fun k => [(0, eL (eL eI) l), (1, .fn f caps), (7, eI l.length), (8, eI k)]) (fun _ => []) (fun k => k ≤ l.length ∧ ∀ j a, j < k → l[j]? = some a → p a = false) (fun k => l.length - k) 0 (wk_sub _ ⟨rfl, rfl, rfl, rfl, trivial⟩) ⟨by omega, fun j a hj => by omega⟩ (fun k hk => ?_)
  repeat (first | refine aw_seq ?_ | refine ath_n ?_ | refine aw_skip ?_ | refine abl_n ?_ | refine aw_block ?_)
  refine aw_region ?_
  refine ops_op rfl rfl (runs_none rfl) (does_lss rfl rfl rfl) ?_
  refine ops_nil ?_
  repeat (first | refine aw_seq ?_ | refine ath_n ?_ | refine aw_skip ?_ | refine abl_n ?_ | refine aw_block ?_)
  refine aw_if rfl (fun h => ?_) (fun h => ?_)
  · have hlt : k < l.length := by omega
    repeat (first | refine aw_seq ?_ | refine ath_n ?_ | refine aw_skip ?_ | refine abl_n ?_ | refine aw_block ?_)
    refine aw_region ?_
    refine ops_op rfl rfl (runs_none rfl) (mv_s (.inl rfl) rfl) ?_
    refine ops_op rfl rfl (runs_none rfl) (mv_s (.inr rfl) rfl) ?_
    refine ops_nil ?_
    repeat (first | refine aw_seq ?_ | refine ath_n ?_ | refine aw_skip ?_ | refine abl_n ?_ | refine aw_block ?_)
    have hp := hf (gti l k) (gti_mem hlt)
    refine aw_region ?_
    first | refine ops_op rfl rfl (runs_none rfl) (mv_fn (.inl rfl) rfl) ?_ | refine ops_op rfl rfl (runs_none rfl) (mv_s (.inl rfl) rfl) ?_
    first | refine ops_op rfl rfl (runs_none rfl) (mv_own (.inl rfl) rfl) ?_ | refine ops_op rfl rfl (runs_none rfl) (mv_sl (.inl rfl) rfl) ?_ | refine ops_op rfl rfl (runs_none rfl) (mv_s (.inl rfl) rfl) ?_ | refine ops_op rfl rfl (runs_none rfl) (mv_emp (.inl rfl) rfl) ?_
    refine ops_op rfl rfl (runs_none rfl) (mv_s (.inl rfl) rfl) ?_
    first | refine ops_op rfl rfl (runs_none rfl) (does_index_sl rfl ts26 ti25 rfl rfl rfl (ix_map (by omega)) rfl) ?_ | refine ops_op rfl rfl (runs_none rfl) (does_index_own rfl ts26 ti25 rfl rfl rfl (by omega)) ?_ | refine ops_op rfl rfl (runs_none rfl) (does_index_sub rfl ts26 ti25 rfl rfl rfl (by omega)) ?_
    first | refine ops_op rfl rfl (runs_none rfl) (does_load_ref rfl ta25 rfl) ?_ | refine ops_op rfl rfl (runs_none rfl) (does_load_ptr rfl ta25 rfl rfl rfl rfl rfl) ?_
    refine ops_op rfl rfl (runs_none rfl) (does_call rfl rfl (hp) (evc_cons rfl evc_nil)) ?_
    refine ops_nil ?_
    repeat (first | refine aw_seq ?_ | refine ath_n ?_ | refine aw_skip ?_ | refine abl_n ?_ | refine aw_block ?_)
    refine aw_cond rfl (fun h => ?_) (fun h => ?_)
    · repeat (first | refine aw_seq ?_ | refine ath_n ?_ | refine aw_skip ?_ | refine abl_n ?_ | refine aw_block ?_)
      refine aw_region ?_
      refine ops_op rfl rfl (runs_none rfl) (mv_s (.inl rfl) rfl) ?_
      refine ops_op rfl rfl (runs_none rfl) (mv_s (.inr rfl) rfl) ?_
      refine ops_nil ?_
      repeat (first | refine aw_seq ?_ | refine ath_n ?_ | refine aw_skip ?_ | refine abl_n ?_ | refine aw_block ?_)
      (refine aw_ret ?_; repeat (first | refine ath_r ?_ | refine abl_r ?_))
      exact post1 (.inr rfl) rfl (congrArg eI (firstAt_some (gti_get hlt) h hk.2).symm)
    · repeat (first | refine aw_seq ?_ | refine ath_n ?_ | refine aw_skip ?_ | refine abl_n ?_ | refine aw_block ?_)
      refine aw_region ?_
      refine ops_op rfl rfl (runs_none rfl) (does_add rfl rfl rfl (IntWalk.i64_in _ (by omega))) ?_
      refine ops_op rfl rfl (runs_none rfl) (mv_s (.inl rfl) rfl) ?_
      refine ops_nil ?_
      repeat (first | refine aw_seq ?_ | refine ath_n ?_ | refine aw_skip ?_ | refine abl_n ?_ | refine aw_block ?_)
      refine ⟨k + 1, ⟨by omega, fun j a hj ha => ?_⟩, by omega, wk_sub _ ⟨rfl, rfl, rfl, rfl, trivial⟩⟩
      by_cases e : j = k
      · subst e
        rw [gti_get hlt] at ha
        cases ha
        exact h
      · exact hk.2 j a (by omega) ha
  · (refine aw_exit ?_; repeat (first | refine ath_x ?_ | refine abl_hit ?_ | refine abl_miss rfl ?_ | refine abl_n ?_ | refine ath_n ?_ | refine aw_seq ?_ | refine aw_skip ?_ | refine aw_block ?_))
    refine aw_region ?_
    refine ops_op rfl rfl (runs_none rfl) (mv_s (.inr rfl) rfl) ?_
    refine ops_nil ?_
    repeat (first | refine aw_seq ?_ | refine ath_n ?_ | refine aw_skip ?_ | refine abl_n ?_ | refine aw_block ?_)
    (refine aw_ret ?_; repeat (first | refine ath_r ?_ | refine abl_r ?_))
    exact post1 (.inr rfl) rfl (congrArg eI (firstAt_none (fun j a hj ha => hk.2 j a (by omega) ha)).symm)
theorem indexFMv_pf (f : FuncId) (caps : List AV) (p : Mvx → Bool) (l : List Mvx) (hlo : ∀ a : Mvx, Lo 0 (eMv a)) (hlc : Lo 0 (.fn f caps)) (hf : ∀ a ∈ l, Pure P f ([eMv a] ++ caps) (eB (p a))) :
    Pure P 84 [eL eMv l, .fn f caps] (eI (firstAt p l)) := by
  refine aw_fn (by rw [IsP.eq (P := P)]; exact Try.func84) rfl rfl rfl rfl rfl (lo_cons (lo_map hlo) (lo_cons hlc lo_nil)) (.s _) (by simp only [argF]; rfl) ?_
  refine aw_bdm (d := 0) rfl (fun hmx => ?_)
  unfold maxLen at hmx
  repeat (first | refine aw_seq ?_ | refine ath_n ?_ | refine aw_skip ?_ | refine abl_n ?_ | refine aw_block ?_)
  refine aw_region ?_
  refine ops_op rfl rfl (runs_none rfl) (mv_s (.inr rfl) rfl) ?_
  refine ops_nil ?_
  repeat (first | refine aw_seq ?_ | refine ath_n ?_ | refine aw_skip ?_ | refine abl_n ?_ | refine aw_block ?_)
  refine aw_region ?_
  first | refine ops_op rfl rfl (runs_none rfl) (mv_own (.inl rfl) rfl) ?_ | refine ops_op rfl rfl (runs_none rfl) (mv_sl (.inl rfl) rfl) ?_ | refine ops_op rfl rfl (runs_none rfl) (mv_s (.inl rfl) rfl) ?_ | refine ops_op rfl rfl (runs_none rfl) (mv_emp (.inl rfl) rfl) ?_
  first | refine ops_op rfl rfl (runs_none rfl) (does_len_map rfl ts27 rfl) ?_ | refine ops_op rfl rfl (runs_none rfl) (does_len_sl rfl ts27 rfl) ?_ | refine ops_op rfl rfl (runs_none rfl) (does_len_own rfl ts27 rfl) ?_ | refine ops_op rfl rfl (runs_none rfl) (does_len_s rfl ts27 rfl) ?_ | refine ops_op rfl rfl (runs_none rfl) (does_len_emp rfl ts27 rfl) ?_ | refine ops_op rfl rfl (runs_none rfl) (does_len_sub rfl ts27 rfl) ?_
  refine ops_op rfl rfl (runs_none rfl) (mv_s (.inl rfl) rfl) ?_
  refine ops_nil ?_
  repeat (first | refine aw_seq ?_ | refine ath_n ?_ | refine aw_skip ?_ | refine abl_n ?_ | refine aw_block ?_)
  refine aw_loops (S := Nat) (fun k => [(0, eL eMv l), (1, .fn f caps), (7, eI l.length), (8, eI k)]) (fun _ => []) (fun k => k ≤ l.length ∧ ∀ j a, j < k → l[j]? = some a → p a = false) (fun k => l.length - k) 0 (wk_sub _ ⟨rfl, rfl, rfl, rfl, trivial⟩) ⟨by omega, fun j a hj => by omega⟩ (fun k hk => ?_)
  repeat (first | refine aw_seq ?_ | refine ath_n ?_ | refine aw_skip ?_ | refine abl_n ?_ | refine aw_block ?_)
  refine aw_region ?_
  refine ops_op rfl rfl (runs_none rfl) (does_lss rfl rfl rfl) ?_
  refine ops_nil ?_
  repeat (first | refine aw_seq ?_ | refine ath_n ?_ | refine aw_skip ?_ | refine abl_n ?_ | refine aw_block ?_)
  refine aw_if rfl (fun h => ?_) (fun h => ?_)
  · have hlt : k < l.length := by omega
    repeat (first | refine aw_seq ?_ | refine ath_n ?_ | refine aw_skip ?_ | refine abl_n ?_ | refine aw_block ?_)
    refine aw_region ?_
    refine ops_op rfl rfl (runs_none rfl) (mv_s (.inl rfl) rfl) ?_
    refine ops_op rfl rfl (runs_none rfl) (mv_s (.inr rfl) rfl) ?_
    refine ops_nil ?_
    repeat (first | refine aw_seq ?_ | refine ath_n ?_ | refine aw_skip ?_ | refine abl_n ?_ | refine aw_block ?_)
    have hp := hf (gti l k) (gti_mem hlt)
    refine aw_region ?_
    first | refine ops_op rfl rfl (runs_none rfl) (mv_fn (.inl rfl) rfl) ?_ | refine ops_op rfl rfl (runs_none rfl) (mv_s (.inl rfl) rfl) ?_
    first | refine ops_op rfl rfl (runs_none rfl) (mv_own (.inl rfl) rfl) ?_ | refine ops_op rfl rfl (runs_none rfl) (mv_sl (.inl rfl) rfl) ?_ | refine ops_op rfl rfl (runs_none rfl) (mv_s (.inl rfl) rfl) ?_ | refine ops_op rfl rfl (runs_none rfl) (mv_emp (.inl rfl) rfl) ?_
    refine ops_op rfl rfl (runs_none rfl) (mv_s (.inl rfl) rfl) ?_
    first | refine ops_op rfl rfl (runs_none rfl) (does_index_sl rfl ts27 ti56 rfl rfl rfl (ix_map (by omega)) rfl) ?_ | refine ops_op rfl rfl (runs_none rfl) (does_index_own rfl ts27 ti56 rfl rfl rfl (by omega)) ?_ | refine ops_op rfl rfl (runs_none rfl) (does_index_sub rfl ts27 ti56 rfl rfl rfl (by omega)) ?_
    first | refine ops_op rfl rfl (runs_none rfl) (does_load_refw rfl ta56 ti56 rfl rfl) ?_ | refine ops_op rfl rfl (runs_none rfl) (does_load_whole rfl ta56 ti56 rfl rfl rfl rfl rfl) ?_ | refine ops_op rfl rfl (runs_none rfl) (does_load_refs rfl ta56 ti56 rfl (Nat.le_of_ble_eq_true rfl)) ?_ | refine ops_op rfl rfl (runs_none rfl) (does_load_ptrs rfl ta56 ti56 rfl rfl rfl rfl (Nat.le_of_ble_eq_true rfl)) ?_
    refine ops_op rfl rfl (runs_none rfl) (does_call rfl rfl (hp) (evc_cons rfl evc_nil)) ?_
    refine ops_nil ?_
    repeat (first | refine aw_seq ?_ | refine ath_n ?_ | refine aw_skip ?_ | refine abl_n ?_ | refine aw_block ?_)
    refine aw_cond rfl (fun h => ?_) (fun h => ?_)
    · repeat (first | refine aw_seq ?_ | refine ath_n ?_ | refine aw_skip ?_ | refine abl_n ?_ | refine aw_block ?_)
      refine aw_region ?_
      refine ops_op rfl rfl (runs_none rfl) (mv_s (.inl rfl) rfl) ?_
      refine ops_op rfl rfl (runs_none rfl) (mv_s (.inr rfl) rfl) ?_
      refine ops_nil ?_
      repeat (first | refine aw_seq ?_ | refine ath_n ?_ | refine aw_skip ?_ | refine abl_n ?_ | refine aw_block ?_)
      (refine aw_ret ?_; repeat (first | refine ath_r ?_ | refine abl_r ?_))
      exact post1 (.inr rfl) rfl (congrArg eI (firstAt_some (gti_get hlt) h hk.2).symm)
    · repeat (first | refine aw_seq ?_ | refine ath_n ?_ | refine aw_skip ?_ | refine abl_n ?_ | refine aw_block ?_)
      refine aw_region ?_
      refine ops_op rfl rfl (runs_none rfl) (does_add rfl rfl rfl (IntWalk.i64_in _ (by omega))) ?_
      refine ops_op rfl rfl (runs_none rfl) (mv_s (.inl rfl) rfl) ?_
      refine ops_nil ?_
      repeat (first | refine aw_seq ?_ | refine ath_n ?_ | refine aw_skip ?_ | refine abl_n ?_ | refine aw_block ?_)
      refine ⟨k + 1, ⟨by omega, fun j a hj ha => ?_⟩, by omega, wk_sub _ ⟨rfl, rfl, rfl, rfl, trivial⟩⟩
      by_cases e : j = k
      · subst e
        rw [gti_get hlt] at ha
        cases ha
        exact h
      · exact hk.2 j a (by omega) ha
  · (refine aw_exit ?_; repeat (first | refine ath_x ?_ | refine abl_hit ?_ | refine abl_miss rfl ?_ | refine abl_n ?_ | refine ath_n ?_ | refine aw_seq ?_ | refine aw_skip ?_ | refine aw_block ?_))
    refine aw_region ?_
    refine ops_op rfl rfl (runs_none rfl) (mv_s (.inr rfl) rfl) ?_
    refine ops_nil ?_
    repeat (first | refine aw_seq ?_ | refine ath_n ?_ | refine aw_skip ?_ | refine abl_n ?_ | refine aw_block ?_)
    (refine aw_ret ?_; repeat (first | refine ath_r ?_ | refine abl_r ?_))
    exact post1 (.inr rfl) rfl (congrArg eI (firstAt_none (fun j a hj ha => hk.2 j a (by omega) ha)).symm)
theorem containsFMv_pf (f : FuncId) (caps : List AV) (p : Mvx → Bool) (l : List Mvx) (hlo : ∀ a : Mvx, Lo 0 (eMv a)) (hlc : Lo 0 (.fn f caps)) (hf : ∀ a ∈ l, Pure P f ([eMv a] ++ caps) (eB (p a))) :
    Pure P 67 [eL eMv l, .fn f caps] (eB (l.any p)) := by
  refine aw_fn (by rw [IsP.eq (P := P)]; exact Try.func67) rfl rfl rfl rfl rfl (lo_cons (lo_map hlo) (lo_cons hlc lo_nil)) (.s _) (by simp only [argF]; rfl) ?_
  have hi := indexFMv_pf f caps p l hlo hlc hf
  repeat (first | refine aw_seq ?_ | refine ath_n ?_ | refine aw_skip ?_ | refine abl_n ?_ | refine aw_block ?_)
  refine aw_region ?_
  refine ops_op rfl rfl (runs_none rfl) (mv_s (.inr rfl) rfl) ?_
  refine ops_nil ?_
  repeat (first | refine aw_seq ?_ | refine ath_n ?_ | refine aw_skip ?_ | refine abl_n ?_ | refine aw_block ?_)
  refine aw_region ?_
  first | refine ops_op rfl rfl (runs_none rfl) (mv_own (.inl rfl) rfl) ?_ | refine ops_op rfl rfl (runs_none rfl) (mv_sl (.inl rfl) rfl) ?_ | refine ops_op rfl rfl (runs_none rfl) (mv_s (.inl rfl) rfl) ?_ | refine ops_op rfl rfl (runs_none rfl) (mv_emp (.inl rfl) rfl) ?_
  first | refine ops_op rfl rfl (runs_none rfl) (mv_fn (.inl rfl) rfl) ?_ | refine ops_op rfl rfl (runs_none rfl) (mv_s (.inl rfl) rfl) ?_
  refine ops_op rfl rfl (runs_none rfl) (does_call rfl rfl (hi) (evc_cons rfl (evc_cons rfl evc_nil))) ?_
  refine ops_op rfl rfl (runs_none rfl) (does_geq rfl rfl rfl) ?_
  refine ops_op rfl rfl (runs_none rfl) (mv_s (.inr rfl) rfl) ?_
  refine ops_nil ?_
  repeat (first | refine aw_seq ?_ | refine ath_n ?_ | refine aw_skip ?_ | refine abl_n ?_ | refine aw_block ?_)
  (refine aw_ret ?_; repeat (first | refine ath_r ?_ | refine abl_r ?_))
  exact post1 (.inr rfl) rfl (congrArg eB (firstAt_any p l))
theorem find1_pf (x m : List Int) : Pure P 46 [eL eI x, .ref [eL eI m]] (eB (decide (x = m))) := by
  have he := eqI_pf (P := P) x m
  refine aw_fn (by rw [IsP.eq (P := P)]; exact Try.func46) rfl rfl rfl rfl rfl (lo_cons lo_I (lo_cons (.ref _ (lo_cons lo_I lo_nil)) lo_nil)) (.s _) (by simp only [argF]; rfl) ?_
  repeat (first | refine aw_seq ?_ | refine ath_n ?_ | refine aw_skip ?_ | refine abl_n ?_ | refine aw_block ?_)
  refine aw_region ?_
  refine ops_op rfl rfl (runs_none rfl) (mv_s (.inr rfl) rfl) ?_
  refine ops_nil ?_
  repeat (first | refine aw_seq ?_ | refine ath_n ?_ | refine aw_skip ?_ | refine abl_n ?_ | refine aw_block ?_)
  refine aw_region ?_
  first | refine ops_op rfl rfl (runs_none rfl) (mv_own (.inl rfl) rfl) ?_ | refine ops_op rfl rfl (runs_none rfl) (mv_sl (.inl rfl) rfl) ?_ | refine ops_op rfl rfl (runs_none rfl) (mv_s (.inl rfl) rfl) ?_ | refine ops_op rfl rfl (runs_none rfl) (mv_emp (.inl rfl) rfl) ?_
  first | refine ops_op rfl rfl (runs_none rfl) (does_load_ref rfl ta25 rfl) ?_ | refine ops_op rfl rfl (runs_none rfl) (does_load_ptr rfl ta25 rfl rfl rfl rfl rfl) ?_
  refine ops_op rfl rfl (runs_none rfl) (does_call rfl rfl (he) (evc_cons rfl (evc_cons rfl evc_nil))) ?_
  refine ops_op rfl rfl (runs_none rfl) (mv_s (.inr rfl) rfl) ?_
  refine ops_nil ?_
  repeat (first | refine aw_seq ?_ | refine ath_n ?_ | refine aw_skip ?_ | refine abl_n ?_ | refine aw_block ?_)
  (refine aw_ret ?_; repeat (first | refine ath_r ?_ | refine abl_r ?_))
  exact post1 (.inr rfl) rfl rfl
theorem find_pf (s : Spc) (m : List Int) : Pure P 20 [eSpc s, eL eI m] (eI (findI s.st m)) := by
  have hi := indexFIs_pf (P := P) 46 [.ref [eL eI m]] (fun x => decide (x = m)) s.st (fun _ => lo_I) (.fn _ _ (lo_cons (.ref _ (lo_cons lo_I lo_nil)) lo_nil)) (fun a _ => find1_pf a m)
  refine aw_fn (by rw [IsP.eq (P := P)]; exact Try.func20) rfl rfl rfl rfl rfl (lo_cons (lo_Spc s) (lo_cons lo_I lo_nil)) (.s _) (by simp only [argF]; rfl) ?_
  repeat (first | refine aw_seq ?_ | refine ath_n ?_ | refine aw_skip ?_ | refine abl_n ?_ | refine aw_block ?_)
  refine aw_region ?_
  refine ops_op rfl rfl (runs_none rfl) (does_box rfl rfl rfl rfl) ?_
  refine aops_weak (wk_froz (id := 0) rfl) (aops_weak (wk_ref (d := 2) rfl rfl rfl) ?_)
  refine ops_op rfl rfl (runs_none rfl) (does_box rfl rfl rfl rfl) ?_
  refine aops_weak (wk_froz (id := 1) rfl) (aops_weak (wk_ref (d := 3) rfl rfl rfl) ?_)
  refine ops_op rfl rfl (runs_none rfl) (mv_s (.inr rfl) rfl) ?_
  refine ops_nil ?_
  repeat (first | refine aw_seq ?_ | refine ath_n ?_ | refine aw_skip ?_ | refine abl_n ?_ | refine aw_block ?_)
  refine aw_region ?_
  first | refine ops_op rfl rfl (runs_none rfl) (does_fieldAddr_ptr rfl tf29_0 (by decide) rfl) ?_ | refine ops_op rfl rfl (runs_none rfl) (does_fieldAddr_ref rfl tf29_0 (by decide) rfl) ?_
  first | refine ops_op rfl rfl (runs_none rfl) (does_load_ref rfl ta26 rfl) ?_ | refine ops_op rfl rfl (runs_none rfl) (does_load_ptr rfl ta26 rfl rfl rfl rfl rfl) ?_
  refine ops_op rfl rfl (runs_none rfl) (does_func rfl rfl) ?_
  refine ops_op rfl rfl (runs_none rfl) (does_call rfl rfl (hi) (evc_cons rfl (evc_cons rfl evc_nil))) ?_
  refine ops_op rfl rfl (runs_none rfl) (mv_s (.inr rfl) rfl) ?_
  refine ops_nil ?_
  repeat (first | refine aw_seq ?_ | refine ath_n ?_ | refine aw_skip ?_ | refine abl_n ?_ | refine aw_block ?_)
  (refine aw_ret ?_; repeat (first | refine ath_r ?_ | refine abl_r ?_))
  exact post1 (.inr rfl) rfl rfl
def badM (n : Nat) (m : Mvx) : Bool := decide (m.fr < 0 ∨ (n : Int) ≤ m.fr ∨ m.tt < 0 ∨ (n : Int) ≤ m.tt)
theorem formed_bad (s : Spc) : formedB s = (decide (1 ≤ s.st.length ∧ s.st.length ≤ 2000 ∧ s.mv.length ≤ 20000) && !s.mv.any (badM s.st.length)) := by
  unfold formedB
  congr 1
  rw [List.all_eq_not_any_not]
  congr 2
  funext m
  unfold badM
  rw [← decide_not, decide_eq_decide]
  omega
theorem formed1_pf (n : Nat) (m : Mvx) : Pure P 68 [eMv m, .ref [eI n]] (eB (badM n m)) := by
  refine aw_fn (by rw [IsP.eq (P := P)]; exact Try.func68) rfl rfl rfl rfl rfl (lo_cons (lo_Mv m) (lo_cons (.ref _ (lo_cons (.s _) lo_nil)) lo_nil)) (.s _) (by simp only [argF]; rfl) ?_
  repeat (first | refine aw_seq ?_ | refine ath_n ?_ | refine aw_skip ?_ | refine abl_n ?_ | refine aw_block ?_)
  refine aw_region ?_
  refine ops_op rfl rfl (runs_none rfl) (does_box rfl rfl rfl rfl) ?_
  refine aops_weak (wk_froz (id := 0) rfl) (aops_weak (wk_ref (d := 2) rfl rfl rfl) ?_)
  refine ops_op rfl rfl (runs_none rfl) (mv_s (.inr rfl) rfl) ?_
  refine ops_nil ?_
  repeat (first | refine aw_seq ?_ | refine ath_n ?_ | refine aw_skip ?_ | refine abl_n ?_ | refine aw_block ?_)
  all_goals refine aw_region ?_
  all_goals (first | refine ops_op rfl rfl (runs_none rfl) (does_fieldAddr_ptr rfl tf56_0 (by decide) rfl) ?_ | refine ops_op rfl rfl (runs_none rfl) (does_fieldAddr_ref rfl tf56_0 (by decide) rfl) ?_)
  all_goals (first | refine ops_op rfl rfl (runs_none rfl) (does_load_ref rfl ta3 rfl) ?_ | refine ops_op rfl rfl (runs_none rfl) (does_load_ptr rfl ta3 rfl rfl rfl rfl rfl) ?_)
  all_goals (first | refine ops_opP rfl rfl (runs_none rfl) (does_lss rfl rfl rfl) (fun h6 => ?_) (fun h6 => ?_) | refine ops_opB rfl rfl (runs_none rfl) (does_lss rfl rfl rfl) (fun h6 => ?_) (fun h6 => ?_))
  all_goals refine ops_op rfl rfl (runs_none rfl) (mv_s (.inl rfl) rfl) ?_
  all_goals (first | refine ops_op rfl rfl (runs_y rfl rfl rfl) (does_fieldAddr_ptr rfl tf56_0 (by decide) rfl) ?_ | refine ops_op rfl rfl (runs_y rfl rfl rfl) (does_fieldAddr_ref rfl tf56_0 (by decide) rfl) ?_ | refine ops_skip rfl rfl (runs_nf rfl rfl rfl) ?_ | refine ops_skip rfl rfl (runs_nu rfl rfl rfl) ?_)
  all_goals (first | refine ops_op rfl rfl (runs_y rfl rfl rfl) (does_load_ref rfl ta3 rfl) ?_ | refine ops_op rfl rfl (runs_y rfl rfl rfl) (does_load_ptr rfl ta3 rfl rfl rfl rfl rfl) ?_ | refine ops_skip rfl rfl (runs_nf rfl rfl rfl) ?_ | refine ops_skip rfl rfl (runs_nu rfl rfl rfl) ?_)
  all_goals (first | refine ops_op rfl rfl (runs_y rfl rfl rfl) (does_load_ref rfl ta3 rfl) ?_ | refine ops_op rfl rfl (runs_y rfl rfl rfl) (does_load_ptr rfl ta3 rfl rfl rfl rfl rfl) ?_ | refine ops_skip rfl rfl (runs_nf rfl rfl rfl) ?_ | refine ops_skip rfl rfl (runs_nu rfl rfl rfl) ?_)
  all_goals (first | refine ops_opP rfl rfl (runs_y rfl rfl rfl) (does_geq rfl rfl rfl) (fun h11 => ?_) (fun h11 => ?_) | refine ops_opB rfl rfl (runs_y rfl rfl rfl) (does_geq rfl rfl rfl) (fun h11 => ?_) (fun h11 => ?_) | refine ops_skip rfl rfl (runs_nf rfl rfl rfl) ?_ | refine ops_skip rfl rfl (runs_nu rfl rfl rfl) ?_)
  all_goals (first | refine ops_op rfl rfl (runs_none rfl) (pickT_s rfl rfl rfl) ?_ | refine ops_op rfl rfl (runs_none rfl) (pickF_s rfl rfl rfl) ?_ | refine ops_op rfl rfl (runs_none rfl) (does_pickT rfl rfl rfl) ?_ | refine ops_op rfl rfl (runs_none rfl) (does_pickF rfl rfl rfl) ?_)
  all_goals refine ops_op rfl rfl (runs_none rfl) (mv_s (.inl rfl) rfl) ?_
  all_goals (first | refine ops_op rfl rfl (runs_y rfl rfl rfl) (does_fieldAddr_ptr rfl tf56_1 (by decide) rfl) ?_ | refine ops_op rfl rfl (runs_y rfl rfl rfl) (does_fieldAddr_ref rfl tf56_1 (by decide) rfl) ?_ | refine ops_skip rfl rfl (runs_nf rfl rfl rfl) ?_ | refine ops_skip rfl rfl (runs_nu rfl rfl rfl) ?_)
  all_goals (first | refine ops_op rfl rfl (runs_y rfl rfl rfl) (does_load_ref rfl ta3 rfl) ?_ | refine ops_op rfl rfl (runs_y rfl rfl rfl) (does_load_ptr rfl ta3 rfl rfl rfl rfl rfl) ?_ | refine ops_skip rfl rfl (runs_nf rfl rfl rfl) ?_ | refine ops_skip rfl rfl (runs_nu rfl rfl rfl) ?_)
  all_goals (first | refine ops_opP rfl rfl (runs_y rfl rfl rfl) (does_lss rfl rfl rfl) (fun h16 => ?_) (fun h16 => ?_) | refine ops_opB rfl rfl (runs_y rfl rfl rfl) (does_lss rfl rfl rfl) (fun h16 => ?_) (fun h16 => ?_) | refine ops_skip rfl rfl (runs_nf rfl rfl rfl) ?_ | refine ops_skip rfl rfl (runs_nu rfl rfl rfl) ?_)
  all_goals (first | refine ops_op rfl rfl (runs_none rfl) (pickT_s rfl rfl rfl) ?_ | refine ops_op rfl rfl (runs_none rfl) (pickF_s rfl rfl rfl) ?_ | refine ops_op rfl rfl (runs_none rfl) (does_pickT rfl rfl rfl) ?_ | refine ops_op rfl rfl (runs_none rfl) (does_pickF rfl rfl rfl) ?_)
  all_goals refine ops_op rfl rfl (runs_none rfl) (mv_s (.inl rfl) rfl) ?_
  all_goals (first | refine ops_op rfl rfl (runs_y rfl rfl rfl) (does_fieldAddr_ptr rfl tf56_1 (by decide) rfl) ?_ | refine ops_op rfl rfl (runs_y rfl rfl rfl) (does_fieldAddr_ref rfl tf56_1 (by decide) rfl) ?_ | refine ops_skip rfl rfl (runs_nf rfl rfl rfl) ?_ | refine ops_skip rfl rfl (runs_nu rfl rfl rfl) ?_)
  all_goals (first | refine ops_op rfl rfl (runs_y rfl rfl rfl) (does_load_ref rfl ta3 rfl) ?_ | refine ops_op rfl rfl (runs_y rfl rfl rfl) (does_load_ptr rfl ta3 rfl rfl rfl rfl rfl) ?_ | refine ops_skip rfl rfl (runs_nf rfl rfl rfl) ?_ | refine ops_skip rfl rfl (runs_nu rfl rfl rfl) ?_)
  all_goals (first | refine ops_op rfl rfl (runs_y rfl rfl rfl) (does_load_ref rfl ta3 rfl) ?_ | refine ops_op rfl rfl (runs_y rfl rfl rfl) (does_load_ptr rfl ta3 rfl rfl rfl rfl rfl) ?_ | refine ops_skip rfl rfl (runs_nf rfl rfl rfl) ?_ | refine ops_skip rfl rfl (runs_nu rfl rfl rfl) ?_)
  all_goals (first | refine ops_opP rfl rfl (runs_y rfl rfl rfl) (does_geq rfl rfl rfl) (fun h22 => ?_) (fun h22 => ?_) | refine ops_opB rfl rfl (runs_y rfl rfl rfl) (does_geq rfl rfl rfl) (fun h22 => ?_) (fun h22 => ?_) | refine ops_skip rfl rfl (runs_nf rfl rfl rfl) ?_ | refine ops_skip rfl rfl (runs_nu rfl rfl rfl) ?_)
  all_goals (first | refine ops_op rfl rfl (runs_none rfl) (pickT_s rfl rfl rfl) ?_ | refine ops_op rfl rfl (runs_none rfl) (pickF_s rfl rfl rfl) ?_ | refine ops_op rfl rfl (runs_none rfl) (does_pickT rfl rfl rfl) ?_ | refine ops_op rfl rfl (runs_none rfl) (does_pickF rfl rfl rfl) ?_)
  all_goals refine ops_op rfl rfl (runs_none rfl) (mv_s (.inr rfl) rfl) ?_
  all_goals refine ops_nil ?_
  all_goals (repeat (first | refine aw_seq ?_ | refine ath_n ?_ | refine aw_skip ?_ | refine abl_n ?_ | refine aw_block ?_))
  all_goals (refine aw_ret ?_; repeat (first | refine ath_r ?_ | refine abl_r ?_))
  all_goals refine post1 (.inr rfl) rfl (congrArg eB ?_)
  all_goals unfold badM
  all_goals first
    | exact (decide_eq_true (by omega)).symm
    | exact (decide_eq_false (by omega)).symm
theorem formed_pf (s : Spc) : Pure P 42 [eSpc s] (eB (formedB s)) := by
  rw [formed_bad]
  have hc := containsFMv_pf (P := P) 68 [.ref [eI s.st.length]] (badM s.st.length) s.mv lo_Mv (.fn _ _ (lo_cons (.ref _ (lo_cons (.s _) lo_nil)) lo_nil)) (fun a _ => formed1_pf _ a)
  generalize s.mv.any (badM s.st.length) = z at hc
  refine aw_fn (by rw [IsP.eq (P := P)]; exact Try.func42) rfl rfl rfl rfl rfl (lo_cons (lo_Spc s) lo_nil) (.s _) (by simp only [argF]; rfl) ?_
  repeat (first | refine aw_seq ?_ | refine ath_n ?_ | refine aw_skip ?_ | refine abl_n ?_ | refine aw_block ?_)
  refine aw_region ?_
  refine ops_op rfl rfl (runs_none rfl) (does_box rfl rfl rfl rfl) ?_
  refine aops_weak (wk_froz (id := 0) rfl) (aops_weak (wk_ref (d := 1) rfl rfl rfl) ?_)
  refine ops_op rfl rfl (runs_none rfl) (mv_s (.inr rfl) rfl) ?_
  refine ops_nil ?_
  repeat (first | refine aw_seq ?_ | refine ath_n ?_ | refine aw_skip ?_ | refine abl_n ?_ | refine aw_block ?_)
  refine aw_region ?_
  first | refine ops_op rfl rfl (runs_none rfl) (does_fieldAddr_ptr rfl tf29_0 (by decide) rfl) ?_ | refine ops_op rfl rfl (runs_none rfl) (does_fieldAddr_ref rfl tf29_0 (by decide) rfl) ?_
  first | refine ops_op rfl rfl (runs_none rfl) (does_load_ref rfl ta26 rfl) ?_ | refine ops_op rfl rfl (runs_none rfl) (does_load_ptr rfl ta26 rfl rfl rfl rfl rfl) ?_
  first | refine ops_op rfl rfl (runs_none rfl) (does_len_map rfl ts26 rfl) ?_ | refine ops_op rfl rfl (runs_none rfl) (does_len_sl rfl ts26 rfl) ?_ | refine ops_op rfl rfl (runs_none rfl) (does_len_own rfl ts26 rfl) ?_ | refine ops_op rfl rfl (runs_none rfl) (does_len_s rfl ts26 rfl) ?_ | refine ops_op rfl rfl (runs_none rfl) (does_len_emp rfl ts26 rfl) ?_ | refine ops_op rfl rfl (runs_none rfl) (does_len_sub rfl ts26 rfl) ?_
  refine ops_op rfl rfl (runs_none rfl) (does_alloc rfl ti3 rfl rfl) ?_
  refine ops_eff rfl (runs_none rfl) (does_store rfl ti3 rfl rfl rfl rfl rfl rfl (by decide) (by decide)) ?_
  refine ops_nil ?_
  repeat (first | refine aw_seq ?_ | refine ath_n ?_ | refine aw_skip ?_ | refine abl_n ?_ | refine aw_block ?_)
  refine aw_weak (wk_froz (id := 1) rfl) ?_
  refine aw_weak (wk_ref (d := 3) rfl rfl rfl) ?_
  all_goals refine aw_region ?_
  all_goals (first | refine ops_op rfl rfl (runs_none rfl) (does_load_ref rfl ta3 rfl) ?_ | refine ops_op rfl rfl (runs_none rfl) (does_load_ptr rfl ta3 rfl rfl rfl rfl rfl) ?_)
  all_goals (first | refine ops_opP rfl rfl (runs_none rfl) (does_gtr rfl rfl rfl) (fun h8 => ?_) (fun h8 => ?_) | refine ops_opB rfl rfl (runs_none rfl) (does_gtr rfl rfl rfl) (fun h8 => ?_) (fun h8 => ?_))
  all_goals refine ops_op rfl rfl (runs_none rfl) (mv_s (.inl rfl) rfl) ?_
  all_goals (first | refine ops_op rfl rfl (runs_y rfl rfl rfl) (does_load_ref rfl ta3 rfl) ?_ | refine ops_op rfl rfl (runs_y rfl rfl rfl) (does_load_ptr rfl ta3 rfl rfl rfl rfl rfl) ?_ | refine ops_skip rfl rfl (runs_nt rfl rfl rfl) ?_ | refine ops_skip rfl rfl (runs_nu rfl rfl rfl) ?_)
  all_goals (first | refine ops_opP rfl rfl (runs_y rfl rfl rfl) (does_leq rfl rfl rfl) (fun h11 => ?_) (fun h11 => ?_) | refine ops_opB rfl rfl (runs_y rfl rfl rfl) (does_leq rfl rfl rfl) (fun h11 => ?_) (fun h11 => ?_) | refine ops_skip rfl rfl (runs_nt rfl rfl rfl) ?_ | refine ops_skip rfl rfl (runs_nu rfl rfl rfl) ?_)
  all_goals (first | refine ops_op rfl rfl (runs_none rfl) (pickT_s rfl rfl rfl) ?_ | refine ops_op rfl rfl (runs_none rfl) (pickF_s rfl rfl rfl) ?_ | refine ops_op rfl rfl (runs_none rfl) (does_pickT rfl rfl rfl) ?_ | refine ops_op rfl rfl (runs_none rfl) (does_pickF rfl rfl rfl) ?_)
  all_goals refine ops_op rfl rfl (runs_none rfl) (mv_s (.inl rfl) rfl) ?_
  all_goals (first | refine ops_op rfl rfl (runs_y rfl rfl rfl) (does_fieldAddr_ptr rfl tf29_1 (by decide) rfl) ?_ | refine ops_op rfl rfl (runs_y rfl rfl rfl) (does_fieldAddr_ref rfl tf29_1 (by decide) rfl) ?_ | refine ops_skip rfl rfl (runs_nt rfl rfl rfl) ?_ | refine ops_skip rfl rfl (runs_nu rfl rfl rfl) ?_)
  all_goals (first | refine ops_op rfl rfl (runs_y rfl rfl rfl) (does_load_ref rfl ta27 rfl) ?_ | refine ops_op rfl rfl (runs_y rfl rfl rfl) (does_load_ptr rfl ta27 rfl rfl rfl rfl rfl) ?_ | refine ops_skip rfl rfl (runs_nt rfl rfl rfl) ?_ | refine ops_skip rfl rfl (runs_nu rfl rfl rfl) ?_)
  all_goals (first | refine ops_op rfl rfl (runs_y rfl rfl rfl) (does_len_map rfl ts27 rfl) ?_ | refine ops_op rfl rfl (runs_y rfl rfl rfl) (does_len_sl rfl ts27 rfl) ?_ | refine ops_op rfl rfl (runs_y rfl rfl rfl) (does_len_own rfl ts27 rfl) ?_ | refine ops_op rfl rfl (runs_y rfl rfl rfl) (does_len_s rfl ts27 rfl) ?_ | refine ops_op rfl rfl (runs_y rfl rfl rfl) (does_len_emp rfl ts27 rfl) ?_ | refine ops_op rfl rfl (runs_y rfl rfl rfl) (does_len_sub rfl ts27 rfl) ?_ | refine ops_skip rfl rfl (runs_nt rfl rfl rfl) ?_ | refine ops_skip rfl rfl (runs_nu rfl rfl rfl) ?_)
  all_goals (first | refine ops_opP rfl rfl (runs_y rfl rfl rfl) (does_leq rfl rfl rfl) (fun h17 => ?_) (fun h17 => ?_) | refine ops_opB rfl rfl (runs_y rfl rfl rfl) (does_leq rfl rfl rfl) (fun h17 => ?_) (fun h17 => ?_) | refine ops_skip rfl rfl (runs_nt rfl rfl rfl) ?_ | refine ops_skip rfl rfl (runs_nu rfl rfl rfl) ?_)
  all_goals (first | refine ops_op rfl rfl (runs_none rfl) (pickT_s rfl rfl rfl) ?_ | refine ops_op rfl rfl (runs_none rfl) (pickF_s rfl rfl rfl) ?_ | refine ops_op rfl rfl (runs_none rfl) (does_pickT rfl rfl rfl) ?_ | refine ops_op rfl rfl (runs_none rfl) (does_pickF rfl rfl rfl) ?_)
  all_goals refine ops_op rfl rfl (runs_none rfl) (mv_s (.inl rfl) rfl) ?_
  all_goals (first | refine ops_op rfl rfl (runs_y rfl rfl rfl) (does_fieldAddr_ptr rfl tf29_1 (by decide) rfl) ?_ | refine ops_op rfl rfl (runs_y rfl rfl rfl) (does_fieldAddr_ref rfl tf29_1 (by decide) rfl) ?_ | refine ops_skip rfl rfl (runs_nt rfl rfl rfl) ?_ | refine ops_skip rfl rfl (runs_nu rfl rfl rfl) ?_)
  all_goals (first | refine ops_op rfl rfl (runs_y rfl rfl rfl) (does_load_ref rfl ta27 rfl) ?_ | refine ops_op rfl rfl (runs_y rfl rfl rfl) (does_load_ptr rfl ta27 rfl rfl rfl rfl rfl) ?_ | refine ops_skip rfl rfl (runs_nt rfl rfl rfl) ?_ | refine ops_skip rfl rfl (runs_nu rfl rfl rfl) ?_)
  all_goals (first | refine ops_op rfl rfl (runs_y rfl rfl rfl) (does_func rfl rfl) ?_ | refine ops_skip rfl rfl (runs_nt rfl rfl rfl) ?_ | refine ops_skip rfl rfl (runs_nu rfl rfl rfl) ?_)
  all_goals (first | refine ops_op rfl rfl (runs_y rfl rfl rfl) (does_call rfl rfl (hc) (evc_cons rfl (evc_cons rfl evc_nil))) ?_ | refine ops_skip rfl rfl (runs_nt rfl rfl rfl) ?_ | refine ops_skip rfl rfl (runs_nu rfl rfl rfl) ?_)
  all_goals (first | refine ops_op rfl rfl (runs_y rfl rfl rfl) (does_notp rfl rfl) ?_ | refine ops_op rfl rfl (runs_y rfl rfl rfl) (does_not rfl rfl) ?_ | refine ops_skip rfl rfl (runs_nt rfl rfl rfl) ?_ | refine ops_skip rfl rfl (runs_nu rfl rfl rfl) ?_)
  all_goals (first | refine ops_op rfl rfl (runs_none rfl) (pickT_s rfl rfl rfl) ?_ | refine ops_op rfl rfl (runs_none rfl) (pickF_s rfl rfl rfl) ?_ | refine ops_op rfl rfl (runs_none rfl) (does_pickT rfl rfl rfl) ?_ | refine ops_op rfl rfl (runs_none rfl) (does_pickF rfl rfl rfl) ?_)
  all_goals refine ops_op rfl rfl (runs_none rfl) (mv_s (.inr rfl) rfl) ?_
  all_goals refine ops_nil ?_
  all_goals (repeat (first | refine aw_seq ?_ | refine ath_n ?_ | refine aw_skip ?_ | refine abl_n ?_ | refine aw_block ?_))
  all_goals (refine aw_ret ?_; repeat (first | refine ath_r ?_ | refine abl_r ?_))
  all_goals refine post1 (.inr rfl) rfl (congrArg eB ?_)
  all_goals first
    | (rw [decide_eq_true (by omega)]; rfl)
    | (rw [decide_eq_false (by omega)]; rfl)
/-! ## a row turned round -/
def revK (l : List Int) (k : Nat) : List Int := (List.range l.length).map fun q => if q < k ∨ l.length ≤ q + k then gti l (l.length - 1 - q) else gti l q
theorem revK_len (l : List Int) (k : Nat) : (revK l k).length = l.length := by simp [revK]
theorem revK_get {l : List Int} {k q : Nat} (h : q < l.length) : (revK l k)[q]? = some (if q < k ∨ l.length ≤ q + k then gti l (l.length - 1 - q) else gti l q) := by simp [revK, h]
theorem revK_0 (l : List Int) : revK l 0 = l := by
  refine List.ext_getElem? fun q => ?_
  by_cases hq : q < l.length
  · rw [revK_get hq, if_neg (by omega), gti_get hq]
  · rw [List.getElem?_eq_none (by rw [revK_len]; omega), List.getElem?_eq_none (by omega)]
theorem revK_end {l : List Int} {k : Nat} (h : l.length ≤ 2 * k + 1) : revK l k = l.reverse := by
  refine List.ext_getElem? fun q => ?_
  by_cases hq : q < l.length
  · rw [revK_get hq, List.getElem?_reverse hq]
    by_cases h1 : q < k ∨ l.length ≤ q + k
    · rw [if_pos h1, gti_get (by omega)]
    · rw [if_neg h1, ← gti_get hq, show l.length - 1 - q = q by omega]
  · rw [List.getElem?_eq_none (by rw [revK_len]; omega), List.getElem?_eq_none (by simp; omega)]
theorem revK_step {l : List Int} {k : Nat} (h : 2 * k + 1 < l.length) : ((revK l k).set k (gti l (l.length - 1 - k))).set (l.length - 1 - k) (gti l k) = revK l (k + 1) := by
  refine List.ext_getElem? fun q => ?_
  by_cases hq : q < l.length
  · rw [revK_get hq, List.getElem?_set, List.getElem?_set, revK_get hq]
    simp only [List.length_set, revK_len, hq]
    by_cases h1 : l.length - 1 - k = q
    · subst h1
      rw [if_pos rfl, if_pos hq, if_pos (by omega), show l.length - 1 - (l.length - 1 - k) = k by omega]
    · rw [if_neg h1]
      by_cases h2 : k = q
      · subst h2
        rw [if_pos rfl, if_pos hq, if_pos (by omega)]
      · rw [if_neg h2]
        by_cases h3 : q < k ∨ l.length ≤ q + k
        · rw [if_pos h3, if_pos (by omega)]
        · rw [if_neg h3, if_neg (by omega)]
  · rw [List.getElem?_eq_none (by simp [revK_len]; omega), List.getElem?_eq_none (by rw [revK_len]; omega)]
theorem reverse_call (l : List Int) : CallR P 43 [.own 0 1 l.length] [.row 1 (l.map eI)] (.tup []) [.row 1 (l.reverse.map eI)] := by
  refine callR_fn0 (by rw [IsP.eq (P := P)]; exact Try.func43) rfl rfl (Nat.le_of_ble_eq_true rfl) rfl ?_
  simp only [argF]
  refine kw_bdo (d := 0) rfl (fun hmx => ?_)
  unfold maxLen at hmx
  refine kw_seq ?_
  all_goals refine kw_region ?_
  all_goals (first | refine kops_op rfl rfl (runs_none rfl) (mv_own (.inl rfl) rfl) ?_ | refine kops_op rfl rfl (runs_none rfl) (mv_sl (.inl rfl) rfl) ?_ | refine kops_op rfl rfl (runs_none rfl) (mv_s (.inl rfl) rfl) ?_ | refine kops_op rfl rfl (runs_none rfl) (mv_emp (.inl rfl) rfl) ?_)
  all_goals (first | refine kops_op rfl rfl (runs_none rfl) (does_len_map rfl ts25 rfl) ?_ | refine kops_op rfl rfl (runs_none rfl) (does_len_sl rfl ts25 rfl) ?_ | refine kops_op rfl rfl (runs_none rfl) (does_len_own rfl ts25 rfl) ?_ | refine kops_op rfl rfl (runs_none rfl) (does_len_s rfl ts25 rfl) ?_ | refine kops_op rfl rfl (runs_none rfl) (does_len_emp rfl ts25 rfl) ?_ | refine kops_op rfl rfl (runs_none rfl) (does_len_sub rfl ts25 rfl) ?_)
  all_goals refine kops_op rfl rfl (runs_none rfl) (does_sub rfl rfl rfl (IntWalk.i64_in _ (by omega))) ?_
  all_goals refine kops_op rfl rfl (runs_none rfl) (mv_s (.inr rfl) rfl) ?_
  all_goals refine kops_op rfl rfl (runs_none rfl) (mv_s (.inr rfl) rfl) ?_
  all_goals refine kops_nil ?_
  all_goals (repeat (first | refine kw_seq ?_ | refine ath_n ?_ | refine kw_skip ?_ | refine abl_n ?_ | refine kw_block ?_))
  refine kw_loops (S := Nat × Int) (fun p => [(0, .own 0 1 l.length), (2, eI p.1), (3, eI p.2)]) (fun p => [.row 1 ((revK l p.1).map eI)]) (fun p => p.1 ≤ l.length ∧ p.2 = (l.length : Int) - 1 - p.1) (fun p => l.length - p.1) (0, (l.length : Int) - 1) (kwk_st [0] rfl (by decide) ⟨⟨_, rfl, .rowE (rowI_lo _) (by rw [revK_0])⟩, trivial⟩ ⟨.own 0 0 1 _ _ rfl rfl, .lo _ (by repeat' (first | exact Lo.s _ | exact Lo.emp | exact Lo.any | exact lo_nil | exact lo_nilE | refine lo_cons ?_ ?_ | refine lo_consE ?_ ?_ | refine lo_map ?_ | refine lo_mapE ?_ | refine Lo.cells ?_ | refine Lo.agg _ ?_ | refine Lo.ref _ ?_ | refine Lo.tup _ ?_ | refine Lo.fn _ _ ?_ | refine Lo.sl _ ?_ | intro _)), .lo _ (by repeat' (first | exact Lo.s _ | exact Lo.emp | exact Lo.any | exact lo_nil | exact lo_nilE | refine lo_cons ?_ ?_ | refine lo_consE ?_ ?_ | refine lo_map ?_ | refine lo_mapE ?_ | refine Lo.cells ?_ | refine Lo.agg _ ?_ | refine Lo.ref _ ?_ | refine Lo.tup _ ?_ | refine Lo.fn _ _ ?_ | refine Lo.sl _ ?_ | intro _)), trivial⟩) ⟨Nat.zero_le _, by simp⟩ (fun p hp => ?_)
  obtain ⟨k, j⟩ := p
  obtain ⟨hk, hj⟩ := hp
  replace hk : k ≤ l.length := hk
  replace hj : j = (l.length : Int) - 1 - k := hj
  repeat (first | refine kw_seq ?_ | refine ath_n ?_ | refine kw_skip ?_ | refine abl_n ?_ | refine kw_block ?_)
  all_goals refine kw_region ?_
  all_goals refine kops_op rfl rfl (runs_none rfl) (mv_s (.inl rfl) rfl) ?_
  all_goals refine kops_op rfl rfl (runs_none rfl) (mv_s (.inl rfl) rfl) ?_
  all_goals (first | refine kops_opP rfl rfl (runs_none rfl) (does_lss rfl rfl rfl) (fun h9 => ?_) (fun h9 => ?_) | refine kops_opB rfl rfl (runs_none rfl) (does_lss rfl rfl rfl) (fun h9 => ?_) (fun h9 => ?_))
  all_goals refine kops_nil ?_
  all_goals (repeat (first | refine kw_seq ?_ | refine ath_n ?_ | refine kw_skip ?_ | refine abl_n ?_ | refine kw_block ?_))
  all_goals (first | refine kw_true rfl ?_ | refine kw_false rfl ?_)
  all_goals (repeat (first | refine kw_seq ?_ | refine ath_n ?_ | refine kw_skip ?_ | refine abl_n ?_ | refine kw_block ?_))
  all_goals dsimp only at h9
  · have hlt : 2 * k + 1 < l.length := by omega
    obtain ⟨q, hq⟩ : ∃ q : Nat, q = l.length - 1 - k := ⟨_, rfl⟩
    have hjq : j = (q : Int) := by omega
    subst hjq
    have hrl : (revK l k).length = l.length := revK_len l k
    have hg1 : ((revK l k).map eI)[k]? = some (eI (gti l k)) := by rw [List.getElem?_map, revK_get (by omega), if_neg (by omega)]; rfl
    have hg2 : ((revK l k).map eI)[q]? = some (eI (gti l q)) := by rw [List.getElem?_map, revK_get (by omega), if_neg (by omega)]; rfl
    have hg3 : (((revK l k).map eI).set k (eI (gti l q)))[q]? = some (eI (gti l q)) := by rw [List.getElem?_set_ne (by omega)]; exact hg2
    have hstep : (((revK l k).map eI).set k (eI (gti l q))).set q (eI (gti l k)) = (revK l (k + 1)).map eI := by
      rw [← revK_step hlt, ← hq, List.map_set, List.map_set]
    all_goals refine kw_draw hmix ?_
    all_goals refine kdraw_ex ?_
    all_goals (first | refine ex_free rfl rfl (runs_none rfl) (fun _ => (mv_own (.inl rfl) rfl)) ?_ | refine ex_free rfl rfl (runs_none rfl) (fun _ => (mv_sl (.inl rfl) rfl)) ?_ | refine ex_free rfl rfl (runs_none rfl) (fun _ => (mv_s (.inl rfl) rfl)) ?_ | refine ex_free rfl rfl (runs_none rfl) (fun _ => (mv_emp (.inl rfl) rfl)) ?_)
    all_goals refine ex_free rfl rfl (runs_none rfl) (fun _ => (mv_s (.inl rfl) rfl)) ?_
    all_goals (first | refine ex_free rfl rfl (runs_none rfl) (fun _ => (mv_own (.inl rfl) rfl)) ?_ | refine ex_free rfl rfl (runs_none rfl) (fun _ => (mv_sl (.inl rfl) rfl)) ?_ | refine ex_free rfl rfl (runs_none rfl) (fun _ => (mv_s (.inl rfl) rfl)) ?_ | refine ex_free rfl rfl (runs_none rfl) (fun _ => (mv_emp (.inl rfl) rfl)) ?_)
    all_goals refine ex_free rfl rfl (runs_none rfl) (fun _ => (mv_s (.inl rfl) rfl)) ?_
    all_goals (first | refine ex_free rfl rfl (runs_none rfl) (fun _ => (mv_own (.inl rfl) rfl)) ?_ | refine ex_free rfl rfl (runs_none rfl) (fun _ => (mv_sl (.inl rfl) rfl)) ?_ | refine ex_free rfl rfl (runs_none rfl) (fun _ => (mv_s (.inl rfl) rfl)) ?_ | refine ex_free rfl rfl (runs_none rfl) (fun _ => (mv_emp (.inl rfl) rfl)) ?_)
    all_goals refine ex_free rfl rfl (runs_none rfl) (fun _ => (mv_s (.inl rfl) rfl)) ?_
    all_goals (first | refine ex_free rfl rfl (runs_none rfl) (fun _ => (does_index_sl rfl ts25 ti3 rfl rfl rfl (by omega) rfl)) ?_ | refine ex_free rfl rfl (runs_none rfl) (fun _ => (does_index_own rfl ts25 ti3 rfl rfl rfl (by omega))) ?_ | refine ex_free rfl rfl (runs_none rfl) (fun _ => (does_index_sub rfl ts25 ti3 rfl rfl rfl (by omega))) ?_)
    all_goals (first | refine ex_free rfl rfl (runs_none rfl) (fun _ => (does_load_ref rfl ta3 rfl)) ?_ | refine ex_look rfl rfl (runs_none rfl) (look_ptr rfl ta3 rfl rfl rfl hg2 rfl) ?_)
    all_goals (first | refine ex_free rfl rfl (runs_none rfl) (fun _ => (mv_own (.inl rfl) rfl)) ?_ | refine ex_free rfl rfl (runs_none rfl) (fun _ => (mv_sl (.inl rfl) rfl)) ?_ | refine ex_free rfl rfl (runs_none rfl) (fun _ => (mv_s (.inl rfl) rfl)) ?_ | refine ex_free rfl rfl (runs_none rfl) (fun _ => (mv_emp (.inl rfl) rfl)) ?_)
    all_goals refine ex_free rfl rfl (runs_none rfl) (fun _ => (mv_s (.inl rfl) rfl)) ?_
    all_goals (first | refine ex_free rfl rfl (runs_none rfl) (fun _ => (does_index_sl rfl ts25 ti3 rfl rfl rfl (by omega) rfl)) ?_ | refine ex_free rfl rfl (runs_none rfl) (fun _ => (does_index_own rfl ts25 ti3 rfl rfl rfl (by omega))) ?_ | refine ex_free rfl rfl (runs_none rfl) (fun _ => (does_index_sub rfl ts25 ti3 rfl rfl rfl (by omega))) ?_)
    all_goals (first | refine ex_free rfl rfl (runs_none rfl) (fun _ => (does_load_ref rfl ta3 rfl)) ?_ | refine ex_look rfl rfl (runs_none rfl) (look_ptr rfl ta3 rfl rfl rfl hg1 rfl) ?_)
    all_goals (first | refine ex_free rfl rfl (runs_none rfl) (fun _ => (does_index_sl rfl ts25 ti3 rfl rfl rfl (by omega) rfl)) ?_ | refine ex_free rfl rfl (runs_none rfl) (fun _ => (does_index_own rfl ts25 ti3 rfl rfl rfl (by omega))) ?_ | refine ex_free rfl rfl (runs_none rfl) (fun _ => (does_index_sub rfl ts25 ti3 rfl rfl rfl (by omega))) ?_)
    all_goals refine ex_eff0 rfl (runs_none rfl) (does_store rfl ti3 rfl rfl rfl hg1 rfl rfl (by decide) (by decide)) (fun _ h => set_other h) ?_
    all_goals (first | refine ex_free rfl rfl (runs_none rfl) (fun _ => (does_index_sl rfl ts25 ti3 rfl rfl rfl (by omega) rfl)) ?_ | refine ex_free rfl rfl (runs_none rfl) (fun _ => (does_index_own rfl ts25 ti3 rfl rfl rfl (by omega))) ?_ | refine ex_free rfl rfl (runs_none rfl) (fun _ => (does_index_sub rfl ts25 ti3 rfl rfl rfl (by omega))) ?_)
    all_goals refine ex_eff0 rfl (runs_none rfl) (does_store rfl ti3 rfl rfl rfl hg3 rfl rfl (by decide) (by decide)) (fun _ h => set_other h) ?_
    all_goals refine ex_nil (by kernel_rfl) ?_
    all_goals (repeat (first | refine kw_seq ?_ | refine ath_n ?_ | refine kw_skip ?_ | refine abl_n ?_ | refine kw_block ?_))
    all_goals refine kw_region ?_
    all_goals refine kops_op rfl rfl (runs_none rfl) (mv_s (.inl rfl) rfl) ?_
    all_goals refine kops_op rfl rfl (runs_none rfl) (does_add rfl rfl rfl (IntWalk.i64_in _ (by omega))) ?_
    all_goals refine kops_op rfl rfl (runs_none rfl) (mv_s (.inl rfl) rfl) ?_
    all_goals refine kops_op rfl rfl (runs_none rfl) (does_sub rfl rfl rfl (IntWalk.i64_in _ (by omega))) ?_
    all_goals refine kops_op rfl rfl (runs_none rfl) (mv_s (.inr rfl) rfl) ?_
    all_goals refine kops_op rfl rfl (runs_none rfl) (mv_s (.inr rfl) rfl) ?_
    all_goals refine kops_nil ?_
    all_goals (repeat (first | refine kw_seq ?_ | refine ath_n ?_ | refine kw_skip ?_ | refine abl_n ?_ | refine kw_block ?_))
    exact ⟨(k + 1, (q : Int) - 1), ⟨by show k + 1 ≤ l.length; omega, by show (q : Int) - 1 = (l.length : Int) - 1 - ((k + 1 : Nat) : Int); omega⟩, by show l.length - (k + 1) < l.length - k; omega, kwk_st [0] rfl (by decide) ⟨⟨_, rfl, .rowE (rowI_lo _) hstep⟩, trivial⟩ ⟨.own 0 0 1 _ _ rfl rfl, .lo _ (by repeat' (first | exact Lo.s _ | exact Lo.emp | exact Lo.any | exact lo_nil | exact lo_nilE | refine lo_cons ?_ ?_ | refine lo_consE ?_ ?_ | refine lo_map ?_ | refine lo_mapE ?_ | refine Lo.cells ?_ | refine Lo.agg _ ?_ | refine Lo.ref _ ?_ | refine Lo.tup _ ?_ | refine Lo.fn _ _ ?_ | refine Lo.sl _ ?_ | intro _)), .lo _ (by repeat' (first | exact Lo.s _ | exact Lo.emp | exact Lo.any | exact lo_nil | exact lo_nilE | refine lo_cons ?_ ?_ | refine lo_consE ?_ ?_ | refine lo_map ?_ | refine lo_mapE ?_ | refine Lo.cells ?_ | refine Lo.agg _ ?_ | refine Lo.ref _ ?_ | refine Lo.tup _ ?_ | refine Lo.fn _ _ ?_ | refine Lo.sl _ ?_ | intro _)), trivial⟩⟩
  · refine kw_exit ?_
    repeat (first | refine ath_x ?_ | refine abl_hit ?_ | refine abl_miss rfl ?_ | refine abl_n ?_ | refine ath_n ?_ | refine kw_seq ?_ | refine kw_skip ?_ | refine kw_block ?_)
    exact ⟨.inl rfl, by rw [← revK_end (l := l) (k := k) (by omega)]⟩
end Go.Proofs.Ythdpacbjbdkemaa.Aw
end
