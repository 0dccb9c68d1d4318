/-
  Texts joined: AwH, AwI. Conditions: none.
-/
import Derived.Test.YtmhbfoaecebobaaJP3
section
namespace Go.Proofs.Ytmhbfoaecebobaa.Aw
set_option linter.unusedSimpArgs false
set_option linter.unusedVariables false
open Go.RowKit

/-- new names for the call's own things -/
inductive Rn (ρ : List Nat) : AV → AV → Prop
  | lo (x : AV) (h : Lo 0 x) : Rn ρ x x
  | own (id j sz n n' : Nat) (h : ρ[j]? = some id) (hn : n = n') : Rn ρ (.own id sz n) (.own j sz n')
  | ptr (id j sz k i : Nat) (h : ρ[j]? = some id) : Rn ρ (.ptr id sz k i) (.ptr j sz k i)
  | agg (cs cs' : List AV) (hl : cs.length = cs'.length) (h : ∀ (j : Nat) x y, cs[j]? = some x → cs'[j]? = some y → Rn ρ x y) : Rn ρ (.agg cs) (.agg cs')
  | fn (f : FuncId) (cs cs' : List AV) (hl : cs.length = cs'.length) (h : ∀ (j : Nat) x y, cs[j]? = some x → cs'[j]? = some y → Rn ρ x y) : Rn ρ (.fn f cs) (.fn f cs')

def Cx.ren (G : Cx) (ρ : List Nat) : Cx := { G with mu := fun j => (ρ[j]?).bind G.mu }
theorem Rn.one {ρ : List Nat} {x y : AV} (h : Rn ρ x y) : y.one = x.one := by cases h <;> rfl
theorem Rn.rep {G : Cx} {ρ : List Nat} {v : Value} {x y : AV} (h : Rn ρ x y) : Rep G v x → Rep (G.ren ρ) v y := by
  induction h generalizing v with
  | lo x h => exact fun hv => hv.low h (fun _ _ h => h) (fun _ _ _ => rfl) (fun id y h => by omega) (fun h => by omega)
  | own id j sz n n' h hn =>
    subst hn
    intro hv
    cases hv with
    | own0 _ _ A hA hm => exact .own0 j sz A hA (by simp [Cx.ren, h, hm])
    | own _ _ _ b cap hm hn hc hb => exact .own j sz n b cap (by simp [Cx.ren, h, hm]) hn hc hb
  | ptr id j sz k i h =>
    intro hv
    cases hv with
    | ptr _ _ _ _ b hm => exact .ptr j sz k i b (by simp [Cx.ren, h, hm])
  | agg cs cs' hl h ih =>
    intro hv
    cases hv with
    | agg vs _ hs h1 hr =>
      refine .agg vs cs' (hs.trans hl) (fun c hc => ?_) (fun j v y hv hy => ?_)
      · obtain ⟨j, hj, rfl⟩ := List.mem_iff_getElem.1 hc
        rw [(h j cs[j] cs'[j] (by simp) (by simp [hj])).one]
        exact h1 _ (List.getElem_mem _)
      · have hj : j < cs.length := by rw [hl]; exact (List.getElem?_eq_some_iff.1 hy).1
        exact ih j _ y (List.getElem?_eq_getElem hj) hy (hr j v _ hv (List.getElem?_eq_getElem hj))
  | fn f cs cs' hl h ih =>
    intro hv
    cases hv with
    | fn _ vs _ hs hr =>
      refine .fn f vs cs' (hs.trans hl) (fun j v y hv hy => ?_)
      have hj : j < cs.length := by rw [hl]; exact (List.getElem?_eq_some_iff.1 hy).1
      exact ih j _ y (List.getElem?_eq_getElem hj) hy (hr j v _ hv (List.getElem?_eq_getElem hj))

/-- an own thing under a new name: what it holds names nothing of the call's own, or the like under new names -/
inductive ObRn (ρ : List Nat) : Ob → Ob → Prop
  | dead (ob : Ob) : ObRn ρ ob .dead
  | row (sz : Nat) (cs : List AV) (h : ∀ e ∈ cs, ∀ c ∈ e.cells, Lo 0 c) : ObRn ρ (.row sz cs) (.row sz cs)
  | fz (sz : Nat) (cs : List AV) (h : ∀ e ∈ cs, ∀ c ∈ e.cells, Lo 0 c) : ObRn ρ (.fz sz cs) (.fz sz cs)
  | rowR (sz : Nat) (e e' : AV) (h : Rn ρ e e') (h1 : ∀ (j : Nat) x y, e.cells[j]? = some x → e'.cells[j]? = some y → Rn ρ x y) (hl : e.cells.length = e'.cells.length) : ObRn ρ (.row sz [e]) (.row sz [e'])

theorem ren_row {G : Cx} {ρ : List Nat} {b sz : Nat} {cs cs' : List AV} {f : Nat × Nat → Prop} (h : RowAt G b sz cs f) (hl : cs.length = cs'.length)
    (hc : ∀ (k : Nat) e e', cs[k]? = some e → cs'[k]? = some e' → e.cells.length = e'.cells.length ∧ ∀ (j : Nat) x y, e.cells[j]? = some x → e'.cells[j]? = some y → Rn ρ x y) : RowAt (G.ren ρ) b sz cs' f := by
  obtain ⟨cur, t, fr, h1, h2, h3, h4⟩ := h
  refine ⟨cur, t, fr, h1, h2, by rw [← hl]; exact h3, fun k e' he' => ?_⟩
  have hk : k < cs.length := by rw [hl]; exact (List.getElem?_eq_some_iff.1 he').1
  obtain ⟨g1, g2, g3⟩ := h4 k _ (List.getElem?_eq_getElem hk)
  obtain ⟨k1, k2⟩ := hc k _ e' (List.getElem?_eq_getElem hk) he'
  refine ⟨by rw [← k1]; exact g1, fun c hcc => ?_, fun j y hy => ?_⟩
  · obtain ⟨j, hj, rfl⟩ := List.mem_iff_getElem.1 hcc
    rw [(k2 j _ _ (List.getElem?_eq_getElem (by omega)) (List.getElem?_eq_getElem hj)).one]
    exact g2 _ (List.getElem_mem _)
  · have hj : j < (cs[k]).cells.length := by rw [k1]; exact (List.getElem?_eq_some_iff.1 hy).1
    obtain ⟨v, g4, g5⟩ := g3 j _ (List.getElem?_eq_getElem hj)
    exact ⟨v, g4, (k2 j _ y (List.getElem?_eq_getElem hj) hy).rep g5⟩

theorem ObRn.rowE {ρ : List Nat} {sz : Nat} {cs cs' : List AV} (h : ∀ e ∈ cs', ∀ c ∈ e.cells, Lo 0 c) (hc : cs = cs') : ObRn ρ (.row sz cs) (.row sz cs') := by subst hc; exact .row sz cs h

/-- σ' is σ under the names ρ -/
def StRn (σ : List Ob) (ρ : List Nat) (σ' : List Ob) : Prop := σ'.length = ρ.length ∧ ∀ (j i : Nat) ob', ρ[j]? = some i → σ'[j]? = some ob' → ∃ ob, σ[i]? = some ob ∧ ObRn ρ ob ob'
def FrRn (F : Frm) (ρ : List Nat) : Frm → Prop
  | [] => True
  | (d, y) :: F' => Rn ρ (F.get d) y ∧ FrRn F ρ F'

theorem ren_rel {G : Cx} {σ σ' : List Ob} {ρ : List Nat} (hr : Rel G σ) (hn : ρ.Nodup) (hs : StRn σ ρ σ') : Rel (G.ren ρ) σ' := by
  obtain ⟨hlen, hst⟩ := hs
  refine ⟨hr.below, hr.le, hr.st, fun j ob' hob => ?_, fun j j' b hj hj' hm hm' => ?_, fun j hj => ?_⟩
  · have hj : j < ρ.length := by rw [← hlen]; exact (List.getElem?_eq_some_iff.1 hob).1
    obtain ⟨ob, h1, h2⟩ := hst j _ ob' (List.getElem?_eq_getElem hj) hob
    have h3 := hr.obs _ ob h1
    have hm : (G.ren ρ).mu j = G.mu ρ[j] := by simp [Cx.ren, hj]
    cases h2 with
    | dead => trivial
    | row sz cs h =>
      simp only [ObOk, hm] at h3 ⊢
      cases hx : G.mu ρ[j] with
      | none => rw [hx] at h3; exact h3
      | some x =>
        rw [hx] at h3
        cases x with
        | none => exact h3
        | some b =>
          refine ⟨ren_row h3.1 rfl (fun k e e' he he' => ?_), h3.2⟩
          rw [he] at he'; cases he'
          refine ⟨rfl, fun i x y hx hy => ?_⟩
          rw [hx] at hy; cases hy
          exact .lo _ (h e (List.mem_of_getElem? he) x (List.mem_of_getElem? hx))
    | fz sz cs h =>
      simp only [ObOk, hm] at h3 ⊢
      cases hx : G.mu ρ[j] with
      | none => rw [hx] at h3; exact h3
      | some x =>
        rw [hx] at h3
        cases x with
        | none => exact h3
        | some b =>
          refine ⟨ren_row h3.1 rfl (fun k e e' he he' => ?_), h3.2⟩
          rw [he] at he'; cases he'
          refine ⟨rfl, fun i x y hx hy => ?_⟩
          rw [hx] at hy; cases hy
          exact .lo _ (h e (List.mem_of_getElem? he) x (List.mem_of_getElem? hx))
    | rowR sz e e' h g1 hl =>
      simp only [ObOk, hm] at h3 ⊢
      cases hx : G.mu ρ[j] with
      | none => rw [hx] at h3; exact h3
      | some x =>
        rw [hx] at h3
        cases x with
        | none => simp at h3
        | some b =>
          refine ⟨ren_row h3.1 rfl (fun k x x' he he' => ?_), h3.2⟩
          cases k with
          | succ k => simp at he
          | zero =>
            simp at he he'
            subst he he'
            exact ⟨hl, g1⟩
  · obtain ⟨sz, cs, h1⟩ := hj
    obtain ⟨sz', cs', h1'⟩ := hj'
    have hlj : j < ρ.length := by rw [← hlen]; exact (List.getElem?_eq_some_iff.1 h1).1
    have hlj' : j' < ρ.length := by rw [← hlen]; exact (List.getElem?_eq_some_iff.1 h1').1
    have al : ∀ j sz cs (hlj : j < ρ.length), σ'[j]? = some (.row sz cs) → alive σ ρ[j] := by
      intro j sz cs hlj h1
      obtain ⟨ob, h2, h3⟩ := hst j _ _ (List.getElem?_eq_getElem hlj) h1
      cases h3 with
      | row _ _ _ => exact ⟨sz, cs, h2⟩
      | rowR _ e _ _ _ _ => exact ⟨sz, [e], h2⟩
    have e := hr.inj ρ[j] ρ[j'] b (al j sz cs hlj h1) (al j' sz' cs' hlj' h1') (by simpa [Cx.ren, hlj] using hm) (by simpa [Cx.ren, hlj'] using hm')
    exact (List.getElem_inj hn).1 e
  · have : ρ[j]? = none := List.getElem?_eq_none (by omega)
    simp [Cx.ren, this]

section
variable {N : Nat} {F F' : Frm} {σ σ' : List Ob}
theorem frRn_ok {G : Cx} {a : Act} {ρ : List Nat} (hf : FOk G a F) : ∀ F', FrRn F ρ F' → FOk (G.ren ρ) a F'
  | [], _ => fun d => .any _
  | (d, y) :: F', h => fun t => by
    simp only [Frm.get]
    cases e : Nat.beq d t with
    | true =>
      have := Nat.eq_of_beq_eq_true e
      subst this
      exact h.1.rep (hf d)
    | false => exact frRn_ok hf F' h.2 t
theorem wk_ren (ρ : List Nat) (hn : ρ.Nodup) (hs : StRn σ ρ σ') (hf : FrRn F ρ F') : Weak N F σ F' σ' := fun G a h =>
  ⟨G.ren ρ, rfl, ⟨rfl, rfl, fun _ _ h => h, fun _ _ _ => rfl, fun _ _ h => .inl h⟩, ⟨ren_rel h.rel hn hs, frRn_ok h.fr F' hf, h.df, h.nt⟩⟩
/-- the same, name by name -/
def StL (ρ0 : List Nat) (σ : List Ob) : List Nat → List Ob → Prop
  | [], [] => True
  | i :: ρ, ob' :: σ' => (∃ ob, σ[i]? = some ob ∧ ObRn ρ0 ob ob') ∧ StL ρ0 σ ρ σ'
  | _, _ => False
theorem stRn_of {ρ0 : List Nat} : ∀ (ρ : List Nat) (σ' : List Ob), StL ρ0 σ ρ σ' → σ'.length = ρ.length ∧ ∀ (j i : Nat) ob', ρ[j]? = some i → σ'[j]? = some ob' → ∃ ob, σ[i]? = some ob ∧ ObRn ρ0 ob ob'
  | [], [], _ => ⟨rfl, fun j i ob' h => by simp at h⟩
  | [], _ :: _, h => h.elim
  | _ :: _, [], h => h.elim
  | i :: ρ, ob' :: σ', h => by
    obtain ⟨h1, h2⟩ := stRn_of ρ σ' h.2
    refine ⟨by simp [h1], fun j i' x hj hx => ?_⟩
    cases j with
    | zero => simp at hj hx; subst hj hx; exact h.1
    | succ j => exact h2 j i' x (by simpa using hj) (by simpa using hx)
theorem wk_st (ρ : List Nat) (hn : ρ.Nodup) (hs : StL ρ σ ρ σ') (hf : FrRn F ρ F') : Weak N F σ F' σ' := wk_ren ρ hn (stRn_of ρ σ' hs) hf
end
end Go.Proofs.Ytmhbfoaecebobaa.Aw
end
section
namespace Go.Proofs.Ytmhbfoaecebobaa.Aw
set_option linter.unusedSimpArgs false
set_option linter.unusedVariables false
open Go.RowKit

section
variable {N : Nat} {F F' : Frm} {σ σ' : List Ob}

/-- a row is finished: it is never written again -/
def Cx.froz (G : Cx) (id : Nat) : Cx := { G with St := fun b o => G.St b o ∨ G.mu id = some (some b) }
theorem froz_ok {G : Cx} {id sz : Nat} {cs : List AV} (hr : Rel G σ) (hs : σ[id]? = some (.row sz cs)) : G.Ext (G.froz id) ∧ Rel (G.froz id) (σ.set id (.fz sz cs)) := by
  have h0 := hr.obs id _ hs
  have hid : id < σ.length := (List.getElem?_eq_some_iff.1 hs).1
  have hbb : ∀ b, G.mu id = some (some b) → G.base ≤ b ∧ b < G.w.heap.size ∧ ∀ o, ¬ G.St b o := by
    intro b hb
    simp only [ObOk, hb] at h0
    obtain ⟨⟨cur, t, fr, h1, _⟩, h2, h3⟩ := h0
    exact ⟨h2, (Array.getElem?_eq_some_iff.1 h1).1, h3⟩
  have hext : G.Ext (G.froz id) := ⟨rfl, rfl, fun _ _ h => .inl h, fun _ _ _ => rfl, fun _ _ h => h, Nat.le_refl _, RowsKept.refl _, fun b o h => h.imp (fun h => h) (fun h => (hbb b h).1)⟩
  refine ⟨hext, hr.below, hr.le, fun b o h => ?_, fun i ob hob => ?_, fun i j b hi hj hm hm' => ?_, fun i hi => hr.fresh i (by simpa using hi)⟩
  · rcases h with h | h
    · exact hr.st b o h
    · exact (hbb b h).2.1
  · have rowx : ∀ b sz cs f, RowAt G b sz cs f → RowAt (G.froz id) b sz cs f := fun b sz cs f h => h.ext hext rfl
    by_cases hi : id = i
    · subst hi
      rw [List.getElem?_set_self hid] at hob
      cases hob
      simp only [ObOk] at h0 ⊢
      show match G.mu id with | none => False | some none => cs = [] | some (some b) => _
      cases hx : G.mu id with
      | none => rw [hx] at h0; exact h0
      | some x =>
        rw [hx] at h0
        cases x with
        | none => exact h0
        | some b =>
          obtain ⟨cur, t, fr, h1, h2, h3⟩ := rowx _ _ _ _ h0.1
          exact ⟨⟨cur, t, fr, h1, trivial, h3⟩, fun k e j _ _ => .inr hx⟩
    · rw [List.getElem?_set_ne hi] at hob
      have h1 := hr.obs i ob hob
      cases ob with
      | dead => trivial
      | row sz2 cs2 =>
        simp only [ObOk] at h1 ⊢
        show match G.mu i with | none => False | some none => cs2 = [] | some (some b) => _
        cases hx : G.mu i with
        | none => rw [hx] at h1; exact h1
        | some x =>
          rw [hx] at h1
          cases x with
          | none => exact h1
          | some b =>
            refine ⟨rowx _ _ _ _ h1.1, h1.2.1, fun o ho => ?_⟩
            rcases ho with ho | ho
            · exact h1.2.2 o ho
            · exact hi (hr.inj id i b ⟨sz, cs, hs⟩ ⟨sz2, cs2, hob⟩ ho hx)
      | fz sz2 cs2 =>
        simp only [ObOk] at h1 ⊢
        show match G.mu i with | none => False | some none => cs2 = [] | some (some b) => _
        cases hx : G.mu i with
        | none => rw [hx] at h1; exact h1
        | some x =>
          rw [hx] at h1
          cases x with
          | none => exact h1
          | some b => exact ⟨rowx _ _ _ _ h1.1, fun k e j he hj => .inl (h1.2 k e j he hj)⟩
  · have old : ∀ i, alive (σ.set id (.fz sz cs)) i → alive σ i := by
      rintro i ⟨sz1, cs1, hi⟩
      by_cases h2 : id = i
      · subst h2; rw [List.getElem?_set_self hid] at hi; cases hi
      · rw [List.getElem?_set_ne h2] at hi; exact ⟨sz1, cs1, hi⟩
    exact hr.inj i j b (old i hi) (old j hj) hm hm'
theorem wk_froz {id sz : Nat} {cs : List AV} (hs : σ[id]? = some (.row sz cs)) : Weak N F σ F (σ.set id (.fz sz cs)) := fun G a h => by
  obtain ⟨h1, h2⟩ := froz_ok h.rel hs
  exact ⟨G.froz id, rfl, h1.step, h.step h1 h2⟩

/-- a finished row read ar a value -/
theorem rep_fz {G : Cx} {id sz : Nat} {cs : List AV} {v : Value} (hr : Rel G σ) (hs : σ[id]? = some (.fz sz cs)) {n : Nat} (hn : n = cs.length) (hv : Rep G v (.own id sz n)) : Rep G v (.sl cs) := by
  have h0 := hr.obs id _ hs
  cases hv with
  | own0 _ _ A hA hm =>
    simp only [ObOk, hm] at h0
    subst h0
    exact .slnil A 0
  | own _ _ _ b cap hm hn2 hc hb =>
    simp only [ObOk, hm] at h0
    obtain ⟨⟨cur, t, fr, h1, _, h3, h4⟩, h5⟩ := h0
    subst hn
    refine .sl b 0 cap sz cs (fun k j => cur.getD (k * sz + j) undef) hn2 (Nat.le_trans hn2 hc) (fun k e he => ⟨(h4 k e he).1, (h4 k e he).2.1⟩) (fun k e j c he hc => ?_) (fun k e j c he hc => ?_)
    · obtain ⟨u, h6, h7⟩ := (h4 k e he).2.2 j c hc
      refine ⟨by rw [Nat.zero_add]; exact h5 k e j he (List.getElem?_eq_some_iff.1 hc).1, ?_⟩
      rw [Nat.zero_add, cell_of_row _ b _ cur t fr h1, h6, Array.getD_eq_getD_getElem?, h6]; rfl
    · obtain ⟨u, h6, h7⟩ := (h4 k e he).2.2 j c hc
      rw [Array.getD_eq_getD_getElem?, h6]; exact h7
theorem rep_fzp {G : Cx} {id sz k : Nat} {cs : List AV} {e : AV} {v : Value} (hr : Rel G σ) (hs : σ[id]? = some (.fz sz cs)) (he : cs[k]? = some e) (hv : Rep G v (.ptr id sz k 0)) : Rep G v (.ref e.cells) := by
  have h0 := hr.obs id _ hs
  cases hv with
  | ptr _ _ _ _ b hm =>
    simp only [ObOk, hm] at h0
    obtain ⟨⟨cur, t, fr, h1, _, h3, h4⟩, h5⟩ := h0
    obtain ⟨g1, g2, g3⟩ := h4 k e he
    refine .ref b (k * sz + 0) e.cells (fun j => cur.getD (k * sz + j) undef) g2 (fun j c hc => ?_) (fun j c hc => ?_)
    · obtain ⟨u, h6, h7⟩ := g3 j c hc
      refine ⟨h5 k e j he (List.getElem?_eq_some_iff.1 hc).1, ?_⟩
      show G.w.cell? ⟨b, k * sz + j, none⟩ = _
      rw [cell_of_row _ b _ cur t fr h1, h6, Array.getD_eq_getD_getElem?, h6]; rfl
    · obtain ⟨u, h6, h7⟩ := g3 j c hc
      rw [Array.getD_eq_getD_getElem?, h6]; exact h7
theorem FOk.more {G : Cx} {a : Act} {d : Nat} {x : AV} (h : FOk G a F) (hx : Rep G (a.tmps.getD d undef) x) : FOk G a ((d, x) :: F) := fun t => by
  simp only [Frm.get]
  cases e : Nat.beq d t with
  | true => have := Nat.eq_of_beq_eq_true e; subst this; exact hx
  | false => exact h t
/-- slot d holds a finished row -/
theorem wk_sl {d id sz n : Nat} {cs : List AV} (hd : F.get d = .own id sz n) (hs : σ[id]? = some (.fz sz cs)) (hn : n = cs.length) : Weak N F σ ((d, .sl cs) :: F) σ := fun G a h =>
  ⟨G, rfl, .refl G, h.rel, h.fr.more (rep_fz h.rel hs hn (by rw [← hd]; exact h.fr d)), h.df, h.nt⟩
theorem wk_ref {d id sz k : Nat} {cs : List AV} {e : AV} (hd : F.get d = .ptr id sz k 0) (hs : σ[id]? = some (.fz sz cs)) (he : cs[k]? = some e) : Weak N F σ ((d, .ref e.cells) :: F) σ := fun G a h =>
  ⟨G, rfl, .refl G, h.rel, h.fr.more (rep_fzp h.rel hs he (by rw [← hd]; exact h.fr d)), h.df, h.nt⟩
theorem rep_emp {G : Cx} {v : Value} (h : Rep G v .emp) : Rep G v (.sl []) := by
  cases h with
  | emp A hA =>
    exact .slnil A 0
theorem wk_emp {d : Nat} (hd : F.get d = .emp) : Weak N F σ ((d, .sl []) :: F) σ := fun G a h =>
  ⟨G, rfl, .refl G, h.rel, h.fr.more (rep_emp (by rw [← hd]; exact h.fr d)), h.df, h.nt⟩
theorem rep_nil {G : Cx} {v : Value} (h : Rep G v (.s (.slice none 0 0))) : Rep G v (.sl []) := by cases h; exact .slnil none 0
theorem wk_nil {d : Nat} (hd : F.get d = .s (.slice none 0 0)) : Weak N F σ ((d, .sl []) :: F) σ := fun G a h =>
  ⟨G, rfl, .refl G, h.rel, h.fr.more (rep_nil (by rw [← hd]; exact h.fr d)), h.df, h.nt⟩
/-- an empty slice ar a row of the call's own -/
theorem wk_own {d : Nat} {x : AV} (sz : Nat) (hd : F.get d = x) (hx : x = .emp ∨ x = .s (.slice none 0 0)) : Weak N F σ ((d, .own σ.length sz 0) :: F) (σ ++ [.row sz []]) := fun G a h => by
  have he := nil_ext h.rel
  refine ⟨G.new σ.length G.w none, rfl, he.step, nil_rel h.rel sz, (h.fr.ext he).more ?_, h.df, h.nt⟩
  have h1 := h.fr d
  rw [hd] at h1
  generalize a.tmps.getD d undef = v at h1
  rcases hx with rfl | rfl
  · cases h1 with | emp A hA => exact .own0 σ.length sz A hA (by simp [Cx.new])
  · cases h1; exact .own0 σ.length sz none (fun a ha => by cases ha) (by simp [Cx.new])
end

/-- f has a body: a call of it enters it -/
def Enters (P : Program) (f : FuncId) : Prop := ∀ args w, (callFunc f args).run P w = .ok (.enter f args) w
theorem enters_of {P : Program} {f : FuncId} {fn : Func} {c : Code} (hf : P.funcs[f]? = some fn) (hname : (fn.name == "runtime.NumGoroutine") = false) (hb : fn.body = some c) : Enters P f := fun args w => by
  have h1 : fn.name ≠ "runtime.NumGoroutine" := by simpa using hname
  simp [callFunc, hf, h1, hb]

/-- a function: of finished arguments it returns the finished result, and nothing that was there has changed -/
structure Pure (P : Program) (f : FuncId) (args : List AV) (r : AV) : Prop where
  ent : Enters P f
  lo : Lo 0 r
  call : ∀ (G : Cx) (vargs : Array Value), (∀ b o, G.St b o → b < G.w.heap.size) → vargs.size = args.length → (∀ (j : Nat) v x, vargs[j]? = some v → args[j]? = some x → Rep G v x) →
    Calls P f vargs G.w fun e w' => ∃ v G', e = .returned v ∧ G'.w = w' ∧ Below G.w.heap.size G.w w' ∧ (∀ b o, G.St b o → G'.St b o) ∧ (∀ b o, G'.St b o → G.St b o ∨ G.w.heap.size ≤ b) ∧ (∀ b o, G'.St b o → b < w'.heap.size) ∧ Rep G' v r

/-- a result without memory -/
def Flat (r : AV) : Prop := ∀ (G G' : Cx) (v : Value), Rep G v r → Rep G' v r
theorem Flat.s (v : Value) : Flat (.s v) := fun G G' u h => by cases h; exact .s _
theorem Flat.agg {cs : List AV} (h : ∀ c ∈ cs, Flat c) : Flat (.agg cs) := fun G G' u hu => by
  cases hu with
  | agg vs _ hl h1 hr => exact .agg vs cs hl h1 (fun j v c hv hc => h c (List.mem_of_getElem? hc) G G' v (hr j v c hv hc))
theorem Flat.tup {cs : List AV} (h : ∀ c ∈ cs, Flat c) : Flat (.tup cs) := fun G G' u hu => by
  cases hu with
  | tup vs _ hl hr => exact .tup vs cs hl (fun j v c hv hc => h c (List.mem_of_getElem? hc) G G' v (hr j v c hv hc))

/-- a result or an argument, taken as finished -/
inductive Fini (σ : List Ob) : AV → AV → Prop
  | refl (x : AV) : Fini σ x x
  | own (id sz n : Nat) (ob : Ob) (cs : List AV) (hs : σ[id]? = some ob) (ho : rowOf ob = some (sz, cs)) (hn : n = cs.length) : Fini σ (.own id sz n) (.sl cs)
  | ptr (id sz k : Nat) (ob : Ob) (cs : List AV) (e : AV) (hs : σ[id]? = some ob) (ho : rowOf ob = some (sz, cs)) (he : cs[k]? = some e) : Fini σ (.ptr id sz k 0) (.ref e.cells)
  | emp : Fini σ .emp (.sl [])
  | nil : Fini σ (.s (.slice none 0 0)) (.sl [])
  | agg (cs cs' : List AV) (hl : cs.length = cs'.length) (h : ∀ (j : Nat) x y, cs[j]? = some x → cs'[j]? = some y → Fini σ x y) : Fini σ (.agg cs) (.agg cs')
  | tup (cs cs' : List AV) (hl : cs.length = cs'.length) (h : ∀ (j : Nat) x y, cs[j]? = some x → cs'[j]? = some y → Fini σ x y) : Fini σ (.tup cs) (.tup cs')
def FiniL (σ : List Ob) (l l' : List AV) : Prop := l.length = l'.length ∧ ∀ (j : Nat) x y, l[j]? = some x → l'[j]? = some y → Fini σ x y
theorem FiniL.nil {σ : List Ob} : FiniL σ [] [] := ⟨rfl, by simp⟩
theorem FiniL.cons {σ : List Ob} {x y : AV} {l l' : List AV} (h : Fini σ x y) (t : FiniL σ l l') : FiniL σ (x :: l) (y :: l') := by
  refine ⟨by simp [t.1], fun j a b ha hb => ?_⟩
  cases j with
  | zero => simp at ha hb; subst ha hb; exact h
  | succ j => exact t.2 j a b (by simpa using ha) (by simpa using hb)
theorem FiniL.refl {σ : List Ob} (l : List AV) : FiniL σ l l := ⟨rfl, fun j x y hx hy => by rw [hx] at hy; cases hy; exact .refl _⟩
theorem Fini.one {σ : List Ob} {x y : AV} (h : Fini σ x y) (hx : x.one = true) : y.one = true := by
  cases h <;> first | exact hx | rfl | (simp [AV.one] at hx)

/-- all that lies in the heap taken as finished -/
def Cx.all (G : Cx) (B : Nat) : Cx := { G with St := fun b o => G.St b o ∨ (B ≤ b ∧ b < G.w.heap.size) }
theorem fin_rep {G : Cx} {σ : List Ob} {B : Nat} (hr : Rel G σ) (hB : B ≤ G.base) {x y : AV} (h : Fini σ x y) : ∀ {v : Value}, Rep G v x → Rep (G.all B) v y := by
  have up : ∀ {v : Value} {x : AV}, Rep G v x → Rep (G.all B) v x := fun {v x} h => by
    have e : Rep { G with St := (G.all B).St } v x := by
      induction h with
      | any v => exact .any v
      | s v => exact .s v
      | agg vs cs hl h1 _ ih => exact .agg vs cs hl h1 ih
      | emp A hA => exact .emp A hA
      | slnil A cap => exact .slnil A cap
      | sl b o cap sz l val hc hm h1 h2 _ ih => exact .sl b o cap sz l val hc hm h1 (fun k x j c hk hj => ⟨.inl (h2 k x j c hk hj).1, (h2 k x j c hk hj).2⟩) ih
      | ref b o cs val h1 h2 _ ih => exact .ref b o cs val h1 (fun j c hj => ⟨.inl (h2 j c hj).1, (h2 j c hj).2⟩) ih
      | own0 id sz A hA hm => exact .own0 id sz A hA hm
      | own id sz n b cap hm hn hc hb => exact .own id sz n b cap hm hn hc hb
      | ptr id sz k j b hm => exact .ptr id sz k j b hm
      | fn f vs cs hl _ ih => exact .fn f vs cs hl ih
      | tup vs l hl _ ih => exact .tup vs l hl ih
    exact e
  induction h with
  | refl x => exact up
  | emp => exact fun hv => up (rep_emp hv)
  | nil => exact fun hv => up (rep_nil hv)
  | own id sz n ob cs hs ho hn =>
    intro v hv
    have h0 := hr.obs id ob hs
    cases hv with
    | own0 _ _ A hA hm =>
      have hcs : cs = [] := List.eq_nil_of_length_eq_zero (by omega)
      subst hcs
      exact up (rep_emp (.emp A hA))
    | own _ _ _ b cap hm hn2 hc hb =>
      subst hn
      have hbl : B ≤ b ∨ (∀ (k : Nat) e (j : Nat), cs[k]? = some e → j < e.cells.length → G.St b (k * sz + j)) := by
        cases ob with
        | dead => cases ho
        | row sz' cs' => simp only [ObOk, hm] at h0; exact .inl (Nat.le_trans hB h0.2.1)
        | fz sz' cs' =>
          simp only [rowOf, Option.some.injEq, Prod.mk.injEq] at ho
          obtain ⟨rfl, rfl⟩ := ho
          simp only [ObOk, hm] at h0
          exact .inr h0.2
      have hsz : b < G.w.heap.size := by
        obtain ⟨cur, e, f, h1, _⟩ := hb
        exact (Array.getElem?_eq_some_iff.1 h1).1
      have key : ∀ (k : Nat) e, cs[k]? = some e → ∃ f : Nat → Value, e.cells.length = sz ∧ (∀ c ∈ e.cells, c.one = true) ∧ ∀ (j : Nat) c, e.cells[j]? = some c → G.w.cell? ⟨b, k * sz + j, none⟩ = some (f j) ∧ Rep G (f j) c := fun k e he => row_read hr hs ho hm he
      refine .sl b 0 cap sz cs (fun k j => (G.w.cell? ⟨b, k * sz + j, none⟩).getD undef) hn2 (Nat.le_trans hn2 hc) (fun k e he => ?_) (fun k e j c he hc => ?_) (fun k e j c he hc => ?_)
      · obtain ⟨f, h1, h2, _⟩ := key k e he; exact ⟨h1, h2⟩
      · obtain ⟨f, h1, h2, h3⟩ := key k e he
        rw [Nat.zero_add]
        refine ⟨?_, ?_⟩
        · rcases hbl with h | h
          · exact .inr ⟨h, hsz⟩
          · exact .inl (h k e j he (List.getElem?_eq_some_iff.1 hc).1)
        · show G.w.cell? _ = _
          rw [(h3 j c hc).1]; rfl
      · obtain ⟨f, h1, h2, h3⟩ := key k e he
        rw [(h3 j c hc).1]
        exact up (h3 j c hc).2
  | ptr id sz k ob cs e hs ho he =>
    intro v hv
    have h0 := hr.obs id ob hs
    cases hv with
    | ptr _ _ _ _ b hm =>
      have hbl : B ≤ b ∨ (∀ (k : Nat) e (j : Nat), cs[k]? = some e → j < e.cells.length → G.St b (k * sz + j)) := by
        cases ob with
        | dead => cases ho
        | row sz' cs' => simp only [ObOk, hm] at h0; exact .inl (Nat.le_trans hB h0.2.1)
        | fz sz' cs' =>
          simp only [rowOf, Option.some.injEq, Prod.mk.injEq] at ho
          obtain ⟨rfl, rfl⟩ := ho
          simp only [ObOk, hm] at h0
          exact .inr h0.2
      obtain ⟨f, h1, h2, h3⟩ := row_read hr hs ho hm he
      refine .ref b (k * sz + 0) e.cells f h2 (fun j c hc => ?_) (fun j c hc => up (h3 j c hc).2)
      refine ⟨?_, (h3 j c hc).1⟩
      rcases hbl with h | h
      · exact .inr ⟨h, World.block_lt_of_cell? _ _ (h3 j c hc).1⟩
      · exact .inl (h k e j he (List.getElem?_eq_some_iff.1 hc).1)
  | agg cs cs' hl h ih =>
    intro v hv
    cases hv with
    | agg vs _ hs h1 hr2 =>
      refine .agg vs cs' (hs.trans hl) (fun c hc => ?_) (fun j v y hv hy => ?_)
      · obtain ⟨j, hj, rfl⟩ := List.mem_iff_getElem.1 hc
        exact (h j cs[j] cs'[j] (by simp) (by simp [hj])).one (h1 _ (List.getElem_mem _))
      · have hj : j < cs.length := by rw [hl]; exact (List.getElem?_eq_some_iff.1 hy).1
        exact ih j _ y (List.getElem?_eq_getElem hj) hy (hr2 j v _ hv (List.getElem?_eq_getElem hj))
  | tup cs cs' hl h ih =>
    intro v hv
    cases hv with
    | tup vs _ hs hr2 =>
      refine .tup vs cs' (hs.trans hl) (fun j v y hv hy => ?_)
      have hj : j < cs.length := by rw [hl]; exact (List.getElem?_eq_some_iff.1 hy).1
      exact ih j _ y (List.getElem?_eq_getElem hj) hy (hr2 j v _ hv (List.getElem?_eq_getElem hj))

/-- a function's results -/
inductive ResA (P : Program) (F : Frm) (σ : List Ob) : ResultVar → AV → Prop
  | tmp (t : Tmp) (x : AV) (h : F.get t = x) : ResA P F σ (.tmp t) x
  | cell (a : Tmp) (t : TypeId) (id sz k j : Nat) (ob : Ob) (cs : List AV) (e c : AV) (ha : tyAgg P t = some false) (hp : F.get a = .ptr id sz k j) (hs : σ[id]? = some ob) (ho : rowOf ob = some (sz, cs)) (he : cs[k]? = some e) (hc : e.cells[j]? = some c) : ResA P F σ (.cell a t) c
  | cells (a : Tmp) (t : TypeId) (id sz k n bt : Nat) (z : Option Value) (ob : Ob) (cs : List AV) (e : AV) (ha : tyAgg P t = some true) (hi : tyInfo P t = some (z, n, bt)) (hp : F.get a = .ptr id sz k 0) (hs : σ[id]? = some ob) (ho : rowOf ob = some (sz, cs)) (he : cs[k]? = some e) (hn : e.cells.length = n) : ResA P F σ (.cell a t) (.agg e.cells)
inductive ResL (P : Program) (F : Frm) (σ : List Ob) : List ResultVar → List AV → Prop
  | nil : ResL P F σ [] []
  | cons (r : ResultVar) (x : AV) (rs : List ResultVar) (xs : List AV) (h : ResA P F σ r x) (t : ResL P F σ rs xs) : ResL P F σ (r :: rs) (x :: xs)
def oneOf : List AV → AV
  | [x] => x
  | xs => .tup xs
def APost (P : Program) (rs : List ResultVar) (r : AV) : Exit → Frm → List Ob → Prop := fun e F σ => (e = .normal ∨ e = .ret) ∧ ∃ xs, ResL P F σ rs xs ∧ Fini σ (oneOf xs) r

section
variable {P : Program}
def resVal (P : Program) (tmps : Array Value) : ResultVar → Sem Value
  | .tmp t => pure (tmps.getD t undef)
  | .cell a t => do loadVar t (← asAddr (tmps.getD a undef))
theorem resA_run {F : Frm} {σ : List Ob} {r : ResultVar} {x : AV} (h : ResA P F σ r x) {G : Cx} {a : Act} (hr : Rel G σ) (hf : FOk G a F) : ∃ v, (resVal P a.tmps r).run P G.w = .ok v G.w ∧ Rep G v x := by
  cases h with
  | tmp t _ h => exact ⟨a.tmps.getD t undef, rfl, by rw [← h]; exact hf t⟩
  | cell ad t id sz k j ob cs e c ha hp hs ho he hc =>
    have h1 := hf ad
    rw [hp] at h1
    generalize hv : a.tmps.getD ad undef = v at h1
    cases h1 with
    | ptr _ _ _ _ b hm =>
      obtain ⟨f, _, _, h2⟩ := row_read hr hs ho hm he
      obtain ⟨h3, h4⟩ := h2 _ _ hc
      refine ⟨f j, ?_, h4⟩
      simp [resVal, hv, asAddr, loadVar, run_isAgg ha, h3]
  | cells ad t id sz k n bt z ob cs e ha hi hp hs ho he hn =>
    have h1 := hf ad
    rw [hp] at h1
    generalize hv : a.tmps.getD ad undef = v at h1
    cases h1 with
    | ptr _ _ _ _ b hm =>
      obtain ⟨f, g1, g2, h2⟩ := row_read hr hs ho hm he
      have h3 := run_loadCells (P := P) G.w ⟨b, k * sz + 0, none⟩ n f (fun j hj => by rw [Addr.add_lit]; exact (h2 j _ (List.getElem?_eq_getElem (by omega))).1)
      refine ⟨.agg ((List.range n).map f).toArray, ?_, .agg _ _ (by simp [hn]) g2 (fun j v c hv hc => ?_)⟩
      · simp only [Nat.add_zero] at h3
        simp [resVal, hv, asAddr, loadVar, run_isAgg ha, run_sizeOf hi, h3]
      · have hj : j < n := by have := (List.getElem?_eq_some_iff.1 hc).1; omega
        simp [hj] at hv
        subst hv
        exact (h2 j c hc).2
theorem resL_run {F : Frm} {σ : List Ob} {G : Cx} {a : Act} (hr : Rel G σ) (hf : FOk G a F) : ∀ {rs : List ResultVar} {xs : List AV}, ResL P F σ rs xs → ∃ vs : List Value, (rs.mapM (resVal P a.tmps)).run P G.w = .ok vs G.w ∧ vs.length = xs.length ∧ ∀ (j : Nat) v x, vs[j]? = some v → xs[j]? = some x → Rep G v x := by
  intro rs xs h
  induction h with
  | nil => exact ⟨[], rfl, rfl, by simp⟩
  | cons r x rs xs h t ih =>
    obtain ⟨v, h1, h2⟩ := resA_run h hr hf
    obtain ⟨vs, h3, h4, h5⟩ := ih
    refine ⟨v :: vs, by simp [List.mapM_cons, h1, h3], by simp [h4], fun j u y hu hy => ?_⟩
    cases j with
    | zero => simp at hu hy; subst hu hy; exact h2
    | succ j => exact h5 j u y (by simpa using hu) (by simpa using hy)
theorem results_run {fn : Func} {F : Frm} {σ : List Ob} {xs : List AV} {G : Cx} {a : Act} (hr : Rel G σ) (hf : FOk G a F) (h : ResL P F σ fn.results.toList xs) : ∃ v, (results fn a.tmps).run P G.w = .ok v G.w ∧ Rep G v (oneOf xs) := by
  obtain ⟨vs, h1, h2, h3⟩ := resL_run hr hf h
  have h4 : (results fn a.tmps).run P G.w = .ok (if h : vs.toArray.size = 1 then vs.toArray[0] else .tuple vs.toArray) G.w := by
    have h0 : results fn a.tmps = (do
      let vs ← fn.results.mapM (resVal P a.tmps)
      pure (if h : vs.size = 1 then vs[0] else .tuple vs)) := rfl
    rw [h0, Array.mapM_eq_mapM_toList]
    simp [h1]
  refine ⟨_, h4, ?_⟩
  match xs, vs, h2, h3 with
  | [x], [v], _, h3 => simpa [oneOf] using h3 0 v x rfl rfl
  | [], [], _, h3 => simpa [oneOf] using Rep.tup (G := G) #[] [] rfl (by simp)
  | x :: y :: xs, u :: v :: vs, h2, h3 =>
    have : ¬ ((u :: v :: vs).toArray.size = 1) := by simp
    rw [dif_neg this]
    exact .tup _ _ (by simpa using h2) (fun j a b ha hb => h3 j a b (by simpa using ha) hb)

def argF : Nat → List AV → Frm
  | _, [] => []
  | k, x :: l => (k, x) :: argF (k + 1) l
theorem argF_get : ∀ (l : List AV) (k d : Nat), (argF k l).get d = if k ≤ d then l.getD (d - k) .any else .any
  | [], k, d => by simp [argF, Frm.get]
  | x :: l, k, d => by
    simp only [argF, Frm.get]
    cases e : Nat.beq k d with
    | true => have := Nat.eq_of_beq_eq_true e; subst this; simp
    | false =>
      have hne : k ≠ d := fun h => by subst h; simp at e
      simp only [cond_false, argF_get l (k + 1) d]
      by_cases h : k + 1 ≤ d
      · rw [if_pos h, if_pos (by omega)]
        obtain ⟨m, hm⟩ : ∃ m, d - k = m + 1 := ⟨d - k - 1, by omega⟩
        rw [hm, show d - (k + 1) = m by omega]
        simp
      · rw [if_neg h, if_neg (by omega)]

theorem aw_fn {f : FuncId} {fn : Func} {c : Code} {N : Nat} {args : List AV} {F0 : Frm} {rs : List ResultVar} {r : AV} (hf : P.funcs[f]? = some fn) (hname : (fn.name == "runtime.NumGoroutine") = false) (hb : fn.body = some c) (hN : fn.ntmps = N) (hres : fn.results.toList = rs) (hn : Nat.ble args.length N = true)
    (hl : ∀ x ∈ args, Lo 0 x) (hr : Lo 0 r) (hF0 : argF 0 args = F0) (h : AWp P N c F0 [] (APost P rs r)) : Pure P f args r := by
  subst hF0
  refine ⟨enters_of hf hname hb, hr, fun G vargs hst hsz hrep => ?_⟩
  have hn := Nat.le_of_ble_eq_true hn
  refine calls_of_wp hf hb ?_
  let G0 : Cx := { base := G.w.heap.size, w0 := G.w, w := G.w, mu := fun _ => none, St := G.St }
  have hrel : Rel G0 [] := ⟨Below.refl _ _, Nat.le_refl _, hst, by simp, by rintro i j b ⟨_, _, h⟩; simp at h, fun _ _ => rfl⟩
  have hfo : FOk G0 { tmps := vargs ++ Array.replicate (fn.ntmps - vargs.size) undef, defers := [] } (argF 0 args) := by
    intro d
    rw [argF_get]
    simp only [Nat.zero_le, if_true, Nat.sub_zero]
    by_cases hd : d < args.length
    · have h1 : (vargs ++ Array.replicate (fn.ntmps - vargs.size) undef).getD d undef = vargs[d]'(by omega) := by
        rw [Array.getD_eq_getD_getElem?, Array.getElem?_append_left (by omega)]
        simp [show d < vargs.size by omega]
      rw [h1]
      have h2 : args.getD d .any = args[d] := by simp [List.getD, hd]
      rw [h2]
      exact (hrep d _ _ (by simp [show d < vargs.size by omega]) (by simp [hd])).low (hl _ (List.getElem_mem hd)) (fun _ _ h => h) (fun _ _ _ => rfl) (fun id y h => by omega) (fun h => by omega)
    · have h2 : args.getD d .any = .any := by simp [List.getD, hd]
      rw [h2]; exact .any _
  have hs8 : S8 N G0 { tmps := vargs ++ Array.replicate (fn.ntmps - vargs.size) undef, defers := [] } (argF 0 args) [] := ⟨hrel, hfo, rfl, by simp [hN]; omega⟩
  refine Code.wp_mono (fun e a w q => ?_) (h G0 _ hs8)
  obtain ⟨G', F', σ', rfl, h2, h3, he, xs, h4, h5⟩ := q
  obtain ⟨v, h6, h7⟩ := results_run (fn := fn) h3.rel h3.fr (by rw [hres]; exact h4)
  have hbase : G'.base = G.w.heap.size := h2.base
  have hbel : Below G.w.heap.size G.w G'.w := by have := h3.rel.below; rw [hbase, h2.w0] at this; exact this
  have hfin := fin_rep (B := G.w.heap.size) h3.rel (by omega) h5 h7
  have post : ∃ v' G'', Ending.returned v = .returned v' ∧ G''.w = G'.w ∧ Below G.w.heap.size G.w G'.w ∧ (∀ b o, G.St b o → G''.St b o) ∧ (∀ b o, G''.St b o → G.St b o ∨ G.w.heap.size ≤ b) ∧ (∀ b o, G''.St b o → b < G'.w.heap.size) ∧ Rep G'' v' r := by
    refine ⟨v, G'.all G.w.heap.size, rfl, rfl, hbel, fun b o h => .inl (h2.st b o h), fun b o h => ?_, fun b o h => ?_, hfin⟩
    · rcases h with h | h
      · exact h2.stN b o h
      · exact .inr h.1
    · rcases h with h | h
      · exact h3.rel.st b o h
      · exact h.2
  rcases he with rfl | rfl
  · exact ⟨h3.df, v, h6, post⟩
  · exact ⟨h3.df, v, h6, post⟩

/-- a call -/
theorem after_call {G : Cx} {σ : List Ob} {G1 : Cx} {w' : World} (hr : Rel G σ) (hw : G1.w = w') (hbel : Below G.w.heap.size G.w w') (hs1 : ∀ b o, G.St b o → G1.St b o) (hs2 : ∀ b o, G1.St b o → G.St b o ∨ G.w.heap.size ≤ b) (hs3 : ∀ b o, G1.St b o → b < w'.heap.size) :
    G.Ext { G with w := w', St := G1.St } ∧ Rel { G with w := w', St := G1.St } σ := by
  have hble : G.base ≤ G.w.heap.size := by have h1 := hr.le; have h2 := hr.below.size; omega
  have hext : G.Ext { G with w := w', St := G1.St } := ⟨rfl, rfl, hs1, fun b o h => hbel.cell (hr.st b o h), fun _ _ h => h, hbel.size, fun b cur e f h => ⟨cur, (hbel.block b (Array.getElem?_eq_some_iff.1 h).1).trans h, rfl⟩, fun b o h => (hs2 b o h).imp (fun h => h) (fun h => by omega)⟩
  refine ⟨hext, hr.below.trans (hbel.mono hble), hr.le, hs3, fun id ob hob => ?_, hr.inj, hr.fresh⟩
  have h1 := hr.obs id ob hob
  have rowx : ∀ b sz cs f, RowAt G b sz cs f → RowAt { G with w := w', St := G1.St } b sz cs f := by
    rintro b sz cs f ⟨cur, t, fr, h2, h3, h4, h5⟩
    refine ⟨cur, t, fr, (hbel.block b (Array.getElem?_eq_some_iff.1 h2).1).trans h2, h3, h4, fun k x hx => ⟨(h5 k x hx).1, (h5 k x hx).2.1, fun j c hc => ?_⟩⟩
    obtain ⟨v, h6, h7⟩ := (h5 k x hx).2.2 j c hc
    exact ⟨v, h6, h7.ext hext⟩
  cases ob with
  | dead => trivial
  | row sz cs =>
    simp only [ObOk] at h1 ⊢
    cases hx : G.mu id with
    | none => rw [hx] at h1; exact h1
    | some x =>
      rw [hx] at h1
      cases x with
      | none => exact h1
      | some b =>
        refine ⟨rowx _ _ _ _ h1.1, h1.2.1, fun o ho => ?_⟩
        obtain ⟨⟨cur, t, fr, h2, _⟩, _, h3⟩ := h1
        have := (Array.getElem?_eq_some_iff.1 h2).1
        rcases hs2 b o ho with h | h
        · exact h3 o h
        · omega
  | fz sz cs =>
    simp only [ObOk] at h1 ⊢
    cases hx : G.mu id with
    | none => rw [hx] at h1; exact h1
    | some x =>
      rw [hx] at h1
      cases x with
      | none => exact h1
      | some b => exact ⟨rowx _ _ _ _ h1.1, fun k e j he hj => hs1 _ _ (h1.2 k e j he hj)⟩

section
variable {o : Oper} {F : Frm} {σ : List Ob}
theorem call_enter {f : FuncId} {cap : Array Value} {fo : Operand} {ar : Array Operand} {ts : Array TypeId} (ho : o.op = .call { callee := .value fo, args := ar, argTypes := ts }) (ρ : Operand → Value) (hv : ρ fo = .func (.func f) #[] cap) (he : Enters P f) (w : World) :
    (execOp ρ o).run P w = .ok (.enter f (ar.map ρ ++ cap)) w := by
  simp [execOp, ho, resolve, Deferred.ofValue, hv, invoke, he _ w]
theorem call_args {G : Cx} {ρ : Operand → Value} {fo : Operand} {ar : Array Operand} {ts : Array TypeId} {f : FuncId} {caps : List AV} (ho : o.op = .call { callee := .value fo, args := ar, argTypes := ts }) (hop : ∀ y ∈ o.op.operands, Rep G (ρ y) (F.eval y)) (hf : F.eval fo = .fn f caps) :
    ∃ cap : Array Value, ρ fo = .func (.func f) #[] cap ∧ (ar.map ρ ++ cap).size = (ar.toList.map F.eval ++ caps).length ∧ ∀ (j : Nat) v x, (ar.map ρ ++ cap)[j]? = some v → (ar.toList.map F.eval ++ caps)[j]? = some x → Rep G v x := by
  have h1 := hop fo (by simp [ho, Op.operands, Call.operands])
  rw [hf] at h1
  generalize hv : ρ fo = u at h1
  cases h1 with
  | fn _ vs _ hl h =>
    refine ⟨vs, rfl, by simp [hl], fun j v x hj hx => ?_⟩
    by_cases hlt : j < ar.size
    · rw [Array.getElem?_append_left (by simpa using hlt)] at hj
      rw [List.getElem?_append_left (by simpa using hlt)] at hx
      simp [hlt] at hj hx
      subst hj hx
      exact hop ar[j] (by simp [ho, Op.operands, Call.operands])
    · rw [Array.getElem?_append_right (by simp; omega)] at hj
      rw [List.getElem?_append_right (by simp; omega)] at hx
      simp only [Array.size_map, List.length_map, Array.length_toList] at hj hx
      exact h _ v x hj hx
theorem does_call {fo : Operand} {ar : Array Operand} {ts : Array TypeId} {f : FuncId} {caps args : List AV} {r : AV} (ho : o.op = .call { callee := .value fo, args := ar, argTypes := ts }) (hf : F.eval fo = .fn f caps) (hp : Pure P f args r) (ha : ar.toList.map F.eval ++ caps = args) : Does P o F σ r σ := by
  intro G a next Q hr hop hn
  obtain ⟨cap, h1, h2, h3⟩ := call_args ho hop hf
  rw [ha] at h2 h3
  unfold Oper.wp
  rw [call_enter ho a.eval h1 hp.ent G.w, Oper.upon_enter]
  refine (hp.call G _ hr.st h2 h3).mono ?_
  rintro e w' ⟨v, G1, rfl, hw, hbel, hs1, hs2, hs3, hrep⟩
  obtain ⟨h4, h5⟩ := after_call hr hw hbel hs1 hs2 hs3
  subst hw
  exact hn v { G with w := G1.w, St := G1.St } h4 h5 (hrep.low hp.lo (fun _ _ h => h) (fun _ _ _ => rfl) (fun id y h => by omega) (fun h => by omega))
/-- a call that is lent rows of the call's own, and returns no memory -/
theorem does_callb {fo : Operand} {ar : Array Operand} {ts : Array TypeId} {f : FuncId} {caps args : List AV} {r : AV} (ho : o.op = .call { callee := .value fo, args := ar, argTypes := ts }) (hf : F.eval fo = .fn f caps) (hp : Pure P f args r) (ha : FiniL σ (ar.toList.map F.eval ++ caps) args) (hfl : Flat r) : Does P o F σ r σ := by
  intro G a next Q hr hop hn
  obtain ⟨cap, h1, h2, h3⟩ := call_args ho hop hf
  have hble : G.base ≤ G.w.heap.size := by have h1 := hr.le; have h2 := hr.below.size; omega
  unfold Oper.wp
  rw [call_enter ho a.eval h1 hp.ent G.w, Oper.upon_enter]
  have hst : ∀ b o, (G.all G.base).St b o → b < (G.all G.base).w.heap.size := fun b o h => by
    rcases h with h | h
    · exact hr.st b o h
    · exact h.2
  refine (hp.call (G.all G.base) _ hst (h2.trans ha.1) (fun j v x hv hx => ?_)).mono ?_
  · have hj : j < (ar.toList.map F.eval ++ caps).length := by rw [ha.1]; exact (List.getElem?_eq_some_iff.1 hx).1
    exact fin_rep hr (Nat.le_refl _) (ha.2 j _ x (List.getElem?_eq_getElem hj) hx) (h3 j v _ hv (List.getElem?_eq_getElem hj))
  · rintro e w' ⟨v, G1, rfl, hw, hbel, hs1, hs2, hs3, hrep⟩
    have hbel' : Below G.w.heap.size G.w w' := hbel
    obtain ⟨h4, h5⟩ := after_call (G1 := { G1 with St := G.St }) hr hw hbel' (fun _ _ h => h) (fun _ _ h => .inl h) (fun b o h => by have := hr.st b o h; have := hbel'.size; omega)
    exact hn v _ h4 h5 (hfl G1 _ v hrep)
end
end
end Go.Proofs.Ytmhbfoaecebobaa.Aw
end
