import Derived.Test.YtmhbfoaecebobaaJG3
import Derived.Test.YtmhbfoaecebobaaJG1
import Derived.Laws.StructEq
import Derived.StringKeys
import Derived.Maps.Keyed
import Derived.Carry
import Derived.Test.YtmhbfoaecebobaaProg
section
namespace Go.Proofs.Ytmhbfoaecebobaa.Aw
set_option linter.unusedSimpArgs false
set_option linter.unusedVariables false
open Go.RowKit
inductive Rn (ρ : List Nat) : AV → AV → Prop
  | lo (x : AV) (h : Lo 0 x) : Rn ρ x x
  | own (id j sz n n' : Nat) (h : ρ[j]? = some id) (hn : n = n') : Rn ρ (.own id sz n) (.own j sz n')
  | ptr (id j sz k i : Nat) (h : ρ[j]? = some id) : Rn ρ (.ptr id sz k i) (.ptr j sz k i)
  | mp (id j : Nat) (h : ρ[j]? = some id) : Rn ρ (.mp id) (.mp j)
  | sub (id j sz q n q' n' : Nat) (h : ρ[j]? = some id) (hq : q = q') (hn : n = n') : Rn ρ (.sub id sz q n) (.sub j sz q' n')
  | agg (cs cs' : List AV) (hl : cs.length = cs'.length) (h : ∀ (j : Nat) x y, cs[j]? = some x → cs'[j]? = some y → Rn ρ x y) : Rn ρ (.agg cs) (.agg cs')
  | fn (f : FuncId) (cs cs' : List AV) (hl : cs.length = cs'.length) (h : ∀ (j : Nat) x y, cs[j]? = some x → cs'[j]? = some y → Rn ρ x y) : Rn ρ (.fn f cs) (.fn f cs')
def Cx.ren (G : Cx) (ρ : List Nat) : Cx := { G with mu := fun j => (ρ[j]?).bind G.mu }
theorem Rn.one {ρ : List Nat} {x y : AV} (h : Rn ρ x y) : y.one = x.one := by cases h <;> rfl
theorem Rn.rep {G : Cx} {ρ : List Nat} {v : Value} {x y : AV} (h : Rn ρ x y) : Rep G v x → Rep (G.ren ρ) v y := by
  induction h generalizing v with
  | lo x h => exact fun hv => hv.low h (fun _ _ h => h) (fun _ _ _ => rfl) (fun id y h => by omega) (fun h => by omega)
  | own id j sz n n' h hn =>
    subst hn
    intro hv
    cases hv with
    | own0 _ _ A hA hm => exact .own0 j sz A hA (by simp [Cx.ren, h, hm])
    | own _ _ _ b cap hm hn hc hb => exact .own j sz n b cap (by simp [Cx.ren, h, hm]) hn hc hb
  | ptr id j sz k i h =>
    intro hv
    cases hv with
    | ptr _ _ _ _ b hm => exact .ptr j sz k i b (by simp [Cx.ren, h, hm])
  | mp id j h =>
    intro hv
    cases hv with
    | mp _ b hm => exact .mp j b (by simp [Cx.ren, h, hm])
  | sub id j sz q n q' n' h hq hn =>
    subst hq hn
    intro hv
    cases hv with
    | sub _ _ _ _ b cap A hm hA hc => exact .sub j sz q n b cap A (by simp [Cx.ren, h, hm]) hA hc
  | agg cs cs' hl h ih =>
    intro hv
    cases hv with
    | agg vs _ hs h1 hr =>
      refine .agg vs cs' (hs.trans hl) (fun c hc => ?_) (fun j v y hv hy => ?_)
      · obtain ⟨j, hj, rfl⟩ := List.mem_iff_getElem.1 hc
        rw [(h j cs[j] cs'[j] (by simp) (by simp [hj])).one]
        exact h1 _ (List.getElem_mem _)
      · have hj : j < cs.length := by rw [hl]; exact (List.getElem?_eq_some_iff.1 hy).1
        exact ih j _ y (List.getElem?_eq_getElem hj) hy (hr j v _ hv (List.getElem?_eq_getElem hj))
  | fn f cs cs' hl h ih =>
    intro hv
    cases hv with
    | fn _ vs _ hs hr =>
      refine .fn f vs cs' (hs.trans hl) (fun j v y hv hy => ?_)
      have hj : j < cs.length := by rw [hl]; exact (List.getElem?_eq_some_iff.1 hy).1
      exact ih j _ y (List.getElem?_eq_getElem hj) hy (hr j v _ hv (List.getElem?_eq_getElem hj))
inductive ObRn (ρ : List Nat) : Ob → Ob → Prop
  | dead (ob : Ob) : ObRn ρ ob .dead
  | row (sz : Nat) (cs : List AV) (h : ∀ e ∈ cs, ∀ c ∈ e.cells, Lo 0 c) : ObRn ρ (.row sz cs) (.row sz cs)
  | fz (sz : Nat) (cs : List AV) (h : ∀ e ∈ cs, ∀ c ∈ e.cells, Lo 0 c) : ObRn ρ (.fz sz cs) (.fz sz cs)
  | rowR (sz : Nat) (e e' : AV) (h : Rn ρ e e') (h1 : ∀ (j : Nat) x y, e.cells[j]? = some x → e'.cells[j]? = some y → Rn ρ x y) (hl : e.cells.length = e'.cells.length) : ObRn ρ (.row sz [e]) (.row sz [e'])
  | mp (X : MapX) (n : Nat) (hn : X.n ≤ n) : ObRn ρ (.mp X) (.mp { X with n := n })
theorem ren_row {G : Cx} {ρ : List Nat} {b sz : Nat} {cs cs' : List AV} {f : Nat × Nat → Prop} (h : RowAt G b sz cs f) (hl : cs.length = cs'.length)
    (hc : ∀ (k : Nat) e e', cs[k]? = some e → cs'[k]? = some e' → e.cells.length = e'.cells.length ∧ ∀ (j : Nat) x y, e.cells[j]? = some x → e'.cells[j]? = some y → Rn ρ x y) : RowAt (G.ren ρ) b sz cs' f := by
  obtain ⟨cur, t, fr, h1, h2, h3, h4⟩ := h
  refine ⟨cur, t, fr, h1, h2, by rw [← hl]; exact h3, fun k e' he' => ?_⟩
  have hk : k < cs.length := by rw [hl]; exact (List.getElem?_eq_some_iff.1 he').1
  obtain ⟨g1, g2, g3⟩ := h4 k _ (List.getElem?_eq_getElem hk)
  obtain ⟨k1, k2⟩ := hc k _ e' (List.getElem?_eq_getElem hk) he'
  refine ⟨by rw [← k1]; exact g1, fun c hcc => ?_, fun j y hy => ?_⟩
  · obtain ⟨j, hj, rfl⟩ := List.mem_iff_getElem.1 hcc
    rw [(k2 j _ _ (List.getElem?_eq_getElem (by omega)) (List.getElem?_eq_getElem hj)).one]
    exact g2 _ (List.getElem_mem _)
  · have hj : j < (cs[k]).cells.length := by rw [k1]; exact (List.getElem?_eq_some_iff.1 hy).1
    obtain ⟨v, g4, g5⟩ := g3 j _ (List.getElem?_eq_getElem hj)
    exact ⟨v, g4, (k2 j _ y (List.getElem?_eq_getElem hj) hy).rep g5⟩
theorem ObRn.rowE {ρ : List Nat} {sz : Nat} {cs cs' : List AV} (h : ∀ e ∈ cs', ∀ c ∈ e.cells, Lo 0 c) (hc : cs = cs') : ObRn ρ (.row sz cs) (.row sz cs') := by subst hc; exact .row sz cs h
def StRn (σ : List Ob) (ρ : List Nat) (σ' : List Ob) : Prop := σ'.length = ρ.length ∧ ∀ (j i : Nat) ob', ρ[j]? = some i → σ'[j]? = some ob' → ∃ ob, σ[i]? = some ob ∧ ObRn ρ ob ob'
def FrRn (F : Frm) (ρ : List Nat) : Frm → Prop
  | [] => True
  | (d, y) :: F' => Rn ρ (F.get d) y ∧ FrRn F ρ F'
theorem ren_rel {G : Cx} {σ σ' : List Ob} {ρ : List Nat} (hr : Rel G σ) (hn : ρ.Nodup) (hs : StRn σ ρ σ') : Rel (G.ren ρ) σ' := by
  obtain ⟨hlen, hst⟩ := hs
  refine ⟨hr.below, hr.le, hr.st, fun j ob' hob => ?_, fun j j' b hj hj' hm hm' => ?_, fun j hj => ?_⟩
  · have hj : j < ρ.length := by rw [← hlen]; exact (List.getElem?_eq_some_iff.1 hob).1
    obtain ⟨ob, h1, h2⟩ := hst j _ ob' (List.getElem?_eq_getElem hj) hob
    have h3 := hr.obs _ ob h1
    have hm : (G.ren ρ).mu j = G.mu ρ[j] := by simp [Cx.ren, hj]
    cases h2 with
    | dead => exact fun b hb => h3.lt (by rw [← hm]; exact hb)
    | mp X n hn2 =>
      obtain ⟨b, g1, g2, g3, g4, g5⟩ := h3
      refine ⟨b, hm.trans g1, World.ownsMap.mono g2 hn2, g3, g4, fun j' hj' => ?_⟩
      cases hρ : ρ[j']? with
      | none => simp [Cx.ren, hρ] at hj'
      | some i =>
        obtain ⟨hlt, hi⟩ := List.getElem?_eq_some_iff.1 hρ
        simp only [Cx.ren, hρ, Option.bind_some] at hj'
        have := g5 i hj'
        rw [← hi] at this
        exact (List.getElem_inj hn).1 this
    | row sz cs h =>
      simp only [ObOk, hm] at h3 ⊢
      cases hx : G.mu ρ[j] with
      | none => rw [hx] at h3; exact h3
      | some x =>
        rw [hx] at h3
        cases x with
        | none => exact h3
        | some b =>
          refine ⟨ren_row h3.1 rfl (fun k e e' he he' => ?_), h3.2⟩
          rw [he] at he'; cases he'
          refine ⟨rfl, fun i x y hx hy => ?_⟩
          rw [hx] at hy; cases hy
          exact .lo _ (h e (List.mem_of_getElem? he) x (List.mem_of_getElem? hx))
    | fz sz cs h =>
      simp only [ObOk, hm] at h3 ⊢
      cases hx : G.mu ρ[j] with
      | none => rw [hx] at h3; exact h3
      | some x =>
        rw [hx] at h3
        cases x with
        | none => exact h3
        | some b =>
          refine ⟨ren_row h3.1 rfl (fun k e e' he he' => ?_), h3.2⟩
          rw [he] at he'; cases he'
          refine ⟨rfl, fun i x y hx hy => ?_⟩
          rw [hx] at hy; cases hy
          exact .lo _ (h e (List.mem_of_getElem? he) x (List.mem_of_getElem? hx))
    | rowR sz e e' h g1 hl =>
      simp only [ObOk, hm] at h3 ⊢
      cases hx : G.mu ρ[j] with
      | none => rw [hx] at h3; exact h3
      | some x =>
        rw [hx] at h3
        cases x with
        | none => simp at h3
        | some b =>
          refine ⟨ren_row h3.1 rfl (fun k x x' he he' => ?_), h3.2⟩
          cases k with
          | succ k => simp at he
          | zero =>
            simp at he he'
            subst he he'
            exact ⟨hl, g1⟩
  · obtain ⟨sz, cs, h1⟩ := hj
    obtain ⟨sz', cs', h1'⟩ := hj'
    have hlj : j < ρ.length := by rw [← hlen]; exact (List.getElem?_eq_some_iff.1 h1).1
    have hlj' : j' < ρ.length := by rw [← hlen]; exact (List.getElem?_eq_some_iff.1 h1').1
    have al : ∀ j sz cs (hlj : j < ρ.length), σ'[j]? = some (.row sz cs) → alive σ ρ[j] := by
      intro j sz cs hlj h1
      obtain ⟨ob, h2, h3⟩ := hst j _ _ (List.getElem?_eq_getElem hlj) h1
      cases h3 with
      | row _ _ _ => exact ⟨sz, cs, h2⟩
      | rowR _ e _ _ _ _ => exact ⟨sz, [e], h2⟩
    have e := hr.inj ρ[j] ρ[j'] b (al j sz cs hlj h1) (al j' sz' cs' hlj' h1') (by simpa [Cx.ren, hlj] using hm) (by simpa [Cx.ren, hlj'] using hm')
    exact (List.getElem_inj hn).1 e
  · have : ρ[j]? = none := List.getElem?_eq_none (by omega)
    simp [Cx.ren, this]
section
variable {N : Nat} {F F' : Frm} {σ σ' : List Ob}
theorem frRn_ok {G : Cx} {a : Act} {ρ : List Nat} (hf : FOk G a F) : ∀ F', FrRn F ρ F' → FOk (G.ren ρ) a F'
  | [], _ => fun d => .any _
  | (d, y) :: F', h => fun t => by
    simp only [Frm.get]
    cases e : Nat.beq d t with
    | true =>
      have := Nat.eq_of_beq_eq_true e
      subst this
      exact h.1.rep (hf d)
    | false => exact frRn_ok hf F' h.2 t
theorem wk_ren (ρ : List Nat) (hn : ρ.Nodup) (hs : StRn σ ρ σ') (hf : FrRn F ρ F') : Weak N F σ F' σ' := fun G a h =>
  ⟨G.ren ρ, rfl, ⟨rfl, rfl, fun _ _ h => h, fun _ _ _ => rfl, fun _ _ h => .inl h⟩, ⟨ren_rel h.rel hn hs, frRn_ok h.fr F' hf, h.df, h.nt⟩⟩
def StL (ρ0 : List Nat) (σ : List Ob) : List Nat → List Ob → Prop
  | [], [] => True
  | i :: ρ, ob' :: σ' => (∃ ob, σ[i]? = some ob ∧ ObRn ρ0 ob ob') ∧ StL ρ0 σ ρ σ'
  | _, _ => False
theorem stRn_of {ρ0 : List Nat} : ∀ (ρ : List Nat) (σ' : List Ob), StL ρ0 σ ρ σ' → σ'.length = ρ.length ∧ ∀ (j i : Nat) ob', ρ[j]? = some i → σ'[j]? = some ob' → ∃ ob, σ[i]? = some ob ∧ ObRn ρ0 ob ob'
  | [], [], _ => ⟨rfl, fun j i ob' h => by simp at h⟩
  | [], _ :: _, h => h.elim
  | _ :: _, [], h => h.elim
  | i :: ρ, ob' :: σ', h => by
    obtain ⟨h1, h2⟩ := stRn_of ρ σ' h.2
    refine ⟨by simp [h1], fun j i' x hj hx => ?_⟩
    cases j with
    | zero => simp at hj hx; subst hj hx; exact h.1
    | succ j => exact h2 j i' x (by simpa using hj) (by simpa using hx)
theorem wk_st (ρ : List Nat) (hn : ρ.Nodup) (hs : StL ρ σ ρ σ') (hf : FrRn F ρ F') : Weak N F σ F' σ' := wk_ren ρ hn (stRn_of ρ σ' hs) hf
end
end Go.Proofs.Ytmhbfoaecebobaa.Aw
end
section
namespace Go.Proofs.Ytmhbfoaecebobaa.Aw
set_option linter.unusedSimpArgs false
set_option linter.unusedVariables false
open Go.RowKit
section
variable {N : Nat} {F F' : Frm} {σ σ' : List Ob}
def Cx.froz (G : Cx) (id : Nat) : Cx := { G with St := fun b o => G.St b o ∨ G.mu id = some (some b) }
theorem froz_ok {G : Cx} {id sz : Nat} {cs : List AV} (hr : Rel G σ) (hs : σ[id]? = some (.row sz cs)) : G.Ext (G.froz id) ∧ Rel (G.froz id) (σ.set id (.fz sz cs)) := by
  have h0 := hr.obs id _ hs
  have hid : id < σ.length := (List.getElem?_eq_some_iff.1 hs).1
  have hbb : ∀ b, G.mu id = some (some b) → G.base ≤ b ∧ b < G.w.heap.size ∧ ∀ o, ¬ G.St b o := by
    intro b hb
    simp only [ObOk, hb] at h0
    obtain ⟨⟨cur, t, fr, h1, _⟩, h2, h3⟩ := h0
    exact ⟨h2, (Array.getElem?_eq_some_iff.1 h1).1, h3⟩
  have hext : G.Ext (G.froz id) := ⟨rfl, rfl, fun _ _ h => .inl h, fun _ _ _ => rfl, fun _ _ h => h, Nat.le_refl _, RowsKept.refl _, fun b o h => h.imp (fun h => h) (fun h => (hbb b h).1)⟩
  refine ⟨hext, hr.below, hr.le, fun b o h => ?_, fun i ob hob => ?_, fun i j b hi hj hm hm' => ?_, fun i hi => hr.fresh i (by simpa using hi)⟩
  · rcases h with h | h
    · exact hr.st b o h
    · exact (hbb b h).2.1
  · have rowx : ∀ b sz cs f, RowAt G b sz cs f → RowAt (G.froz id) b sz cs f := fun b sz cs f h => h.ext hext rfl
    by_cases hi : id = i
    · subst hi
      rw [List.getElem?_set_self hid] at hob
      cases hob
      simp only [ObOk] at h0 ⊢
      show match G.mu id with | none => False | some none => cs = [] | some (some b) => _
      cases hx : G.mu id with
      | none => rw [hx] at h0; exact h0
      | some x =>
        rw [hx] at h0
        cases x with
        | none => exact h0
        | some b =>
          obtain ⟨cur, t, fr, h1, h2, h3⟩ := rowx _ _ _ _ h0.1
          exact ⟨⟨cur, t, fr, h1, trivial, h3⟩, fun k e j _ _ => .inr hx⟩
    · rw [List.getElem?_set_ne hi] at hob
      have h1 := hr.obs i ob hob
      cases ob with
      | dead => exact h1
      | row sz2 cs2 =>
        simp only [ObOk] at h1 ⊢
        show match G.mu i with | none => False | some none => cs2 = [] | some (some b) => _
        cases hx : G.mu i with
        | none => rw [hx] at h1; exact h1
        | some x =>
          rw [hx] at h1
          cases x with
          | none => exact h1
          | some b =>
            refine ⟨rowx _ _ _ _ h1.1, h1.2.1, fun o ho => ?_⟩
            rcases ho with ho | ho
            · exact h1.2.2 o ho
            · exact hi (hr.inj id i b ⟨sz, cs, hs⟩ ⟨sz2, cs2, hob⟩ ho hx)
      | fz sz2 cs2 =>
        simp only [ObOk] at h1 ⊢
        show match G.mu i with | none => False | some none => cs2 = [] | some (some b) => _
        cases hx : G.mu i with
        | none => rw [hx] at h1; exact h1
        | some x =>
          rw [hx] at h1
          cases x with
          | none => exact h1
          | some b => exact ⟨rowx _ _ _ _ h1.1, fun k e j he hj => .inl (h1.2 k e j he hj)⟩
      | mp X =>
        obtain ⟨b, g1, g2, g3, g4, g5⟩ := h1
        exact ⟨b, g1, g2, g3, fun o ho => by
          rcases ho with ho | ho
          · exact g4 o ho
          · exact hi (g5 id ho), g5⟩
  · have old : ∀ i, alive (σ.set id (.fz sz cs)) i → alive σ i := by
      rintro i ⟨sz1, cs1, hi⟩
      by_cases h2 : id = i
      · subst h2; rw [List.getElem?_set_self hid] at hi; cases hi
      · rw [List.getElem?_set_ne h2] at hi; exact ⟨sz1, cs1, hi⟩
    exact hr.inj i j b (old i hi) (old j hj) hm hm'
theorem wk_froz {id sz : Nat} {cs : List AV} (hs : σ[id]? = some (.row sz cs)) : Weak N F σ F (σ.set id (.fz sz cs)) := fun G a h => by
  obtain ⟨h1, h2⟩ := froz_ok h.rel hs
  exact ⟨G.froz id, rfl, h1.step, h.step h1 h2⟩
theorem rep_fz {G : Cx} {id sz : Nat} {cs : List AV} {v : Value} (hr : Rel G σ) (hs : σ[id]? = some (.fz sz cs)) {n : Nat} (hn : n = cs.length) (hv : Rep G v (.own id sz n)) : Rep G v (.sl cs) := by
  have h0 := hr.obs id _ hs
  cases hv with
  | own0 _ _ A hA hm =>
    simp only [ObOk, hm] at h0
    subst h0
    exact .slnil A 0
  | own _ _ _ b cap hm hn2 hc hb =>
    simp only [ObOk, hm] at h0
    obtain ⟨⟨cur, t, fr, h1, _, h3, h4⟩, h5⟩ := h0
    subst hn
    refine .sl b 0 cap sz cs (fun k j => cur.getD (k * sz + j) undef) hn2 (Nat.le_trans hn2 hc) (fun k e he => ⟨(h4 k e he).1, (h4 k e he).2.1⟩) (fun k e j c he hc => ?_) (fun k e j c he hc => ?_)
    · obtain ⟨u, h6, h7⟩ := (h4 k e he).2.2 j c hc
      refine ⟨by rw [Nat.zero_add]; exact h5 k e j he (List.getElem?_eq_some_iff.1 hc).1, ?_⟩
      rw [Nat.zero_add, cell_of_row _ b _ cur t fr h1, h6, Array.getD_eq_getD_getElem?, h6]; rfl
    · obtain ⟨u, h6, h7⟩ := (h4 k e he).2.2 j c hc
      rw [Array.getD_eq_getD_getElem?, h6]; exact h7
theorem rep_fzp {G : Cx} {id sz k : Nat} {cs : List AV} {e : AV} {v : Value} (hr : Rel G σ) (hs : σ[id]? = some (.fz sz cs)) (he : cs[k]? = some e) (hv : Rep G v (.ptr id sz k 0)) : Rep G v (.ref e.cells) := by
  have h0 := hr.obs id _ hs
  cases hv with
  | ptr _ _ _ _ b hm =>
    simp only [ObOk, hm] at h0
    obtain ⟨⟨cur, t, fr, h1, _, h3, h4⟩, h5⟩ := h0
    obtain ⟨g1, g2, g3⟩ := h4 k e he
    refine .ref b (k * sz + 0) e.cells (fun j => cur.getD (k * sz + j) undef) g2 (fun j c hc => ?_) (fun j c hc => ?_)
    · obtain ⟨u, h6, h7⟩ := g3 j c hc
      refine ⟨h5 k e j he (List.getElem?_eq_some_iff.1 hc).1, ?_⟩
      show G.w.cell? ⟨b, k * sz + j, none⟩ = _
      rw [cell_of_row _ b _ cur t fr h1, h6, Array.getD_eq_getD_getElem?, h6]; rfl
    · obtain ⟨u, h6, h7⟩ := g3 j c hc
      rw [Array.getD_eq_getD_getElem?, h6]; exact h7
theorem FOk.more {G : Cx} {a : Act} {d : Nat} {x : AV} (h : FOk G a F) (hx : Rep G (a.tmps.getD d undef) x) : FOk G a ((d, x) :: F) := fun t => by
  simp only [Frm.get]
  cases e : Nat.beq d t with
  | true => have := Nat.eq_of_beq_eq_true e; subst this; exact hx
  | false => exact h t
theorem wk_sl {d id sz n : Nat} {cs : List AV} (hd : F.get d = .own id sz n) (hs : σ[id]? = some (.fz sz cs)) (hn : n = cs.length) : Weak N F σ ((d, .sl cs) :: F) σ := fun G a h =>
  ⟨G, rfl, .refl G, h.rel, h.fr.more (rep_fz h.rel hs hn (by rw [← hd]; exact h.fr d)), h.df, h.nt⟩
theorem wk_ref {d id sz k : Nat} {cs : List AV} {e : AV} (hd : F.get d = .ptr id sz k 0) (hs : σ[id]? = some (.fz sz cs)) (he : cs[k]? = some e) : Weak N F σ ((d, .ref e.cells) :: F) σ := fun G a h =>
  ⟨G, rfl, .refl G, h.rel, h.fr.more (rep_fzp h.rel hs he (by rw [← hd]; exact h.fr d)), h.df, h.nt⟩
theorem rep_emp {G : Cx} {v : Value} (h : Rep G v .emp) : Rep G v (.sl []) := by
  cases h with
  | emp A hA =>
    exact .slnil A 0
theorem rep_nil {G : Cx} {v : Value} (h : Rep G v (.s (.slice none 0 0))) : Rep G v (.sl []) := by cases h; exact .slnil none 0
theorem wk_own {d : Nat} {x : AV} (sz : Nat) (hd : F.get d = x) (hx : x = .emp ∨ x = .s (.slice none 0 0)) : Weak N F σ ((d, .own σ.length sz 0) :: F) (σ ++ [.row sz []]) := fun G a h => by
  have he := nil_ext h.rel
  refine ⟨G.new σ.length G.w none, rfl, he.step, nil_rel h.rel sz, (h.fr.ext he).more ?_, h.df, h.nt⟩
  have h1 := h.fr d
  rw [hd] at h1
  generalize a.tmps.getD d undef = v at h1
  rcases hx with rfl | rfl
  · cases h1 with | emp A hA => exact .own0 σ.length sz A hA (by simp [Cx.new])
  · cases h1; exact .own0 σ.length sz none (fun a ha => by cases ha) (by simp [Cx.new])
end
def Enters (P : Program) (f : FuncId) : Prop := ∀ args w, (callFunc f args).run P w = .ok (.enter f args) w
theorem enters_of {P : Program} {f : FuncId} {fn : Func} {c : Code} (hf : P.funcs[f]? = some fn) (hname : (fn.name == "runtime.NumGoroutine") = false) (hb : fn.body = some c) : Enters P f := fun args w => by
  have h1 : fn.name ≠ "runtime.NumGoroutine" := by simpa using hname
  simp [callFunc, hf, h1, hb]
structure Pure (P : Program) (f : FuncId) (args : List AV) (r : AV) : Prop where
  ent : Enters P f
  lo : Lo 0 r
  call : ∀ (G : Cx) (vargs : Array Value), (∀ b o, G.St b o → b < G.w.heap.size) → vargs.size = args.length → (∀ (j : Nat) v x, vargs[j]? = some v → args[j]? = some x → Rep G v x) →
    Calls P f vargs G.w fun e w' => ∃ v G', e = .returned v ∧ G'.w = w' ∧ Below G.w.heap.size G.w w' ∧ (∀ b o, G.St b o → G'.St b o) ∧ (∀ b o, G'.St b o → G.St b o ∨ G.w.heap.size ≤ b) ∧ (∀ b o, G'.St b o → b < w'.heap.size) ∧ Rep G' v r
def Flat (r : AV) : Prop := ∀ (G G' : Cx) (v : Value), Rep G v r → Rep G' v r
theorem Flat.s (v : Value) : Flat (.s v) := fun G G' u h => by cases h; exact .s _
theorem Flat.agg {cs : List AV} (h : ∀ c ∈ cs, Flat c) : Flat (.agg cs) := fun G G' u hu => by
  cases hu with
  | agg vs _ hl h1 hr => exact .agg vs cs hl h1 (fun j v c hv hc => h c (List.mem_of_getElem? hc) G G' v (hr j v c hv hc))
theorem Flat.tup {cs : List AV} (h : ∀ c ∈ cs, Flat c) : Flat (.tup cs) := fun G G' u hu => by
  cases hu with
  | tup vs _ hl hr => exact .tup vs cs hl (fun j v c hv hc => h c (List.mem_of_getElem? hc) G G' v (hr j v c hv hc))
inductive Fini (σ : List Ob) : AV → AV → Prop
  | refl (x : AV) : Fini σ x x
  | own (id sz n : Nat) (ob : Ob) (cs : List AV) (hs : σ[id]? = some ob) (ho : rowOf ob = some (sz, cs)) (hn : n = cs.length) : Fini σ (.own id sz n) (.sl cs)
  | ptr (id sz k : Nat) (ob : Ob) (cs : List AV) (e : AV) (hs : σ[id]? = some ob) (ho : rowOf ob = some (sz, cs)) (he : cs[k]? = some e) : Fini σ (.ptr id sz k 0) (.ref e.cells)
  | emp : Fini σ .emp (.sl [])
  | nil : Fini σ (.s (.slice none 0 0)) (.sl [])
  | agg (cs cs' : List AV) (hl : cs.length = cs'.length) (h : ∀ (j : Nat) x y, cs[j]? = some x → cs'[j]? = some y → Fini σ x y) : Fini σ (.agg cs) (.agg cs')
  | tup (cs cs' : List AV) (hl : cs.length = cs'.length) (h : ∀ (j : Nat) x y, cs[j]? = some x → cs'[j]? = some y → Fini σ x y) : Fini σ (.tup cs) (.tup cs')
def FiniL (σ : List Ob) (l l' : List AV) : Prop := l.length = l'.length ∧ ∀ (j : Nat) x y, l[j]? = some x → l'[j]? = some y → Fini σ x y
theorem FiniL.nil {σ : List Ob} : FiniL σ [] [] := ⟨rfl, by simp⟩
theorem FiniL.cons {σ : List Ob} {x y : AV} {l l' : List AV} (h : Fini σ x y) (t : FiniL σ l l') : FiniL σ (x :: l) (y :: l') := by
  refine ⟨by simp [t.1], fun j a b ha hb => ?_⟩
  cases j with
  | zero => simp at ha hb; subst ha hb; exact h
  | succ j => exact t.2 j a b (by simpa using ha) (by simpa using hb)
theorem FiniL.refl {σ : List Ob} (l : List AV) : FiniL σ l l := ⟨rfl, fun j x y hx hy => by rw [hx] at hy; cases hy; exact .refl _⟩
theorem Fini.one {σ : List Ob} {x y : AV} (h : Fini σ x y) (hx : x.one = true) : y.one = true := by
  cases h <;> first | exact hx | rfl | (simp [AV.one] at hx)
def Cx.all (G : Cx) (B : Nat) : Cx := { G with St := fun b o => G.St b o ∨ (B ≤ b ∧ b < G.w.heap.size) }
theorem fin_rep {G : Cx} {σ : List Ob} {B : Nat} (hr : Rel G σ) (hB : B ≤ G.base) {x y : AV} (h : Fini σ x y) : ∀ {v : Value}, Rep G v x → Rep (G.all B) v y := by
  have up : ∀ {v : Value} {x : AV}, Rep G v x → Rep (G.all B) v x := fun {v x} h => by
    have e : Rep { G with St := (G.all B).St } v x := by
      induction h with
      | any v => exact .any v
      | s v => exact .s v
      | agg vs cs hl h1 _ ih => exact .agg vs cs hl h1 ih
      | emp A hA => exact .emp A hA
      | slnil A cap => exact .slnil A cap
      | sl b o cap sz l val hc hm h1 h2 _ ih => exact .sl b o cap sz l val hc hm h1 (fun k x j c hk hj => ⟨.inl (h2 k x j c hk hj).1, (h2 k x j c hk hj).2⟩) ih
      | ref b o cs val h1 h2 _ ih => exact .ref b o cs val h1 (fun j c hj => ⟨.inl (h2 j c hj).1, (h2 j c hj).2⟩) ih
      | own0 id sz A hA hm => exact .own0 id sz A hA hm
      | own id sz n b cap hm hn hc hb => exact .own id sz n b cap hm hn hc hb
      | ptr id sz k j b hm => exact .ptr id sz k j b hm
      | fn f vs cs hl _ ih => exact .fn f vs cs hl ih
      | tup vs l hl _ ih => exact .tup vs l hl ih
      | mp id b hm => exact .mp id b hm
      | sub id sz o n b cap A hm hA hc => exact .sub id sz o n b cap A hm hA hc
    exact e
  induction h with
  | refl x => exact up
  | emp => exact fun hv => up (rep_emp hv)
  | nil => exact fun hv => up (rep_nil hv)
  | own id sz n ob cs hs ho hn =>
    intro v hv
    have h0 := hr.obs id ob hs
    cases hv with
    | own0 _ _ A hA hm =>
      have hcs : cs = [] := List.eq_nil_of_length_eq_zero (by omega)
      subst hcs
      exact up (rep_emp (.emp A hA))
    | own _ _ _ b cap hm hn2 hc hb =>
      subst hn
      have hbl : B ≤ b ∨ (∀ (k : Nat) e (j : Nat), cs[k]? = some e → j < e.cells.length → G.St b (k * sz + j)) := by
        cases ob with
        | dead => cases ho
        | mp X => cases ho
        | row sz' cs' => simp only [ObOk, hm] at h0; exact .inl (Nat.le_trans hB h0.2.1)
        | fz sz' cs' =>
          simp only [rowOf, Option.some.injEq, Prod.mk.injEq] at ho
          obtain ⟨rfl, rfl⟩ := ho
          simp only [ObOk, hm] at h0
          exact .inr h0.2
      have hsz : b < G.w.heap.size := by
        obtain ⟨cur, e, f, h1, _⟩ := hb
        exact (Array.getElem?_eq_some_iff.1 h1).1
      have key : ∀ (k : Nat) e, cs[k]? = some e → ∃ f : Nat → Value, e.cells.length = sz ∧ (∀ c ∈ e.cells, c.one = true) ∧ ∀ (j : Nat) c, e.cells[j]? = some c → G.w.cell? ⟨b, k * sz + j, none⟩ = some (f j) ∧ Rep G (f j) c := fun k e he => row_read hr hs ho hm he
      refine .sl b 0 cap sz cs (fun k j => (G.w.cell? ⟨b, k * sz + j, none⟩).getD undef) hn2 (Nat.le_trans hn2 hc) (fun k e he => ?_) (fun k e j c he hc => ?_) (fun k e j c he hc => ?_)
      · obtain ⟨f, h1, h2, _⟩ := key k e he; exact ⟨h1, h2⟩
      · obtain ⟨f, h1, h2, h3⟩ := key k e he
        rw [Nat.zero_add]
        refine ⟨?_, ?_⟩
        · rcases hbl with h | h
          · exact .inr ⟨h, hsz⟩
          · exact .inl (h k e j he (List.getElem?_eq_some_iff.1 hc).1)
        · show G.w.cell? _ = _
          rw [(h3 j c hc).1]; rfl
      · obtain ⟨f, h1, h2, h3⟩ := key k e he
        rw [(h3 j c hc).1]
        exact up (h3 j c hc).2
  | ptr id sz k ob cs e hs ho he =>
    intro v hv
    have h0 := hr.obs id ob hs
    cases hv with
    | ptr _ _ _ _ b hm =>
      have hbl : B ≤ b ∨ (∀ (k : Nat) e (j : Nat), cs[k]? = some e → j < e.cells.length → G.St b (k * sz + j)) := by
        cases ob with
        | dead => cases ho
        | mp X => cases ho
        | row sz' cs' => simp only [ObOk, hm] at h0; exact .inl (Nat.le_trans hB h0.2.1)
        | fz sz' cs' =>
          simp only [rowOf, Option.some.injEq, Prod.mk.injEq] at ho
          obtain ⟨rfl, rfl⟩ := ho
          simp only [ObOk, hm] at h0
          exact .inr h0.2
      obtain ⟨f, h1, h2, h3⟩ := row_read hr hs ho hm he
      refine .ref b (k * sz + 0) e.cells f h2 (fun j c hc => ?_) (fun j c hc => up (h3 j c hc).2)
      refine ⟨?_, (h3 j c hc).1⟩
      rcases hbl with h | h
      · exact .inr ⟨h, World.block_lt_of_cell? _ _ (h3 j c hc).1⟩
      · exact .inl (h k e j he (List.getElem?_eq_some_iff.1 hc).1)
  | agg cs cs' hl h ih =>
    intro v hv
    cases hv with
    | agg vs _ hs h1 hr2 =>
      refine .agg vs cs' (hs.trans hl) (fun c hc => ?_) (fun j v y hv hy => ?_)
      · obtain ⟨j, hj, rfl⟩ := List.mem_iff_getElem.1 hc
        exact (h j cs[j] cs'[j] (by simp) (by simp [hj])).one (h1 _ (List.getElem_mem _))
      · have hj : j < cs.length := by rw [hl]; exact (List.getElem?_eq_some_iff.1 hy).1
        exact ih j _ y (List.getElem?_eq_getElem hj) hy (hr2 j v _ hv (List.getElem?_eq_getElem hj))
  | tup cs cs' hl h ih =>
    intro v hv
    cases hv with
    | tup vs _ hs hr2 =>
      refine .tup vs cs' (hs.trans hl) (fun j v y hv hy => ?_)
      have hj : j < cs.length := by rw [hl]; exact (List.getElem?_eq_some_iff.1 hy).1
      exact ih j _ y (List.getElem?_eq_getElem hj) hy (hr2 j v _ hv (List.getElem?_eq_getElem hj))
inductive ResA (P : Program) (F : Frm) (σ : List Ob) : ResultVar → AV → Prop
  | tmp (t : Tmp) (x : AV) (h : F.get t = x) : ResA P F σ (.tmp t) x
  | cell (a : Tmp) (t : TypeId) (id sz k j : Nat) (ob : Ob) (cs : List AV) (e c : AV) (ha : tyAgg P t = some false) (hp : F.get a = .ptr id sz k j) (hs : σ[id]? = some ob) (ho : rowOf ob = some (sz, cs)) (he : cs[k]? = some e) (hc : e.cells[j]? = some c) : ResA P F σ (.cell a t) c
  | cells (a : Tmp) (t : TypeId) (id sz k n bt : Nat) (z : Option Value) (ob : Ob) (cs : List AV) (e : AV) (ha : tyAgg P t = some true) (hi : tyInfo P t = some (z, n, bt)) (hp : F.get a = .ptr id sz k 0) (hs : σ[id]? = some ob) (ho : rowOf ob = some (sz, cs)) (he : cs[k]? = some e) (hn : e.cells.length = n) : ResA P F σ (.cell a t) (.agg e.cells)
inductive ResL (P : Program) (F : Frm) (σ : List Ob) : List ResultVar → List AV → Prop
  | nil : ResL P F σ [] []
  | cons (r : ResultVar) (x : AV) (rs : List ResultVar) (xs : List AV) (h : ResA P F σ r x) (t : ResL P F σ rs xs) : ResL P F σ (r :: rs) (x :: xs)
def oneOf : List AV → AV
  | [x] => x
  | xs => .tup xs
def APost (P : Program) (rs : List ResultVar) (r : AV) : Exit → Frm → List Ob → Prop := fun e F σ => (e = .normal ∨ e = .ret) ∧ ∃ xs, ResL P F σ rs xs ∧ Fini σ (oneOf xs) r
section
variable {P : Program}
def resVal (P : Program) (tmps : Array Value) : ResultVar → Sem Value
  | .tmp t => pure (tmps.getD t undef)
  | .cell a t => do loadVar t (← asAddr (tmps.getD a undef))
theorem resA_run {F : Frm} {σ : List Ob} {r : ResultVar} {x : AV} (h : ResA P F σ r x) {G : Cx} {a : Act} (hr : Rel G σ) (hf : FOk G a F) : ∃ v, (resVal P a.tmps r).run P G.w = .ok v G.w ∧ Rep G v x := by
  cases h with
  | tmp t _ h => exact ⟨a.tmps.getD t undef, rfl, by rw [← h]; exact hf t⟩
  | cell ad t id sz k j ob cs e c ha hp hs ho he hc =>
    have h1 := hf ad
    rw [hp] at h1
    generalize hv : a.tmps.getD ad undef = v at h1
    cases h1 with
    | ptr _ _ _ _ b hm =>
      obtain ⟨f, _, _, h2⟩ := row_read hr hs ho hm he
      obtain ⟨h3, h4⟩ := h2 _ _ hc
      refine ⟨f j, ?_, h4⟩
      simp [resVal, hv, asAddr, loadVar, run_isAgg ha, h3]
  | cells ad t id sz k n bt z ob cs e ha hi hp hs ho he hn =>
    have h1 := hf ad
    rw [hp] at h1
    generalize hv : a.tmps.getD ad undef = v at h1
    cases h1 with
    | ptr _ _ _ _ b hm =>
      obtain ⟨f, g1, g2, h2⟩ := row_read hr hs ho hm he
      have h3 := run_loadCells (P := P) G.w ⟨b, k * sz + 0, none⟩ n f (fun j hj => by rw [Addr.add_lit]; exact (h2 j _ (List.getElem?_eq_getElem (by omega))).1)
      refine ⟨.agg ((List.range n).map f).toArray, ?_, .agg _ _ (by simp [hn]) g2 (fun j v c hv hc => ?_)⟩
      · simp only [Nat.add_zero] at h3
        simp [resVal, hv, asAddr, loadVar, run_isAgg ha, run_sizeOf hi, h3]
      · have hj : j < n := by have := (List.getElem?_eq_some_iff.1 hc).1; omega
        simp [hj] at hv
        subst hv
        exact (h2 j c hc).2
theorem resL_run {F : Frm} {σ : List Ob} {G : Cx} {a : Act} (hr : Rel G σ) (hf : FOk G a F) : ∀ {rs : List ResultVar} {xs : List AV}, ResL P F σ rs xs → ∃ vs : List Value, (rs.mapM (resVal P a.tmps)).run P G.w = .ok vs G.w ∧ vs.length = xs.length ∧ ∀ (j : Nat) v x, vs[j]? = some v → xs[j]? = some x → Rep G v x := by
  intro rs xs h
  induction h with
  | nil => exact ⟨[], rfl, rfl, by simp⟩
  | cons r x rs xs h t ih =>
    obtain ⟨v, h1, h2⟩ := resA_run h hr hf
    obtain ⟨vs, h3, h4, h5⟩ := ih
    refine ⟨v :: vs, by simp [List.mapM_cons, h1, h3], by simp [h4], fun j u y hu hy => ?_⟩
    cases j with
    | zero => simp at hu hy; subst hu hy; exact h2
    | succ j => exact h5 j u y (by simpa using hu) (by simpa using hy)
theorem results_run {fn : Func} {F : Frm} {σ : List Ob} {xs : List AV} {G : Cx} {a : Act} (hr : Rel G σ) (hf : FOk G a F) (h : ResL P F σ fn.results.toList xs) : ∃ v, (results fn a.tmps).run P G.w = .ok v G.w ∧ Rep G v (oneOf xs) := by
  obtain ⟨vs, h1, h2, h3⟩ := resL_run hr hf h
  have h4 : (results fn a.tmps).run P G.w = .ok (if h : vs.toArray.size = 1 then vs.toArray[0] else .tuple vs.toArray) G.w := by
    have h0 : results fn a.tmps = (do
      let vs ← fn.results.mapM (resVal P a.tmps)
      pure (if h : vs.size = 1 then vs[0] else .tuple vs)) := rfl
    rw [h0, Array.mapM_eq_mapM_toList]
    simp [h1]
  refine ⟨_, h4, ?_⟩
  match xs, vs, h2, h3 with
  | [x], [v], _, h3 => simpa [oneOf] using h3 0 v x rfl rfl
  | [], [], _, h3 => simpa [oneOf] using Rep.tup (G := G) #[] [] rfl (by simp)
  | x :: y :: xs, u :: v :: vs, h2, h3 =>
    have : ¬ ((u :: v :: vs).toArray.size = 1) := by simp
    rw [dif_neg this]
    exact .tup _ _ (by simpa using h2) (fun j a b ha hb => h3 j a b (by simpa using ha) hb)
def argF : Nat → List AV → Frm
  | _, [] => []
  | k, x :: l => (k, x) :: argF (k + 1) l
theorem argF_get : ∀ (l : List AV) (k d : Nat), (argF k l).get d = if k ≤ d then l.getD (d - k) .any else .any
  | [], k, d => by simp [argF, Frm.get]
  | x :: l, k, d => by
    simp only [argF, Frm.get]
    cases e : Nat.beq k d with
    | true => have := Nat.eq_of_beq_eq_true e; subst this; simp
    | false =>
      have hne : k ≠ d := fun h => by subst h; simp at e
      simp only [cond_false, argF_get l (k + 1) d]
      by_cases h : k + 1 ≤ d
      · rw [if_pos h, if_pos (by omega)]
        obtain ⟨m, hm⟩ : ∃ m, d - k = m + 1 := ⟨d - k - 1, by omega⟩
        rw [hm, show d - (k + 1) = m by omega]
        simp
      · rw [if_neg h, if_neg (by omega)]
theorem aw_fn {f : FuncId} {fn : Func} {c : Code} {N : Nat} {args : List AV} {F0 : Frm} {rs : List ResultVar} {r : AV} (hf : P.funcs[f]? = some fn) (hname : (fn.name == "runtime.NumGoroutine") = false) (hb : fn.body = some c) (hN : fn.ntmps = N) (hres : fn.results.toList = rs) (hn : Nat.ble args.length N = true)
    (hl : ∀ x ∈ args, Lo 0 x) (hr : Lo 0 r) (hF0 : argF 0 args = F0) (h : AWp P N c F0 [] (APost P rs r)) : Pure P f args r := by
  subst hF0
  refine ⟨enters_of hf hname hb, hr, fun G vargs hst hsz hrep => ?_⟩
  have hn := Nat.le_of_ble_eq_true hn
  refine calls_of_wp hf hb ?_
  let G0 : Cx := { base := G.w.heap.size, w0 := G.w, w := G.w, mu := fun _ => none, St := G.St }
  have hrel : Rel G0 [] := ⟨Below.refl _ _, Nat.le_refl _, hst, by simp, by rintro i j b ⟨_, _, h⟩; simp at h, fun _ _ => rfl⟩
  have hfo : FOk G0 { tmps := vargs ++ Array.replicate (fn.ntmps - vargs.size) undef, defers := [] } (argF 0 args) := by
    intro d
    rw [argF_get]
    simp only [Nat.zero_le, if_true, Nat.sub_zero]
    by_cases hd : d < args.length
    · have h1 : (vargs ++ Array.replicate (fn.ntmps - vargs.size) undef).getD d undef = vargs[d]'(by omega) := by
        rw [Array.getD_eq_getD_getElem?, Array.getElem?_append_left (by omega)]
        simp [show d < vargs.size by omega]
      rw [h1]
      have h2 : args.getD d .any = args[d] := by simp [List.getD, hd]
      rw [h2]
      exact (hrep d _ _ (by simp [show d < vargs.size by omega]) (by simp [hd])).low (hl _ (List.getElem_mem hd)) (fun _ _ h => h) (fun _ _ _ => rfl) (fun id y h => by omega) (fun h => by omega)
    · have h2 : args.getD d .any = .any := by simp [List.getD, hd]
      rw [h2]; exact .any _
  have hs8 : S8 N G0 { tmps := vargs ++ Array.replicate (fn.ntmps - vargs.size) undef, defers := [] } (argF 0 args) [] := ⟨hrel, hfo, rfl, by simp [hN]; omega⟩
  refine Code.wp_mono (fun e a w q => ?_) (h G0 _ hs8)
  obtain ⟨G', F', σ', rfl, h2, h3, he, xs, h4, h5⟩ := q
  obtain ⟨v, h6, h7⟩ := results_run (fn := fn) h3.rel h3.fr (by rw [hres]; exact h4)
  have hbase : G'.base = G.w.heap.size := h2.base
  have hbel : Below G.w.heap.size G.w G'.w := by have := h3.rel.below; rw [hbase, h2.w0] at this; exact this
  have hfin := fin_rep (B := G.w.heap.size) h3.rel (by omega) h5 h7
  have post : ∃ v' G'', Ending.returned v = .returned v' ∧ G''.w = G'.w ∧ Below G.w.heap.size G.w G'.w ∧ (∀ b o, G.St b o → G''.St b o) ∧ (∀ b o, G''.St b o → G.St b o ∨ G.w.heap.size ≤ b) ∧ (∀ b o, G''.St b o → b < G'.w.heap.size) ∧ Rep G'' v' r := by
    refine ⟨v, G'.all G.w.heap.size, rfl, rfl, hbel, fun b o h => .inl (h2.st b o h), fun b o h => ?_, fun b o h => ?_, hfin⟩
    · rcases h with h | h
      · exact h2.stN b o h
      · exact .inr h.1
    · rcases h with h | h
      · exact h3.rel.st b o h
      · exact h.2
  rcases he with rfl | rfl
  · exact ⟨h3.df, v, h6, post⟩
  · exact ⟨h3.df, v, h6, post⟩
theorem after_call {G : Cx} {σ : List Ob} {G1 : Cx} {w' : World} (hr : Rel G σ) (hw : G1.w = w') (hbel : Below G.w.heap.size G.w w') (hs1 : ∀ b o, G.St b o → G1.St b o) (hs2 : ∀ b o, G1.St b o → G.St b o ∨ G.w.heap.size ≤ b) (hs3 : ∀ b o, G1.St b o → b < w'.heap.size) :
    G.Ext { G with w := w', St := G1.St } ∧ Rel { G with w := w', St := G1.St } σ := by
  have hble : G.base ≤ G.w.heap.size := by have h1 := hr.le; have h2 := hr.below.size; omega
  have hext : G.Ext { G with w := w', St := G1.St } := ⟨rfl, rfl, hs1, fun b o h => hbel.cell (hr.st b o h), fun _ _ h => h, hbel.size, fun b cur e f h => ⟨cur, (hbel.block b (Array.getElem?_eq_some_iff.1 h).1).trans h, rfl⟩, fun b o h => (hs2 b o h).imp (fun h => h) (fun h => by omega)⟩
  refine ⟨hext, hr.below.trans (hbel.mono hble), hr.le, hs3, fun id ob hob => ?_, hr.inj, hr.fresh⟩
  have h1 := hr.obs id ob hob
  have rowx : ∀ b sz cs f, RowAt G b sz cs f → RowAt { G with w := w', St := G1.St } b sz cs f := by
    rintro b sz cs f ⟨cur, t, fr, h2, h3, h4, h5⟩
    refine ⟨cur, t, fr, (hbel.block b (Array.getElem?_eq_some_iff.1 h2).1).trans h2, h3, h4, fun k x hx => ⟨(h5 k x hx).1, (h5 k x hx).2.1, fun j c hc => ?_⟩⟩
    obtain ⟨v, h6, h7⟩ := (h5 k x hx).2.2 j c hc
    exact ⟨v, h6, h7.ext hext⟩
  cases ob with
  | dead => exact fun b hb => Nat.lt_of_lt_of_le (h1 b hb) hbel.size
  | row sz cs =>
    simp only [ObOk] at h1 ⊢
    cases hx : G.mu id with
    | none => rw [hx] at h1; exact h1
    | some x =>
      rw [hx] at h1
      cases x with
      | none => exact h1
      | some b =>
        refine ⟨rowx _ _ _ _ h1.1, h1.2.1, fun o ho => ?_⟩
        obtain ⟨⟨cur, t, fr, h2, _⟩, _, h3⟩ := h1
        have := (Array.getElem?_eq_some_iff.1 h2).1
        rcases hs2 b o ho with h | h
        · exact h3 o h
        · omega
  | fz sz cs =>
    simp only [ObOk] at h1 ⊢
    cases hx : G.mu id with
    | none => rw [hx] at h1; exact h1
    | some x =>
      rw [hx] at h1
      cases x with
      | none => exact h1
      | some b => exact ⟨rowx _ _ _ _ h1.1, fun k e j he hj => hs1 _ _ (h1.2 k e j he hj)⟩
  | mp X =>
    obtain ⟨b, g1, g2, g3, g4, g5⟩ := h1
    exact ⟨b, g1, g2.keep (hbel.block b g2.lt), g3, fun o ho => by
      rcases hs2 b o ho with h | h
      · exact g4 o h
      · have := g2.lt
        omega, g5⟩
section
variable {o : Oper} {F : Frm} {σ : List Ob}
theorem call_enter {f : FuncId} {cap : Array Value} {fo : Operand} {ar : Array Operand} {ts : Array TypeId} (ho : o.op = .call { callee := .value fo, args := ar, argTypes := ts }) (ρ : Operand → Value) (hv : ρ fo = .func (.func f) #[] cap) (he : Enters P f) (w : World) :
    (execOp ρ o).run P w = .ok (.enter f (ar.map ρ ++ cap)) w := by
  simp [execOp, ho, resolve, Deferred.ofValue, hv, invoke, he _ w]
theorem call_args {G : Cx} {ρ : Operand → Value} {fo : Operand} {ar : Array Operand} {ts : Array TypeId} {f : FuncId} {caps : List AV} (ho : o.op = .call { callee := .value fo, args := ar, argTypes := ts }) (hop : ∀ y ∈ o.op.operands, Rep G (ρ y) (F.eval y)) (hf : F.eval fo = .fn f caps) :
    ∃ cap : Array Value, ρ fo = .func (.func f) #[] cap ∧ (ar.map ρ ++ cap).size = (ar.toList.map F.eval ++ caps).length ∧ ∀ (j : Nat) v x, (ar.map ρ ++ cap)[j]? = some v → (ar.toList.map F.eval ++ caps)[j]? = some x → Rep G v x := by
  have h1 := hop fo (by simp [ho, Op.operands, Call.operands])
  rw [hf] at h1
  generalize hv : ρ fo = u at h1
  cases h1 with
  | fn _ vs _ hl h =>
    refine ⟨vs, rfl, by simp [hl], fun j v x hj hx => ?_⟩
    by_cases hlt : j < ar.size
    · rw [Array.getElem?_append_left (by simpa using hlt)] at hj
      rw [List.getElem?_append_left (by simpa using hlt)] at hx
      simp [hlt] at hj hx
      subst hj hx
      exact hop ar[j] (by simp [ho, Op.operands, Call.operands])
    · rw [Array.getElem?_append_right (by simp; omega)] at hj
      rw [List.getElem?_append_right (by simp; omega)] at hx
      simp only [Array.size_map, List.length_map, Array.length_toList] at hj hx
      exact h _ v x hj hx
theorem zav {fo : Operand} {ar : Array Operand} {ts : Array TypeId} {f : FuncId} {caps args : List AV} {r : AV} (ho : o.op = .call { callee := .value fo, args := ar, argTypes := ts }) (hf : F.eval fo = .fn f caps) (hp : Pure P f args r) (ha : ar.toList.map F.eval ++ caps = args) : Does P o F σ r σ := by
  intro G a next Q hr hop hn
  obtain ⟨cap, h1, h2, h3⟩ := call_args ho hop hf
  rw [ha] at h2 h3
  unfold Oper.wp
  rw [call_enter ho a.eval h1 hp.ent G.w, Oper.upon_enter]
  refine (hp.call G _ hr.st h2 h3).mono ?_
  rintro e w' ⟨v, G1, rfl, hw, hbel, hs1, hs2, hs3, hrep⟩
  obtain ⟨h4, h5⟩ := after_call hr hw hbel hs1 hs2 hs3
  subst hw
  exact hn v { G with w := G1.w, St := G1.St } h4 h5 (hrep.low hp.lo (fun _ _ h => h) (fun _ _ _ => rfl) (fun id y h => by omega) (fun h => by omega))
theorem does_callb {fo : Operand} {ar : Array Operand} {ts : Array TypeId} {f : FuncId} {caps args : List AV} {r : AV} (ho : o.op = .call { callee := .value fo, args := ar, argTypes := ts }) (hf : F.eval fo = .fn f caps) (hp : Pure P f args r) (ha : FiniL σ (ar.toList.map F.eval ++ caps) args) (hfl : Flat r) : Does P o F σ r σ := by
  intro G a next Q hr hop hn
  obtain ⟨cap, h1, h2, h3⟩ := call_args ho hop hf
  have hble : G.base ≤ G.w.heap.size := by have h1 := hr.le; have h2 := hr.below.size; omega
  unfold Oper.wp
  rw [call_enter ho a.eval h1 hp.ent G.w, Oper.upon_enter]
  have hst : ∀ b o, (G.all G.base).St b o → b < (G.all G.base).w.heap.size := fun b o h => by
    rcases h with h | h
    · exact hr.st b o h
    · exact h.2
  refine (hp.call (G.all G.base) _ hst (h2.trans ha.1) (fun j v x hv hx => ?_)).mono ?_
  · have hj : j < (ar.toList.map F.eval ++ caps).length := by rw [ha.1]; exact (List.getElem?_eq_some_iff.1 hx).1
    exact fin_rep hr (Nat.le_refl _) (ha.2 j _ x (List.getElem?_eq_getElem hj) hx) (h3 j v _ hv (List.getElem?_eq_getElem hj))
  · rintro e w' ⟨v, G1, rfl, hw, hbel, hs1, hs2, hs3, hrep⟩
    have hbel' : Below G.w.heap.size G.w w' := hbel
    obtain ⟨h4, h5⟩ := after_call (G1 := { G1 with St := G.St }) hr hw hbel' (fun _ _ h => h) (fun _ _ h => .inl h) (fun b o h => by have := hr.st b o h; have := hbel'.size; omega)
    exact hn v _ h4 h5 (hfl G1 _ v hrep)
end
end
end Go.Proofs.Ytmhbfoaecebobaa.Aw
end
section
namespace Go.Proofs.Ytmhbfoaecebobaa.Aw
set_option linter.unusedSimpArgs false
set_option linter.unusedVariables false
open Go.RowKit
def maskOf (acc : List Nat) (o : Oper) : Nat := o.after.toList.foldl (fun s e => bif Region.binds .any e then (s ||| 2 ^ e.on) ||| acc.getD e.on 0 else s) 0
def masks : List Oper → List Nat → List Nat
  | [], acc => acc
  | o :: l, acc => masks l (acc ++ [maskOf acc o])
def clash (ops : Array Oper) (x y : Oper) : Bool :=
  (match x.dst with | some d => (y.looksAt ops).contains d || y.dst == some d | none => false) ||
  (match y.dst with | some d => (x.looksAt ops).contains d | none => false)
def qOk (l : List Oper) : Bool :=
  let m := masks l []
  (List.range l.length).all fun j => match l[j]? with
    | none => true
    | some oj => (oj.after.toList.all fun e => !Region.binds .any e || Nat.blt e.on j) && (List.range j).all fun i => match l[i]? with
      | none => true
      | some oi => !clash l.toArray oi oj || (m.getD j 0).testBit i
theorem maskOf_bit {acc : List Nat} {i : Nat} : ∀ (es : List Edge) (s : Nat), (es.foldl (fun s e => bif Region.binds .any e then (s ||| 2 ^ e.on) ||| acc.getD e.on 0 else s) s).testBit i = true → s.testBit i = true ∨ ∃ e ∈ es, Region.binds .any e = true ∧ (e.on = i ∨ (acc.getD e.on 0).testBit i = true)
  | [], s, h => .inl h
  | e :: es, s, h => by
    rw [List.foldl_cons] at h
    rcases maskOf_bit es _ h with h1 | ⟨e', h1, h2⟩
    · cases hb : Region.binds .any e with
      | false => rw [hb] at h1; exact .inl h1
      | true =>
        rw [hb] at h1
        simp only [cond_true, Nat.testBit_or, Bool.or_eq_true] at h1
        rcases h1 with (h1 | h1) | h1
        · exact .inl h1
        · refine .inr ⟨e, by simp, hb, .inl ?_⟩
          rw [Nat.testBit_two_pow] at h1
          simpa using h1
        · exact .inr ⟨e, by simp, hb, .inr h1⟩
    · exact .inr ⟨e', by simp [h1], h2⟩
def Closed (l : List Oper) (D : Nat → Prop) : Prop := ∀ (j : Nat) o, l[j]? = some o → D j → ∀ e ∈ o.after.toList, Region.binds .any e = true → D e.on
theorem masks_sound {all : List Oper} {D : Nat → Prop} (hD : Closed all D) : ∀ (l : List Oper) (acc : List Nat), (∀ j o, l[j]? = some o → all[acc.length + j]? = some o) → (∀ (j i : Nat), j < acc.length → (acc.getD j 0).testBit i = true → D j → D i) →
    ∀ (j i : Nat), ((masks l acc).getD j 0).testBit i = true → D j → D i
  | [], acc, _, h, j, i, hb, hj => by
    by_cases hlt : j < acc.length
    · exact h j i hlt hb hj
    · simp [masks, List.getD, hlt] at hb
  | o :: l, acc, hall, h, j, i, hb, hj => by
    refine masks_sound hD l (acc ++ [maskOf acc o]) (fun j o' ho' => ?_) (fun j i hlt hb hj => ?_) j i hb hj
    · have := hall (j + 1) o' (by simpa using ho')
      rw [← this]
      congr 1
      simp; omega
    · simp only [List.length_append, List.length_singleton] at hlt
      by_cases hlt2 : j < acc.length
      · rw [List.getD_eq_getElem?_getD, List.getElem?_append_left hlt2, ← List.getD_eq_getElem?_getD] at hb
        exact h j i hlt2 hb hj
      · have hje : j = acc.length := by omega
        subst hje
        rw [List.getD_eq_getElem?_getD, List.getElem?_append_right (Nat.le_refl _)] at hb
        simp at hb
        rcases maskOf_bit _ _ hb with h1 | ⟨e, h1, h2, h3⟩
        · simp at h1
        · have hoe := hD acc.length o (by simpa using hall 0 o rfl) hj e h1 h2
          rcases h3 with rfl | h3
          · exact hoe
          · by_cases hlt3 : e.on < acc.length
            · exact h e.on i hlt3 h3 hoe
            · simp [List.getD, hlt3] at h3
def fr (sel : Nat → Bool) : Nat → List (Nat × AV) → Frm → Frm
  | _, [], F => F
  | k, p :: out, F => fr sel (k + 1) out (bif sel k then p :: F else F)
theorem fr_congr {sel sel' : Nat → Bool} {t : Nat} : ∀ (out : List (Nat × AV)) (k : Nat) (F F' : Frm), F.get t = F'.get t → (∀ (j : Nat) p, out[j]? = some p → p.1 = t → sel (k + j) = sel' (k + j)) → (fr sel k out F).get t = (fr sel' k out F').get t
  | [], k, F, F', h, _ => h
  | p :: out, k, F, F', h, hs => by
    refine fr_congr out (k + 1) _ _ ?_ (fun j q hq he => by have := hs (j + 1) q (by simpa using hq) he; rwa [show k + (j + 1) = k + 1 + j by omega] at this)
    by_cases hp : p.1 = t
    · have h1 := hs 0 p rfl hp
      simp only [Nat.add_zero] at h1
      rw [h1]
      obtain ⟨d, x⟩ := p
      cases sel' k with
      | true => simp only [cond_true, Frm.get, h]
      | false => exact h
    · have hb : ∀ (F : Frm), Frm.get (p :: F) t = F.get t := fun F => by
        obtain ⟨d, x⟩ := p
        simp only [Frm.get]
        cases e : Nat.beq d t with
        | true => exact absurd (Nat.eq_of_beq_eq_true e) hp
        | false => rfl
      cases sel k <;> cases sel' k <;> simp [hb, h]
theorem fr_last {sel : Nat → Bool} {t : Nat} {x : AV} : ∀ (out : List (Nat × AV)) (k : Nat) (F : Frm) (i : Nat), out[i]? = some (t, x) → sel (k + i) = true → (∀ (j : Nat) p, out[j]? = some p → i < j → sel (k + j) = true → p.1 ≠ t) → (fr sel k out F).get t = x
  | [], _, _, i, h, _, _ => by simp at h
  | p :: out, k, F, 0, h, hs, hn => by
    simp at h
    subst h
    have h1 : (fr sel (k + 1) out ((t, x) :: F)).get t = (fr (fun _ => false) (k + 1) out ((t, x) :: F)).get t := fr_congr out (k + 1) _ _ rfl (fun j q hq he => by
      cases hc : sel (k + 1 + j) with
      | false => rfl
      | true => exact absurd he (hn (j + 1) q (by simpa using hq) (by omega) (by rw [show k + (j + 1) = k + 1 + j by omega]; exact hc)))
    have h2 : ∀ (out : List (Nat × AV)) (k : Nat) (F : Frm), fr (fun _ => false) k out F = F := by
      intro out
      induction out with
      | nil => intro k F; rfl
      | cons p out ih => intro k F; simp [fr, ih]
    simp only [Nat.add_zero] at hs
    simp only [fr, hs, cond_true]
    rw [h1, h2]
    simp [Frm.get]
  | p :: out, k, F, i + 1, h, hs, hn => by
    simp only [fr]
    exact fr_last out (k + 1) _ i (by simpa using h) (by rwa [show k + 1 + i = k + (i + 1) by omega]) (fun j q hq hij hc => hn (j + 1) q (by simpa using hq) (by omega) (by rwa [show k + (j + 1) = k + 1 + j by omega]))
theorem fr_pre : ∀ (out : List (Nat × AV)) (k i : Nat) (F : Frm), fr (fun j => decide (j < k + i)) k out F = (out.take i).reverse ++ F
  | [], k, i, F => by simp [fr]
  | p :: out, k, 0, F => by
    have h := fr_pre out (k + 1) 0 F
    have h2 : ∀ (out : List (Nat × AV)) (k' : Nat) (F : Frm), k ≤ k' → fr (fun j => decide (j < k + 0)) k' out F = F := by
      intro out
      induction out with
      | nil => intro k' F _; rfl
      | cons p out ih =>
        intro k' F hk
        have : decide (k' < k + 0) = false := by simp; omega
        simp only [fr, this, cond_false]
        exact ih _ _ (by omega)
    simpa using h2 (p :: out) k F (Nat.le_refl _)
  | p :: out, k, i + 1, F => by
    have h := fr_pre out (k + 1) i (p :: F)
    have : decide (k < k + (i + 1)) = true := by simp
    simp only [fr, this, cond_true]
    rw [show (fun j => decide (j < k + (i + 1))) = (fun j => decide (j < k + 1 + i)) by funext j; congr 1; simp; omega, h]
    simp
inductive QSteps (P : Program) (N : Nat) (ops : Array Oper) (σ : List Ob) : List Oper → Frm → Frm → List (Nat × AV) → Prop
  | nil (F : Frm) : QSteps P N ops σ [] F F []
  | run (o : Oper) (l : List Oper) (F F' : Frm) (x : AV) (out : List (Nat × AV)) (d : Nat) (hd : o.dst = some d) (hN : Nat.blt d N = true) (hr : Runs ops F o true) (hD : Does P o F σ x σ) (h : QSteps P N ops σ l ((d, x) :: F) F' out) : QSteps P N ops σ (o :: l) F F' ((d, x) :: out)
  | skip (o : Oper) (l : List Oper) (F F' : Frm) (out : List (Nat × AV)) (d : Nat) (hd : o.dst = some d) (hN : Nat.blt d N = true) (hr : Runs ops F o false) (h : QSteps P N ops σ l ((d, .s undef) :: F) F' out) : QSteps P N ops σ (o :: l) F F' ((d, .s undef) :: out)
theorem qsteps_at {P : Program} {N : Nat} {ops : Array Oper} {σ : List Ob} : ∀ {l : List Oper} {F F' : Frm} {out : List (Nat × AV)}, QSteps P N ops σ l F F' out → l.length = out.length ∧ F' = out.reverse ++ F ∧
    ∀ (i : Nat) o, l[i]? = some o → ∃ d x, out[i]? = some (d, x) ∧ o.dst = some d ∧ d < N ∧ ((Runs ops ((out.take i).reverse ++ F) o true ∧ Does P o ((out.take i).reverse ++ F) σ x σ) ∨ (Runs ops ((out.take i).reverse ++ F) o false ∧ x = .s undef)) := by
  intro l F F' out h
  induction h with
  | nil F => exact ⟨rfl, rfl, by simp⟩
  | run o l F F' x out d hd hN hr hD h ih =>
    obtain ⟨h1, h2, h3⟩ := ih
    refine ⟨by simp [h1], by simp [h2], fun i o' hi => ?_⟩
    cases i with
    | zero => simp at hi; subst hi; exact ⟨d, x, rfl, hd, by simpa [Nat.blt_eq] using hN, .inl ⟨by simpa using hr, by simpa using hD⟩⟩
    | succ i =>
      obtain ⟨d', x', g1, g2, g3, g4⟩ := h3 i o' (by simpa using hi)
      exact ⟨d', x', by simpa using g1, g2, g3, by simpa using g4⟩
  | skip o l F F' out d hd hN hr h ih =>
    obtain ⟨h1, h2, h3⟩ := ih
    refine ⟨by simp [h1], by simp [h2], fun i o' hi => ?_⟩
    cases i with
    | zero => simp at hi; subst hi; exact ⟨d, .s undef, rfl, hd, by simpa [Nat.blt_eq] using hN, .inr ⟨by simpa using hr, rfl⟩⟩
    | succ i =>
      obtain ⟨d', x', g1, g2, g3, g4⟩ := h3 i o' (by simpa using hi)
      exact ⟨d', x', by simpa using g1, g2, g3, by simpa using g4⟩
def left : List Bool → Nat
  | [] => 0
  | b :: l => (bif b then 0 else 1) + left l
theorem left_set : ∀ (l : List Bool) (i : Nat), l[i]? = some false → left (l.set i true) + 1 = left l
  | [], i, h => by simp at h
  | b :: l, 0, h => by simp at h; subst h; simp [left]; omega
  | b :: l, i + 1, h => by have := left_set l i (by simpa using h); simp [left]; omega
theorem left_pos {l : List Bool} : ∀ (i : Nat), l[i]? = some false → 0 < left l
  | i, h => by have := left_set l i h; omega
theorem eval_congr {F F' : Frm} {ops : Array Oper} {o : Oper} (h : ∀ t ∈ o.looksAt ops, F.get t = F'.get t) : ∀ y ∈ o.op.operands, F.eval y = F'.eval y := by
  intro y hy
  cases y with
  | tmp t => exact h t (List.mem_append_left _ (List.mem_filterMap.2 ⟨.tmp t, by simpa using hy, rfl⟩))
  | _ => rfl
theorem Does.congr {P : Program} {F F' : Frm} {ops : Array Oper} {o : Oper} {σ σ' : List Ob} {x : AV} (h : Does P o F σ x σ') (he : ∀ t ∈ o.looksAt ops, F.get t = F'.get t) : Does P o F' σ x σ' := fun G a next Q hr hop hn =>
  h G a next Q hr (fun y hy => by rw [eval_congr he y hy]; exact hop y hy) hn
theorem Runs.congr {F F' : Frm} {ops : Array Oper} {o : Oper} {b : Bool} (h : Runs ops F o b) (he : ∀ t ∈ o.looksAt ops, F.get t = F'.get t) : Runs ops F' o b := by
  unfold Runs at h ⊢
  cases hg : o.guard with
  | none => rw [hg] at h; exact h
  | some jb =>
    obtain ⟨j, want⟩ := jb
    rw [hg] at h
    obtain ⟨t, h1, h2⟩ := h
    exact ⟨t, h1, by rw [← he t (List.mem_append_right _ (by simp [hg, h1]))]; exact h2⟩
def ADraw (P : Program) (N : Nat) (l : List Oper) (F : Frm) (σ : List Ob) (Q : Exit → Frm → List Ob → Prop) : Prop :=
  ∀ G a, S8 N G a F σ → wpAny P .any l.toArray (lift N G Q) l.length (Array.replicate l.length false) a G.w
theorem clash_of {ops : Array Oper} {x y : Oper} {d : Nat} : (x.dst = some d → d ∈ y.looksAt ops → clash ops x y = true) ∧ (x.dst = some d → y.dst = some d → clash ops x y = true) ∧ (y.dst = some d → d ∈ x.looksAt ops → clash ops x y = true) := by
  refine ⟨fun h1 h2 => ?_, fun h1 h2 => ?_, fun h1 h2 => ?_⟩
  · simp [clash, h1, h2]
  · simp [clash, h1, h2]
  · simp [clash, h1, h2]
section
variable {P : Program} {N : Nat} {l : List Oper} {F F' : Frm} {σ : List Ob} {out : List (Nat × AV)} {Q : Exit → Frm → List Ob → Prop}
theorem quiet_any (hq : qOk l = true) (hs : QSteps P N l.toArray σ l F F' out) (hQ : Q .normal F' σ) (G0 : Cx) :
    ∀ (fuel : Nat) (L : Array Bool) (G : Cx) (a : Act), G0.Step G → L.size = l.length → left L.toList = fuel → Closed l (fun j => L.getD j false = true) → S8 N G a (fr (fun j => L.getD j false) 0 out F) σ → wpAny P .any l.toArray (lift N G0 Q) fuel L a G.w := by
  obtain ⟨hlen, hF', hat⟩ := qsteps_at hs
  unfold qOk at hq
  have hq' : ∀ j oj, l[j]? = some oj → (∀ e ∈ oj.after.toList, Region.binds .any e = true → e.on < j) ∧ ∀ i oi, i < j → l[i]? = some oi → clash l.toArray oi oj = true → ((masks l []).getD j 0).testBit i = true := by
    intro j oj hj
    have h1 := List.all_eq_true.1 hq j (by simpa using (List.getElem?_eq_some_iff.1 hj).1)
    rw [hj] at h1
    simp only [Bool.and_eq_true, List.all_eq_true] at h1
    refine ⟨fun e he hb => ?_, fun i oi hij hi hc => ?_⟩
    · have := h1.1 e he
      rw [hb] at this
      simpa [Nat.blt_eq] using this
    · have := h1.2 i (by simpa using hij)
      rw [hi] at this
      simpa [hc] using this
  have hsound : ∀ (D : Nat → Prop), Closed l D → ∀ j i, ((masks l []).getD j 0).testBit i = true → D j → D i := fun D hD => masks_sound hD l [] (fun j o h => by simpa using h) (fun j i h => by simp at h)
  have hnone : ∀ (L : Array Bool), L.size = l.length → Region.ready .any l.toArray L = [] → ∀ j, j < l.length → L.getD j false = true := by
    intro L hL hr j
    induction j using Nat.strongRecOn with
    | _ j ih =>
      intro hj
      cases hc : L.getD j false with
      | true => rfl
      | false =>
        exfalso
        obtain ⟨o, ho⟩ : ∃ o, l[j]? = some o := ⟨_, List.getElem?_eq_getElem hj⟩
        have hm : j ∈ Region.ready .any l.toArray L := by
          refine mem_ready.2 ⟨?_, o, by simpa using ho, fun e he hb => ?_⟩
          · have hlt : j < L.size := by omega
            simp [Array.getD_eq_getD_getElem?, hlt] at hc ⊢
            exact hc
          · have hon := (hq' j o ho).1 e (by simpa using he) hb
            exact ih e.on hon (by omega)
        rw [hr] at hm
        cases hm
  -- when all have come up
  have hend : ∀ (L : Array Bool) (G : Cx) (a : Act), G0.Step G → L.size = l.length → Region.ready .any l.toArray L = [] → S8 N G a (fr (fun j => L.getD j false) 0 out F) σ → lift N G0 Q .normal a G.w := by
    intro L G a hst hL hr h8
    refine ⟨G, F', σ, rfl, hst, ⟨h8.rel, fun t => ?_, h8.df, h8.nt⟩, hQ⟩
    have h1 := h8.fr t
    have h2 : (fr (fun j => L.getD j false) 0 out F).get t = (fr (fun j => decide (j < 0 + out.length)) 0 out F).get t := fr_congr out 0 F F rfl (fun j p hp _ => by
      have hj : j < out.length := (List.getElem?_eq_some_iff.1 hp).1
      simp only [Nat.zero_add]
      rw [hnone L hL hr j (by omega)]
      simp [hj])
    rw [h2, fr_pre, List.take_length, ← hF'] at h1
    exact h1
  intro fuel
  induction fuel with
  | zero =>
    intro L G a hst hL hlf hcl h8
    have hr : Region.ready .any l.toArray L = [] := by
      rw [List.eq_nil_iff_forall_not_mem]
      intro i hi
      obtain ⟨h1, o, ho, _⟩ := mem_ready.1 hi
      have hlt : i < L.size := by rw [hL]; simpa using (Array.getElem?_eq_some_iff.1 ho).1
      have : 0 < left L.toList := left_pos i (by simp [Array.getD_eq_getD_getElem?, hlt] at h1 ⊢; exact h1)
      omega
    exact ⟨hr, hend L G a hst hL hr h8⟩
  | succ fuel ih =>
    intro L G a hst hL hlf hcl h8
    refine ⟨fun hr => hend L G a hst hL hr h8, fun i hi => ?_⟩
    obtain ⟨h1, o, ho, hall⟩ := mem_ready.1 hi
    have hli : l[i]? = some o := by simpa using ho
    have hlt : i < L.size := by rw [hL]; exact (List.getElem?_eq_some_iff.1 hli).1
    have hfalse : L.getD i false = false := by simp [Array.getD_eq_getD_getElem?, hlt] at h1 ⊢; exact h1
    obtain ⟨d, x, g1, g2, g3, g4⟩ := hat i o hli
    -- the others that touch its slots: those before it have come up, those behind it have not
    have hcl' : Closed l (fun j => j = i ∨ L.getD j false = true) := by
      intro j oj hj hD e he hb
      rcases hD with rfl | hD
      · rw [hli] at hj; cases hj
        exact .inr (hall e (by simpa using he) hb)
      · exact .inr (hcl j oj hj hD e he hb)
    have hord : ∀ j oj, l[j]? = some oj → j ≠ i → (j < i → clash l.toArray oj o = true → L.getD j false = true) ∧ (i < j → clash l.toArray o oj = true → L.getD j false = false) := by
      intro j oj hj hne
      refine ⟨fun hji hc => ?_, fun hij hc => ?_⟩
      · rcases hsound _ hcl' i j ((hq' i o hli).2 j oj hji hj hc) (.inl rfl) with h | h
        · exact absurd h hne
        · exact h
      · cases hx : L.getD j false with
        | false => rfl
        | true =>
          have := hsound _ hcl j i ((hq' j oj hj).2 i o hij hli hc) hx
          rw [hfalse] at this
          cases this
    have hsel : ∀ t, t ∈ o.looksAt l.toArray → Frm.get ((out.take i).reverse ++ F) t = (fr (fun j => L.getD j false) 0 out F).get t := by
      intro t ht
      rw [← fr_pre out 0 i F]
      refine (fr_congr out 0 F F rfl (fun j p hp hpt => ?_)).symm
      simp only [Nat.zero_add]
      have hj : j < l.length := by rw [hlen]; exact (List.getElem?_eq_some_iff.1 hp).1
      obtain ⟨d', x', k1, k2, _, _⟩ := hat j _ (List.getElem?_eq_getElem hj)
      rw [k1] at hp
      cases hp
      dsimp only at hpt
      subst hpt
      by_cases hji : j = i
      · subst hji; rw [hfalse]; simp
      · rcases Nat.lt_or_gt_of_ne hji with h | h
        · rw [(hord j _ (List.getElem?_eq_getElem hj) hji).1 h (clash_of.1 k2 ht)]; simp [h]
        · rw [(hord j _ (List.getElem?_eq_getElem hj) hji).2 h (clash_of.2.2 k2 ht)]; simp; omega
    -- what is known behind it
    have hnext : ∀ (G' : Cx) (v : Value), G.Ext G' → Rel G' σ → Rep G' v x → wpAny P .any l.toArray (lift N G0 Q) fuel (L.setIfInBounds i true) (a.put (some d) v) G'.w := by
      intro G' v he hr' hv
      refine ih _ G' _ (hst.trans he.step) (by simpa using hL) ?_ ?_ ⟨hr', fun t => ?_, h8.df, by simp [Act.put, h8.nt]⟩
      · have := left_set L.toList i (by simp [Array.getD_eq_getD_getElem?, hlt] at hfalse ⊢; exact hfalse)
        rw [Array.toList_setIfInBounds]; omega
      · intro j oj hj hD e he2 hb
        have key : ∀ k, (L.setIfInBounds i true).getD k false = true ↔ (k = i ∨ L.getD k false = true) := fun k => by
          by_cases hk : i = k
          · subst hk; simp [Array.getD_eq_getD_getElem?, hlt]
          · simp [Array.getD_eq_getD_getElem?, Array.getElem?_setIfInBounds, hk, Ne.symm hk]
        rw [key] at hD ⊢
        exact hcl' j oj hj hD e he2 hb
      · have hselL : ∀ k, k ≠ i → (L.setIfInBounds i true).getD k false = L.getD k false := fun k hk => by
          simp [Array.getD_eq_getD_getElem?, Array.getElem?_setIfInBounds, Ne.symm hk]
        by_cases htd : t = d
        · subst htd
          have h2 : (fr (fun j => (L.setIfInBounds i true).getD j false) 0 out F).get t = x := fr_last out 0 F i g1 (by simp [Array.getD_eq_getD_getElem?, hlt]) (fun j p hp hij hc hpt => by
            simp only [Nat.zero_add] at hc
            rw [hselL j (by omega)] at hc
            have hj : j < l.length := by rw [hlen]; exact (List.getElem?_eq_some_iff.1 hp).1
            obtain ⟨d', x', k1, k2, _, _⟩ := hat j _ (List.getElem?_eq_getElem hj)
            rw [k1] at hp
            cases hp
            dsimp only at hpt
            subst hpt
            have := (hord j _ (List.getElem?_eq_getElem hj) (by omega)).2 hij (clash_of.2.1 g2 k2)
            rw [this] at hc
            cases hc)
          rw [h2]
          have : t < a.tmps.size := by rw [h8.nt]; exact g3
          simpa [Act.put, Array.getD_eq_getD_getElem?, this] using hv
        · have h2 : (fr (fun j => (L.setIfInBounds i true).getD j false) 0 out F).get t = (fr (fun j => L.getD j false) 0 out F).get t := fr_congr out 0 F F rfl (fun j p hp hpt => by
            simp only [Nat.zero_add]
            refine hselL j (fun e => ?_)
            subst e
            rw [g1] at hp
            cases hp
            exact htd hpt.symm)
          rw [h2]
          have := (h8.fr t).ext he
          simpa [Act.put, Array.getD_eq_getD_getElem?, Array.getElem?_setIfInBounds, Ne.symm htd] using this
    unfold wpOp
    simp only [ho]
    rcases g4 with ⟨k1, k2⟩ | ⟨k1, rfl⟩
    · rw [if_pos ((k1.congr hsel).wanted h8.fr)]
      left
      refine (k2.congr hsel) G a _ _ h8.rel (fun y _ => rep_eval h8.fr y) (fun v G' he hr' hv => ?_)
      rw [g2]
      exact hnext G' v he hr' hv
    · rw [if_neg (by rw [(k1.congr hsel).wanted h8.fr]; simp)]
      rw [g2]
      exact hnext G undef (.refl G) h8.rel (.s _)
def QX (P : Program) (N : Nat) (ops : Array Oper) (σ : List Ob) (l : List Oper) (F : Frm) (K : Frm → Prop) : Prop := ∃ F' out, QSteps P N ops σ l F F' out ∧ K F'
theorem qx_nil {ops : Array Oper} {K : Frm → Prop} (h : K F) : QX P N ops σ [] F K := ⟨F, [], .nil F, h⟩
theorem zba {ops : Array Oper} {K : Frm → Prop} {o : Oper} {d : Nat} {x : AV} (hd : o.dst = some d) (hN : Nat.blt d N = true) (hr : Runs ops F o true) (hD : Does P o F σ x σ) (h : QX P N ops σ l ((d, x) :: F) K) : QX P N ops σ (o :: l) F K := by
  obtain ⟨F', out, h1, h2⟩ := h
  exact ⟨F', _, .run o l F F' x out d hd hN hr hD h1, h2⟩
theorem qx_skip {ops : Array Oper} {K : Frm → Prop} {o : Oper} {d : Nat} (hd : o.dst = some d) (hN : Nat.blt d N = true) (hr : Runs ops F o false) (h : QX P N ops σ l ((d, .s undef) :: F) K) : QX P N ops σ (o :: l) F K := by
  obtain ⟨F', out, h1, h2⟩ := h
  exact ⟨F', _, .skip o l F F' out d hd hN hr h1, h2⟩
theorem left_rep : ∀ n, left (List.replicate n false) = n
  | 0 => rfl
  | n + 1 => by simp [List.replicate_succ, left, left_rep n]; omega
theorem adraw_quiet (hq : qOk l = true) (h : QX P N l.toArray σ l F (fun F' => Q .normal F' σ)) : ADraw P N l F σ Q := fun G a hs => by
  obtain ⟨F', out, h1, h2⟩ := h
  have h3 : ∀ (out : List (Nat × AV)) (k : Nat) (F : Frm), fr (fun j => (Array.replicate l.length false).getD j false) k out F = F := by
    intro out
    induction out with
    | nil => intro k F; rfl
    | cons p out ih =>
      intro k F
      have : (Array.replicate l.length false).getD k false = false := by
        simp only [Array.getD_eq_getD_getElem?, Array.getElem?_replicate]
        split <;> rfl
      simp only [fr, this, cond_false]
      exact ih _ _
  refine quiet_any hq h1 h2 G l.length _ G a (.refl G) (by simp) (by simp [left_rep]) ?_ ?_
  · intro j o hj hD
    have : (Array.replicate l.length false).getD j false = false := by
      simp only [Array.getD_eq_getD_getElem?, Array.getElem?_replicate]
      split <;> rfl
    rw [this] at hD
    cases hD
  · rw [h3]; exact hs
theorem wpAny_mono {md : Region.Mode} {ops : Array Oper} {Q Q' : Exit → Act → World → Prop} (hQ : ∀ e a w, Q e a w → Q' e a w) : ∀ (fuel : Nat) (L : Array Bool) (a : Act) (w : World), wpAny P md ops Q fuel L a w → wpAny P md ops Q' fuel L a w
  | 0, L, a, w, h => ⟨h.1, hQ _ _ _ h.2⟩
  | fuel + 1, L, a, w, h => by
    refine ⟨fun hr => hQ _ _ _ (h.1 hr), fun i hi => ?_⟩
    have h1 := h.2 i hi
    unfold wpOp at h1 ⊢
    split
    · rename_i hn
      rw [hn] at h1
      exact wpAny_mono hQ fuel _ a w h1
    · rename_i o hn
      rw [hn] at h1
      dsimp only at h1
      split
      · rename_i hw
        rw [if_pos hw] at h1
        rcases h1 with h1 | ⟨h1, a0, w0, h2⟩
        · exact .inl (upon_mono (fun a w x => wpAny_mono hQ fuel _ a w x) hQ h1)
        · exact .inr ⟨h1, a0, w0, hQ _ _ _ h2⟩
      · rename_i hw
        rw [if_neg hw] at h1
        exact wpAny_mono hQ fuel _ _ w h1
theorem aw_draw {id : Nat} (hm : P.follows .mixedOrders = true) (h : ADraw P N l F σ Q) : AWp P N (.region id l.toArray true) F σ Q := fun G a hs => by
  refine wp_region_any hm ?_
  have he := drew_ext G
  have h1 := h _ a (hs.step he (drew_rel hs.rel))
  exact wpAny_mono (fun e a w q => lift_mono he.step (fun _ _ _ x => x) q) _ _ _ _ (by simpa using h1)
end
end Go.Proofs.Ytmhbfoaecebobaa.Aw
end
section
namespace Go.Proofs.Ytmhbfoaecebobaa.Aw
set_option linter.unusedSimpArgs false
set_option linter.unusedVariables false
open Go.RowKit
section
variable {P : Program} {N : Nat} {F : Frm} {σ σ' : List Ob} {Q : Exit → Frm → List Ob → Prop} {next : Frm → List Ob → Prop}
theorem zak (h : next F σ) : AThen next Q .normal F σ := h
theorem ath_x {id : Nat} (h : Q (.exit id) F σ) : AThen next Q (.exit id) F σ := h
theorem ath_r (h : Q .ret F σ) : AThen next Q .ret F σ := h
theorem zal {id : Nat} (h : Q .normal F σ) : ABlk id Q .normal F σ := h
theorem abl_r {id : Nat} (h : Q .ret F σ) : ABlk id Q .ret F σ := h
theorem abl_hit {id : Nat} (h : Q .normal F σ) : ABlk id Q (.exit id) F σ := by simp only [ABlk, if_true]; exact h
theorem abl_miss {id id' : Nat} (hne : Nat.beq id' id = false) (h : Q (.exit id') F σ) : ABlk id Q (.exit id') F σ := by
  have : id' ≠ id := fun e => by subst e; simp at hne
  simp only [ABlk, if_neg this]; exact h
theorem zau {ops : Array Oper} {o : Oper} {j t : Nat} {c : Bool} (h : o.guard = some (j, c)) (hd : (ops[j]?).bind (·.dst) = some t) (hc : F.get t = .s (.bool c)) : Runs ops F o true := by
  have := runs_some (F := F) h hd hc
  simpa using this
theorem runs_nt {ops : Array Oper} {o : Oper} {j t : Nat} (h : o.guard = some (j, true)) (hd : (ops[j]?).bind (·.dst) = some t) (hc : F.get t = .s (.bool false)) : Runs ops F o false := by
  have := runs_some (F := F) h hd hc
  simpa using this
theorem za4 {ops : Array Oper} {o : Oper} {j t : Nat} (h : o.guard = some (j, false)) (hd : (ops[j]?).bind (·.dst) = some t) (hc : F.get t = .s (.bool true)) : Runs ops F o false := by
  have := runs_some (F := F) h hd hc
  simpa using this
theorem aw_loops {c : Code} {S : Type} (fr : S → Frm) (st : S → List Ob) (inv : S → Prop) (ms : S → Nat) (s0 : S) (hw : Weak N F σ (fr s0) (st s0)) (h0 : inv s0)
    (round : ∀ s, inv s → AWp P N c (fr s) (st s) (AThen (fun F' σ' => ∃ s', inv s' ∧ ms s' < ms s ∧ Weak N F' σ' (fr s') (st s')) Q)) : AWp P N (.loop c) F σ Q := by
  refine aw_weak hw (aw_loop (fun m F σ => ∃ s, inv s ∧ ms s = m ∧ Weak N F σ (fr s) (st s)) (ms s0) ⟨s0, h0, rfl, Weak.refl⟩ (fun m F σ h => ?_))
  obtain ⟨s, h1, rfl, h3⟩ := h
  refine aw_weak h3 (aw_mono (round s h1) (fun e F σ q => ?_))
  cases e with
  | normal => obtain ⟨s', g1, g2, g3⟩ := q; exact ⟨ms s', g2, s', g1, rfl, g3⟩
  | _ => exact q
theorem aw_cut {c : Code} (mid : Frm → List Ob → Prop) (h : AWp P N c F σ (AThen (fun F' σ' => ∃ F'' σ'', mid F'' σ'' ∧ Weak N F' σ' F'' σ'') Q)) (k : ∀ F' σ', mid F' σ' → Q .normal F' σ') : AWp P N c F σ Q := fun G a hs =>
  Code.wp_mono (fun e a w q => by
    obtain ⟨G', F', σ', rfl, g2, g3, g4⟩ := q
    cases e with
    | normal =>
      obtain ⟨F'', σ'', hm, hw⟩ := g4
      obtain ⟨G2, e2, s2, h8⟩ := hw G' a g3
      exact ⟨G2, F'', σ'', e2, g2.trans s2, h8, k F'' σ'' hm⟩
    | _ => exact ⟨G', F', σ', rfl, g2, g3, g4⟩) (h G a hs)
theorem rep_len {G : Cx} {v : Value} {l : List AV} (h : Rep G v (.sl l)) : l.length ≤ maxLen := by
  cases h with
  | slnil => exact Nat.zero_le _
  | sl b o cap sz _ val hc hm h1 h2 h => exact hm
theorem aw_bd {c : Code} {d : Nat} {L : List AV} (hd : F.get d = .sl L) (k : L.length ≤ maxLen → AWp P N c F σ Q) : AWp P N c F σ Q := fun G a hs => k (rep_len (by rw [← hd]; exact hs.fr d)) G a hs
theorem aw_bdm {α : Type} {f : α → AV} {l : List α} {c : Code} {d : Nat} (hd : F.get d = .sl (l.map f)) (k : l.length ≤ maxLen → AWp P N c F σ Q) : AWp P N c F σ Q := aw_bd hd (fun h => k (by simpa using h))
theorem aw_cuts {c : Code} {S : Type} (fr : S → Frm) (st : S → List Ob) (inv : S → Prop) (h : AWp P N c F σ (AThen (fun F' σ' => ∃ s, inv s ∧ Weak N F' σ' (fr s) (st s)) Q)) (k : ∀ s, inv s → Q .normal (fr s) (st s)) : AWp P N c F σ Q :=
  aw_cut (fun F σ => ∃ s, inv s ∧ F = fr s ∧ σ = st s) (aw_mono h (fun e F σ q => by
    cases e with
    | normal => obtain ⟨s, h1, h2⟩ := q; exact ⟨fr s, st s, ⟨s, h1, rfl, rfl⟩, h2⟩
    | _ => exact q)) (fun F' σ' h => by obtain ⟨s, h1, rfl, rfl⟩ := h; exact k s h1)
def Sub (F : Frm) : Frm → Prop
  | [] => True
  | (d, y) :: F' => F.get d = y ∧ Sub F F'
theorem wk_sub : ∀ F', Sub F F' → Weak N F σ F' σ := fun F' h G a hs => ⟨G, rfl, .refl G, hs.rel, by
  have key : ∀ F', Sub F F' → FOk G a F' := by
    intro F'
    induction F' with
    | nil => intro _ d; exact .any _
    | cons p F' ih =>
      obtain ⟨d, y⟩ := p
      intro h t
      simp only [Frm.get]
      cases e : Nat.beq d t with
      | true => have := Nat.eq_of_beq_eq_true e; subst this; rw [← h.1]; exact hs.fr d
      | false => exact ih h.2 t
  exact key F' h, hs.df, hs.nt⟩
theorem dec_t {o : Oper} {p : Prop} [Decidable p] (h : p) (hd : Does P o F σ (.s (.bool (decide p))) σ') : Does P o F σ (.s (.bool true)) σ' := by rwa [decide_eq_true h] at hd
theorem dec_f {o : Oper} {p : Prop} [Decidable p] (h : ¬ p) (hd : Does P o F σ (.s (.bool (decide p))) σ') : Does P o F σ (.s (.bool false)) σ' := by rwa [decide_eq_false h] at hd
section
variable {o : Oper}
theorem does_pickT {c x y : Operand} {u : AV} (ho : o.op = .pick c x y) (hc : F.eval c = .s (.bool true)) (hu : F.eval x = u) : Does P o F σ u σ := hu ▸ does_pick ho hc
theorem pickT_s {c x y : Operand} {v : Value} (ho : o.op = .pick c x y) (hc : F.eval c = .s (.bool true)) (hu : F.eval x = .s v) : Does P o F σ (.s v) σ := does_pickT ho hc hu
theorem does_pickF {c x y : Operand} {u : AV} (ho : o.op = .pick c x y) (hc : F.eval c = .s (.bool false)) (hu : F.eval y = u) : Does P o F σ u σ := hu ▸ does_pick ho hc
theorem pickF_s {c x y : Operand} {v : Value} (ho : o.op = .pick c x y) (hc : F.eval c = .s (.bool false)) (hu : F.eval y = .s v) : Does P o F σ (.s v) σ := does_pickF ho hc hu
theorem za2 {α : Type} {f : α → AV} {l : List α} {t e : TypeId} {x : Operand} (ho : o.op = .call { callee := .builtin .len, args := #[x], argTypes := #[t] }) (ht : tySlice P t = some e) (hx : F.eval x = .sl (l.map f)) : Does P o F σ (.s (.int .i64 (l.length : Nat))) σ := by
  have := does_len_sl (F := F) (σ := σ) ho ht hx
  rwa [List.length_map] at this
theorem zas {t : TypeId} {x : Operand} {z : Option Value} {n bt : Nat} {cs : List AV} (ho : o.op = .load t x) (ha : tyAgg P t = some true) (hi : tyInfo P t = some (z, n, bt)) (hx : F.eval x = .ref cs) (hn : cs.length = n) : Does P o F σ (.agg cs) σ := by
  have := does_load_refs (F := F) (σ := σ) ho ha hi hx (by omega)
  rwa [← hn, List.take_length] at this
theorem does_nil_ref {x : Operand} {cs : List AV} (ho : o.op = .nilCheck x) (hx : F.eval x = .ref cs) : Does P o F σ (.ref cs) σ :=
  does_val fun G ρ hr hop => by
    have h1 := hop x (by simp [ho, Op.operands])
    rw [hx] at h1
    generalize hv : ρ x = u at h1
    cases h1 with
    | ref b i _ val h1 h2 h => exact ⟨_, by simp [execOp, ho, hv], .ref b i cs val h1 h2 h⟩
end
theorem post1 {t : Nat} {x r : AV} {e : Exit} (he : e = .normal ∨ e = .ret) (h : F.get t = x) (hr : x = r) : APost P [.tmp t] r e F σ := ⟨he, [x], .cons _ _ _ _ (.tmp t x h) .nil, by subst hr; exact .refl _⟩
theorem post1f {t : Nat} {x r : AV} {e : Exit} (he : e = .normal ∨ e = .ret) (h : F.get t = x) (hf : Fini σ x r) : APost P [.tmp t] r e F σ := ⟨he, [x], .cons _ _ _ _ (.tmp t x h) .nil, hf⟩
theorem post2 {t u : Nat} {x y x' y' : AV} {e : Exit} (he : e = .normal ∨ e = .ret) (h : F.get t = x) (h' : F.get u = y) (hf : Fini σ x x') (hf' : Fini σ y y') : APost P [.tmp t, .tmp u] (.tup [x', y']) e F σ :=
  ⟨he, [x, y], .cons _ _ _ _ (.tmp t x h) (.cons _ _ _ _ (.tmp u y h') .nil), .tup _ _ rfl (FiniL.cons hf (FiniL.cons hf' FiniL.nil)).2⟩
theorem post3 {t u v : Nat} {x y z x' y' z' : AV} {e : Exit} (he : e = .normal ∨ e = .ret) (h : F.get t = x) (h' : F.get u = y) (h'' : F.get v = z) (hf : Fini σ x x') (hf' : Fini σ y y') (hf'' : Fini σ z z') : APost P [.tmp t, .tmp u, .tmp v] (.tup [x', y', z']) e F σ :=
  ⟨he, [x, y, z], .cons _ _ _ _ (.tmp t x h) (.cons _ _ _ _ (.tmp u y h') (.cons _ _ _ _ (.tmp v z h'') .nil)), .tup _ _ rfl (FiniL.cons hf (FiniL.cons hf' (FiniL.cons hf'' FiniL.nil))).2⟩
end
theorem ix_map {α : Type} [Inhabited α] {f : α → AV} {l : List α} {k : Nat} (h : k < l.length) : (l.map f)[k]? = some (f (gti l k)) := by
  rw [List.getElem?_map, gti_get h]; rfl
theorem zap {k : Nat} : ∀ y ∈ ([] : List AV), Lo k y := by simp
theorem zah {k : Nat} {x : AV} {l : List AV} (h : Lo k x) (t : ∀ y ∈ l, Lo k y) : ∀ y ∈ x :: l, Lo k y := by
  intro y hy
  rcases List.mem_cons.1 hy with rfl | hy
  · exact h
  · exact t y hy
theorem zaq {k : Nat} {α : Type} {f : α → AV} {l : List α} (h : ∀ a, Lo k (f a)) : Lo k (.sl (l.map f)) := .sl _ fun y hy => by
  obtain ⟨a, _, rfl⟩ := List.mem_map.1 hy
  exact h a
theorem zan {k : Nat} {α : Type} {f : α → AV} {l : List α} (h : ∀ a, ∀ c ∈ (f a).cells, Lo k c) : ∀ e ∈ l.map f, ∀ c ∈ e.cells, Lo k c := fun y hy => by
  obtain ⟨a, _, rfl⟩ := List.mem_map.1 hy
  exact h a
theorem zao {k : Nat} : ∀ e ∈ ([] : List AV), ∀ c ∈ e.cells, Lo k c := by simp
theorem zai {k : Nat} {x : AV} {l : List AV} (h : Lo k x) (t : ∀ e ∈ l, ∀ c ∈ e.cells, Lo k c) : ∀ e ∈ x :: l, ∀ c ∈ e.cells, Lo k c := by
  intro y hy
  rcases List.mem_cons.1 hy with rfl | hy
  · exact h.cells
  · exact t y hy
theorem flat_nil : ∀ c ∈ ([] : List AV), Flat c := by simp
theorem flat_cons {x : AV} {l : List AV} (h : Flat x) (t : ∀ c ∈ l, Flat c) : ∀ c ∈ x :: l, Flat c := by
  intro y hy
  rcases List.mem_cons.1 hy with rfl | hy
  · exact h
  · exact t y hy
def eI (n : Int) : AV := .s (.int .i64 n)
def eB (b : Bool) : AV := .s (.bool b)
def eS (s : ByteArray) : AV := .s (.string s)
def eL {α : Type} (f : α → AV) (l : List α) : AV := .sl (l.map f)
end Go.Proofs.Ytmhbfoaecebobaa.Aw
end
section
namespace Go.Proofs.Ytmhbfoaecebobaa.Aw
set_option linter.unusedSimpArgs false
set_option linter.unusedVariables false
open Go.RowKit
def newCx (G : Cx) (w' : World) : Cx := { base := 0, w0 := G.w, w := w', mu := fun _ => none, St := fun b o => G.St b o ∨ (G.w.heap.size ≤ b ∧ b < w'.heap.size) }
theorem pure_mk {P : Program} {f : FuncId} {args : List AV} {r : AV} (he : Enters P f) (hl : Lo 0 r)
    (h : ∀ (G : Cx) (vargs : Array Value), (∀ b o, G.St b o → b < G.w.heap.size) → vargs.size = args.length → (∀ (j : Nat) v x, vargs[j]? = some v → args[j]? = some x → Rep G v x) →
      Calls P f vargs G.w fun e w' => ∃ v, e = .returned v ∧ Below G.w.heap.size G.w w' ∧ Rep (newCx G w') v r) : Pure P f args r :=
  ⟨he, hl, fun G vargs hst hsz hrep => (h G vargs hst hsz hrep).mono (by
    rintro e w' ⟨v, rfl, hb, hr⟩
    refine ⟨v, newCx G w', rfl, rfl, hb, fun b o h => .inl h, fun b o h => ?_, fun b o h => ?_, hr⟩
    · exact h.imp (fun h => h) (fun h => h.1)
    · rcases h with h | h
      · have := hst b o h; have := hb.size; show b < w'.heap.size; omega
      · exact h.2)⟩
theorem ent_enters {P : Program} {f : FuncId} (h : ∀ args w, (callFunc f args).run P w = .ok (.enter f args) w) : Enters P f := h
theorem rd_rep {G : Cx} {α : Type} [Inhabited α] {size : Nat} {enc : α → List Value} {f : α → AV} (he : ∀ a, (enc a).length = size) (hf : ∀ a, (f a).cells.length = size) (h1 : ∀ a, ∀ c ∈ (f a).cells, c.one = true)
    {lo hi : Nat} {v : Value} {l : List α} (h : Rd size enc G.w lo hi v l) (hs : ∀ b o, lo ≤ b → b < hi → b < G.w.heap.size → G.St b o)
    (hr : ∀ a ∈ l, ∀ (j : Nat) u c, (enc a)[j]? = some u → (f a).cells[j]? = some c → Rep G u c) : Rep G v (eL f l) := by
  obtain ⟨A, c, rfl, hc, hm⟩ := h.form
  unfold eL
  rcases Nat.eq_zero_or_pos l.length with h0 | h0
  · have : l = [] := List.eq_nil_of_length_eq_zero h0
    subst this
    exact .slnil A c
  · obtain ⟨b, off, rfl, hlo, hhi, _⟩ := Rd.at_ h he (gti_get h0)
    have key : ∀ (k : Nat) a (j : Nat) u, l[k]? = some a → (enc a)[j]? = some u → G.w.cell? ⟨b, off + (k * size + j), none⟩ = some u := by
      intro k a j u hk hu
      obtain ⟨b2, off2, hA, _, _, h3⟩ := Rd.at_ h he hk
      cases hA
      exact h3 j u hu
    have hval : ∀ (k : Nat) e (j : Nat) c, (l.map f)[k]? = some e → e.cells[j]? = some c → ∃ a u, l[k]? = some a ∧ e = f a ∧ (enc a)[j]? = some u ∧ Rep G u c ∧ G.w.cell? ⟨b, off + k * size + j, none⟩ = some u := by
      intro k e j c hk hc
      rw [List.getElem?_map] at hk
      cases ha : l[k]? with
      | none => rw [ha] at hk; cases hk
      | some a =>
        rw [ha] at hk
        simp only [Option.map_some, Option.some.injEq] at hk
        subst hk
        have hj : j < (enc a).length := by rw [he, ← hf a]; exact (List.getElem?_eq_some_iff.1 hc).1
        refine ⟨a, (enc a)[j], rfl, rfl, List.getElem?_eq_getElem hj, hr a (List.mem_of_getElem? ha) j _ c (List.getElem?_eq_getElem hj) hc, ?_⟩
        rw [Nat.add_assoc]
        exact key k a j _ ha (List.getElem?_eq_getElem hj)
    have hlen : l.length = (l.map f).length := by simp
    rw [hlen]
    refine .sl b off c size (l.map f) (fun k j => (G.w.cell? ⟨b, off + k * size + j, none⟩).getD undef) (by simpa using hc) (by simpa [maxLen] using hm) (fun k e hk => ?_) (fun k e j c hk hc => ?_) (fun k e j c hk hc => ?_)
    · obtain ⟨a, _, rfl⟩ := List.mem_map.1 (List.mem_of_getElem? hk)
      exact ⟨hf a, h1 a⟩
    · obtain ⟨a, u, _, _, _, _, h6⟩ := hval k e j c hk hc
      exact ⟨hs b _ hlo hhi (World.block_lt_of_cell? _ _ h6), by rw [h6]; rfl⟩
    · obtain ⟨a, u, _, _, _, h5, h6⟩ := hval k e j c hk hc
      rw [h6]; exact h5
theorem rep_rd {G : Cx} {α : Type} [Inhabited α] {size : Nat} {enc : α → List Value} {f : α → AV} (hsz : 0 < size) (he : ∀ a, (enc a).length = size) (hf : ∀ a, (f a).cells.length = size)
    {v : Value} {l : List α} (h : Rep G v (eL f l)) (hs : ∀ b o, G.St b o → b < G.w.heap.size)
    (hr : ∀ a ∈ l, ∀ (j : Nat) u c v, (enc a)[j]? = some u → (f a).cells[j]? = some c → Rep G v c → v = u) : Rd size enc G.w 0 G.w.heap.size v l := by
  unfold eL at h
  generalize hL : l.map f = L at h
  cases h with
  | slnil A cap =>
    have : l = [] := by simpa using hL
    subst this
    exact ⟨by simp, A, cap, rfl, Nat.zero_le _, Nat.zero_le _, fun h => by simp at h⟩
  | sl b o cap sz _ val hc hm h1 h2 h =>
    subst hL
    simp only [List.length_map] at *
    have key : ∀ (k : Nat) a (j : Nat) u, l[k]? = some a → (enc a)[j]? = some u → G.w.cell? ⟨b, o + (k * size + j), none⟩ = some u := by
      intro k a j u hk hu
      have hk2 : (l.map f)[k]? = some (f a) := by rw [List.getElem?_map, hk]; rfl
      have hsz' : sz = size := by rw [← (h1 k _ hk2).1, hf]
      subst hsz'
      have hj : j < (f a).cells.length := by rw [hf, ← he a]; exact (List.getElem?_eq_some_iff.1 hu).1
      have hj2 := List.getElem?_eq_getElem hj
      have h3 := h2 k _ j _ hk2 hj2
      rw [Nat.add_assoc] at h3
      rw [h3.2, hr a (List.mem_of_getElem? hk) j u _ _ hu hj2 (h k _ j _ hk2 hj2)]
    refine ⟨flatMap_len he l, _, cap, rfl, hc, hm, fun hn => ⟨b, o, rfl, Nat.zero_le _, ?_, fun j u hu => ?_⟩⟩
    · have h0 := gti_get hn
      have hk2 : (l.map f)[0]? = some (f (gti l 0)) := by rw [List.getElem?_map, h0]; rfl
      have hj : 0 < (f (gti l 0)).cells.length := by rw [hf]; exact hsz
      exact hs _ _ (h2 0 _ 0 _ hk2 (List.getElem?_eq_getElem hj)).1
    · have hlt : j < l.length * size := by
        have := (List.getElem?_eq_some_iff.1 hu).1
        rwa [flatMap_len he] at this
      have hk : j / size < l.length := Nat.div_lt_of_lt_mul (by rw [Nat.mul_comm]; exact hlt)
      have hjm : j % size < (enc (gti l (j / size))).length := by rw [he]; exact Nat.mod_lt _ hsz
      have h5 := flatMap_get he l (j / size) (gti l (j / size)) (j % size) _ (gti_get hk) (List.getElem?_eq_getElem hjm)
      have h6 := key (j / size) _ (j % size) _ (gti_get hk) (List.getElem?_eq_getElem hjm)
      have h7 : j / size * size + j % size = j := by rw [Nat.mul_comm]; exact Nat.div_add_mod _ _
      rw [h7] at h5 h6
      rw [h5] at hu
      cases hu
      exact h6
theorem rdI_rep {G : Cx} {lo hi : Nat} {v : Value} {l : List Int} (h : RdI G.w lo hi v l) (hs : ∀ b o, lo ≤ b → b < hi → b < G.w.heap.size → G.St b o) : Rep G v (eL eI l) :=
  rd_rep (size := 1) (enc := encI) (f := eI) (by simp) (fun _ => rfl) (fun a c hc => by simp [eI, AV.cells] at hc; subst hc; rfl) h hs (fun a _ j u c hu hc => by
    cases j with
    | zero => simp [eI, AV.cells] at hu hc; subst hu hc; exact .s _
    | succ j => simp at hu)
theorem rep_rdI {G : Cx} {v : Value} {l : List Int} (h : Rep G v (eL eI l)) (hs : ∀ b o, G.St b o → b < G.w.heap.size) : RdI G.w 0 G.w.heap.size v l :=
  rep_rd (size := 1) (enc := encI) (f := eI) (by decide) (by simp) (fun _ => rfl) h hs (fun a _ j u c v hu hc hv => by
    cases j with
    | zero => simp [eI, AV.cells] at hu hc; subst hu hc; exact rep_s hv
    | succ j => simp at hu)
theorem rdS_rep {G : Cx} {lo hi : Nat} {v : Value} {l : List ByteArray} (h : RdS G.w lo hi v l) (hs : ∀ b o, lo ≤ b → b < hi → b < G.w.heap.size → G.St b o) : Rep G v (eL eS l) :=
  rd_rep (size := 1) (enc := encS) (f := eS) (by simp) (fun _ => rfl) (fun a c hc => by simp [eS, AV.cells] at hc; subst hc; rfl) h hs (fun a _ j u c hu hc => by
    cases j with
    | zero => simp [eS, AV.cells] at hu hc; subst hu hc; exact .s _
    | succ j => simp at hu)
theorem rep_rdS {G : Cx} {v : Value} {l : List ByteArray} (h : Rep G v (eL eS l)) (hs : ∀ b o, G.St b o → b < G.w.heap.size) : RdS G.w 0 G.w.heap.size v l :=
  rep_rd (size := 1) (enc := encS) (f := eS) (by decide) (by simp) (fun _ => rfl) h hs (fun a _ j u c v hu hc hv => by
    cases j with
    | zero => simp [eS, AV.cells] at hu hc; subst hu hc; exact rep_s hv
    | succ j => simp at hu)
end Go.Proofs.Ytmhbfoaecebobaa.Aw
end
section
namespace Go.Proofs.Ytmhbfoaecebobaa.Aw
set_option linter.unusedSimpArgs false
set_option linter.unusedVariables false
open Go.RowKit
def eT (t : Tr) : AV := .agg [eS t.label, eL eI t.inn, eL eI t.out]
def eN (n : Net) : AV := .agg [eI n.places, eL eT n.trans, eI n.source, eI n.sink]
theorem rdT_rep {G : Cx} {lo hi : Nat} {v : Value} {l : List Tr} (h : RdT G.w lo hi v l) (hs : ∀ b o, lo ≤ b → b < hi → b < G.w.heap.size → G.St b o) : Rep G v (eL eT l) := by
  obtain ⟨vs, h1, h2, h3⟩ := h
  have hz1 : (vs.zip l).map Prod.fst = vs := by rw [List.map_fst_zip (by omega)]
  have hz2 : (vs.zip l).map Prod.snd = l := by rw [List.map_snd_zip (by omega)]
  have h4 : Rd 3 (fun p : TrV × Tr => encV p.1) G.w lo hi v (vs.zip l) := by
    have e1 : (vs.zip l).flatMap (fun p => encV p.1) = vs.flatMap encV := by
      conv => rhs; rw [← hz1]
      rw [List.flatMap_map]
    have e2 : (vs.zip l).length = vs.length := by simp; omega
    unfold RdV Rd at h1
    unfold Rd
    rw [e1, e2]
    exact h1
  have h5 := rd_rep (G := G) (size := 3) (enc := fun p : TrV × Tr => encV p.1) (f := fun p => eT p.2) (by simp) (fun _ => rfl) (fun a c hc => by simp [eT, AV.cells] at hc; rcases hc with rfl | rfl | rfl <;> rfl) h4 hs (fun p hp j u c hu hc => by
    obtain ⟨k, hk, rfl⟩ := List.mem_iff_getElem.1 hp
    simp only [List.length_zip] at hk
    have hk2 : k < l.length := by omega
    have ea : gti vs k = vs[k]'(by omega) := by unfold gti; rw [List.getElem?_eq_getElem]; rfl
    have eb : gti l k = l[k] := by unfold gti; rw [List.getElem?_eq_getElem]; rfl
    obtain ⟨g1, g2, g3⟩ := h3 k hk2
    rw [ea, eb] at g1 g2 g3
    simp only [List.getElem_zip] at hu hc
    match j, hu, hc with
    | 0, hu, hc => simp [eT, AV.cells] at hu hc; subst hu hc; rw [g1]; exact .s _
    | 1, hu, hc => simp [eT, AV.cells] at hu hc; subst hu hc; exact rdI_rep g2 hs
    | 2, hu, hc => simp [eT, AV.cells] at hu hc; subst hu hc; exact rdI_rep g3 hs
    | j + 3, hu, hc => simp at hu)
  have e3 : eL (fun p : TrV × Tr => eT p.2) (vs.zip l) = eL eT l := by
    unfold eL
    congr 1
    conv => rhs; rw [← hz2]
    rw [List.map_map]; rfl
  rwa [e3] at h5
theorem rep_rdT {G : Cx} {v : Value} {l : List Tr} (h : Rep G v (eL eT l)) (hs : ∀ b o, G.St b o → b < G.w.heap.size) : RdT G.w 0 G.w.heap.size v l := by
  unfold eL at h
  generalize hL : l.map eT = L at h
  cases h with
  | slnil A cap =>
    have : l = [] := by simpa using hL
    subst this
    exact ⟨[], ⟨by simp, A, cap, rfl, Nat.zero_le _, Nat.zero_le _, fun h => by simp at h⟩, rfl, fun k hk => by simp at hk⟩
  | sl b o cap sz _ val hc hm h1 h2 h =>
    subst hL
    simp only [List.length_map] at *
    have hk2 : ∀ k, k < l.length → (l.map eT)[k]? = some (eT (gti l k)) := fun k hk => by rw [List.getElem?_map, gti_get hk]; rfl
    refine ⟨(List.range l.length).map fun k => ⟨(gti l k).label, val k 1, val k 2⟩, ?_, by simp, fun k hk => ?_⟩
    · have hlen : ((List.range l.length).map fun k => (⟨(gti l k).label, val k 1, val k 2⟩ : TrV)).length = l.length := by simp
      refine ⟨flatMap_len (by simp) _, _, cap, by rw [hlen], by simpa using hc, by simpa using hm, fun hn => ⟨b, o, rfl, Nat.zero_le _, ?_, fun j u hu => ?_⟩⟩
      · rw [hlen] at hn
        exact hs _ _ (h2 0 _ 0 _ (hk2 0 hn) rfl).1
      · have hlt : j < l.length * 3 := by
          have := (List.getElem?_eq_some_iff.1 hu).1
          rwa [flatMap_len (size := 3) (by simp), hlen] at this
        have hk : j / 3 < l.length := by omega
        have hg : ((List.range l.length).map fun k => (⟨(gti l k).label, val k 1, val k 2⟩ : TrV))[j / 3]? = some ⟨(gti l (j / 3)).label, val (j / 3) 1, val (j / 3) 2⟩ := by simp [hk]
        have hjm : j % 3 < 3 := Nat.mod_lt _ (by decide)
        have hsz : sz = 3 := by rw [← (h1 _ _ (hk2 _ hk)).1]; rfl
        subst hsz
        have h7 : j / 3 * 3 + j % 3 = j := by rw [Nat.mul_comm]; exact Nat.div_add_mod _ _
        have key : ∀ (i : Nat) u c, (encV ⟨(gti l (j / 3)).label, val (j / 3) 1, val (j / 3) 2⟩)[i]? = some u → (eT (gti l (j / 3))).cells[i]? = some c → j % 3 = i → G.w.cell? ⟨b, o + j, none⟩ = some (val (j / 3) i) := by
          intro i u c _ hc2 hi
          have h3 := (h2 (j / 3) _ i c (hk2 _ hk) hc2).2
          rw [← hi] at h3 ⊢
          rw [Nat.add_assoc, h7] at h3
          exact h3
        have hu2 : ∀ i u', j % 3 = i → (encV ⟨(gti l (j / 3)).label, val (j / 3) 1, val (j / 3) 2⟩)[i]? = some u' → u = u' := by
          intro i u' hi hu'
          have h5 := flatMap_get (size := 3) (enc := encV) (by simp) _ (j / 3) _ i u' hg hu'
          rw [← hi, h7, hu] at h5
          injection h5
        have h3 : j % 3 = 0 ∨ j % 3 = 1 ∨ j % 3 = 2 := by omega
        rcases h3 with h3 | h3 | h3
        · rw [hu2 0 _ h3 rfl, key 0 _ _ rfl rfl h3]
          have := h (j / 3) _ 0 _ (hk2 _ hk) rfl
          rw [rep_s this]
        · rw [hu2 1 _ h3 rfl, key 1 _ _ rfl rfl h3]
        · rw [hu2 2 _ h3 rfl, key 2 _ _ rfl rfl h3]
    · have hg : gti ((List.range l.length).map fun k => (⟨(gti l k).label, val k 1, val k 2⟩ : TrV)) k = ⟨(gti l k).label, val k 1, val k 2⟩ := by
        unfold gti; simp [hk]
      rw [hg]
      exact ⟨rfl, rep_rdI (h k _ 1 _ (hk2 k hk) rfl) hs, rep_rdI (h k _ 2 _ (hk2 k hk) rfl) hs⟩
theorem rep_net {G : Cx} {v : Value} {n : Net} (h : Rep G v (eN n)) (hs : ∀ b o, G.St b o → b < G.w.heap.size) : ∃ vt, v = netV n vt ∧ RdT G.w 0 G.w.heap.size vt n.trans := by
  unfold eN at h
  cases h with
  | agg vs _ hl h1 h =>
    obtain ⟨l⟩ := vs
    match l, hl with
    | [a, b, c, d], _ =>
      have ha := rep_s (h 0 a _ rfl rfl)
      have hc := rep_s (h 2 c _ rfl rfl)
      have hd := rep_s (h 3 d _ rfl rfl)
      subst ha hc hd
      exact ⟨b, rfl, rep_rdT (h 1 b _ rfl rfl) hs⟩
end Go.Proofs.Ytmhbfoaecebobaa.Aw
end
section
namespace Go.Proofs.Ytmhbfoaecebobaa
set_option linter.unusedSimpArgs false
set_option linter.unusedVariables false
open Go.RowKit
section
variable {P : Program} {pre : List Oper} {last : Oper} {Q : Exit → Act → World → Prop} {S : World → Prop}
def lastBT (pre : List Oper) (last : Oper) : Bool :=
  (List.range pre.length).all (fun i => (last.after.any fun e => Region.binds .any e && e.on == i) || (List.range pre.length).any (fun k => match pre[k]? with | none => false | some o => o.after.any fun e => Region.binds .any e && e.on == i)) &&
  (List.range pre.length).all (fun i => match pre[i]? with
    | none => true
    | some o => (o.after.all fun e => !Region.binds .any e || decide (e.on < i)) && (match o.guard with | none => true | some (j, _) => decide (j < pre.length))) &&
  last.guard.isNone && last.after.all (fun e => !Region.binds .any e || decide (e.on < pre.length))
structure LastT (pre : List Oper) (last : Oper) : Prop where
  waits : ∀ i, i < pre.length → (∃ e ∈ last.after, Region.binds .any e = true ∧ e.on = i) ∨ ∃ (k : Nat) (o : Oper), pre[k]? = some o ∧ ∃ e ∈ o.after, Region.binds .any e = true ∧ e.on = i
  early : ∀ (i : Nat) (o : Oper), pre[i]? = some o → ∀ e ∈ o.after, Region.binds .any e = true → e.on < i
  guards : ∀ (i : Nat) (o : Oper), pre[i]? = some o → ∀ (j : Nat) (b : Bool), o.guard = some (j, b) → j < pre.length
  free : last.guard = none
  on : ∀ e ∈ last.after, Region.binds .any e = true → e.on < pre.length
theorem lastT_of (h : lastBT pre last = true) : LastT pre last := by
  unfold lastBT at h
  simp only [Bool.and_eq_true, Bool.or_eq_true, List.all_eq_true, List.any_eq_true, List.mem_range, Array.any_eq_true', beq_iff_eq] at h
  obtain ⟨⟨⟨h1, h2⟩, h3⟩, h4⟩ := h
  refine ⟨fun i hi => ?_, fun i o ho e he hb => ?_, fun i o ho j b hj => ?_, by simpa using h3, fun e he hb => ?_⟩
  · rcases h1 i hi with ⟨e, he, hb, ho⟩ | ⟨k, hk, hm⟩
    · exact .inl ⟨e, he, hb, ho⟩
    · right
      rw [List.getElem?_eq_getElem hk] at hm
      simp only [Array.any_eq_true', Bool.and_eq_true, beq_iff_eq] at hm
      obtain ⟨e, he, hb, ho⟩ := hm
      exact ⟨k, pre[k], List.getElem?_eq_getElem hk, e, he, hb, ho⟩
  · have hi : i < pre.length := (List.getElem?_eq_some_iff.1 ho).1
    have := h2 i hi
    rw [ho] at this
    simp only [Bool.and_eq_true, Array.all_eq_true', Bool.or_eq_true, Bool.not_eq_true', decide_eq_true_eq] at this
    rcases this.1 e he with h | h
    · rw [hb] at h; cases h
    · exact h
  · have hi : i < pre.length := (List.getElem?_eq_some_iff.1 ho).1
    have := h2 i hi
    rw [ho] at this
    simp only [Bool.and_eq_true] at this
    have h5 := this.2
    rw [hj] at h5
    simpa using h5
  · simp only [Array.all_eq_true', Bool.or_eq_true, Bool.not_eq_true', decide_eq_true_eq] at h4
    rcases h4 e he with h | h
    · rw [hb] at h; cases h
    · exact h
def Clo (pre : List Oper) (L : Array Bool) : Prop := ∀ (k : Nat) (o : Oper), pre[k]? = some o → L.getD k false = true → ∀ e ∈ o.after, Region.binds .any e = true → L.getD e.on false = true
theorem Clo.none (n : Nat) : Clo pre (Array.replicate n false) := by
  intro k o _ h
  rw [Array.getD_eq_getD_getElem?, Array.getElem?_replicate] at h
  split at h <;> simp at h
theorem Clo.step {L : Array Bool} {i : Nat} (h : Clo pre L) (hL : L.size = pre.length) (hi : i ∈ Region.ready .any pre.toArray L) : Clo pre (L.setIfInBounds i true) := by
  intro k o hk hd e he hb
  have hmono : ∀ j, L.getD j false = true → (L.setIfInBounds i true).getD j false = true := by
    intro j hj
    rw [Array.getD_eq_getD_getElem?] at hj ⊢
    rw [Array.getElem?_setIfInBounds]
    split
    · rename_i e; subst e
      split
      · rfl
      · rename_i h3
        rw [Array.getElem?_eq_none (by omega)] at hj
        cases hj
    · exact hj
  apply hmono
  by_cases hik : i = k
  · subst hik
    obtain ⟨_, o2, ho2, hall⟩ := mem_ready.1 hi
    rw [List.getElem?_toArray, hk] at ho2
    cases ho2
    exact hall e he hb
  · refine h k o hk ?_ e he hb
    rw [Array.getD_eq_getD_getElem?] at hd ⊢
    rw [Array.getElem?_setIfInBounds, if_neg hik] at hd
    exact hd
theorem wanted_preT (ok : LastT pre last) {i : Nat} {o : Oper} (ho : pre[i]? = some o) (tmps : Array Value) : Region.wanted o (yielded (pre ++ [last]).toArray tmps) = Region.wanted o (yielded pre.toArray tmps) := by
  unfold Region.wanted
  cases hg : o.guard with
  | none => rfl
  | some jb =>
    obtain ⟨j, b⟩ := jb
    simp only
    rw [yielded_pre (ok.guards i o ho j b hg)]
theorem op_thenT (ok : LastT pre last) {i : Nat} (hi : i < pre.length) {K K' : Act → World → Prop} {a : Act} {w : World} (hK : ∀ a w, K a w → K' a w)
    (h : wpOp P pre.toArray (thenLast P pre last Q) i K a w) : wpOp P (pre ++ [last]).toArray Q i K' a w := by
  refine wpOp_mono hK ?_
  unfold wpOp at h ⊢
  rw [get_pre hi]
  obtain ⟨o, ho⟩ : ∃ o, pre[i]? = some o := ⟨_, List.getElem?_eq_getElem hi⟩
  simp only [List.getElem?_toArray, ho] at h ⊢
  rw [wanted_preT ok ho]
  split
  · rename_i hw
    rw [if_pos hw] at h
    rcases h with h | ⟨h1, h2⟩
    · exact .inl (upon_then h)
    · exact .inr ⟨h1, h2⟩
  · rename_i hw
    rw [if_neg hw] at h
    exact h
theorem last_anyT (ok : LastT pre last) : ∀ (fuel : Nat) (L : Array Bool) (a : Act) (w : World), L.size = pre.length → Clo pre L →
    wpAny P .any pre.toArray (thenLast P pre last Q) fuel L a w → wpAny P .any (pre ++ [last]).toArray Q (fuel + 1) (L.push false) a w := by
  -- who may come up: as before; the last one, once all have come up
  have hready : ∀ (L : Array Bool), L.size = pre.length → Clo pre L → ∀ i, i ∈ Region.ready .any (pre ++ [last]).toArray (L.push false) → (i < pre.length ∧ i ∈ Region.ready .any pre.toArray L) ∨ (i = pre.length ∧ ∀ j, j < pre.length → L.getD j false = true) := by
    intro L hL hC i hi
    obtain ⟨h1, o, ho, hall⟩ := mem_ready.1 hi
    have hlt : i < pre.length + 1 := by
      have := (Array.getElem?_eq_some_iff.1 ho).1
      simpa using this
    rcases Nat.lt_or_eq_of_le (Nat.le_of_lt_succ hlt) with h2 | h2
    · left
      refine ⟨h2, mem_ready.2 ⟨?_, o, by rw [get_pre h2] at ho; exact ho, fun e he hb => ?_⟩⟩
      · simpa [Array.getD_eq_getD_getElem?, Array.getElem?_push, hL, Nat.ne_of_lt h2] using h1
      · have hon := ok.early i o (by rw [get_pre h2] at ho; simpa using ho) e he hb
        have := hall e he hb
        simpa [Array.getD_eq_getD_getElem?, Array.getElem?_push, hL, Nat.ne_of_lt (Nat.lt_trans hon h2)] using this
    · right
      subst h2
      rw [get_last] at ho
      injection ho with ho
      subst ho
      refine ⟨rfl, fun j hj => ?_⟩
      have key : ∀ (m j : Nat), j < pre.length → pre.length - j ≤ m → L.getD j false = true := by
        intro m
        induction m with
        | zero => intro j hj hm; omega
        | succ m ihm =>
          intro j hj hm
          rcases ok.waits j hj with ⟨e, he, hb, rfl⟩ | ⟨k, o2, hk, e, he, hb, rfl⟩
          · have := hall e he hb
            simpa [Array.getD_eq_getD_getElem?, Array.getElem?_push, hL, Nat.ne_of_lt hj] using this
          · have hlt2 := ok.early k o2 hk e he hb
            have hk2 : k < pre.length := (List.getElem?_eq_some_iff.1 hk).1
            exact hC k o2 hk (ihm k hk2 (by omega)) e he hb
      exact key pre.length j hj (by omega)
  have hsome : ∀ (L : Array Bool), L.size = pre.length → Region.ready .any (pre ++ [last]).toArray (L.push false) ≠ [] := by
    intro L hL he
    -- the least that has not come up is ready
    have key : ∀ i, i ≤ pre.length → ∀ j, j < i → L.getD j false = true := by
      intro i
      induction i with
      | zero => intro _ j hj; omega
      | succ i ih =>
        intro hi j hj
        rcases Nat.lt_or_eq_of_le (Nat.le_of_lt_succ hj) with h1 | h1
        · exact ih (by omega) j h1
        · subst h1
          cases hc : L.getD j false with
          | true => rfl
          | false =>
            exfalso
            have hj' : j < pre.length := by omega
            obtain ⟨o, ho⟩ : ∃ o, pre[j]? = some o := ⟨_, List.getElem?_eq_getElem hj'⟩
            have hm : j ∈ Region.ready .any (pre ++ [last]).toArray (L.push false) := by
              refine mem_ready.2 ⟨?_, o, by rw [get_pre hj']; simpa using ho, fun e he hb => ?_⟩
              · have hlt : j < L.size := by omega
                simp [Array.getD_eq_getD_getElem?, hlt] at hc ⊢
                simp [Array.getElem?_push, Nat.ne_of_lt hlt, hlt, hc]
              · have hon := ok.early j o ho e he hb
                have := ih (by omega) e.on hon
                simpa [Array.getD_eq_getD_getElem?, Array.getElem?_push, hL, Nat.ne_of_lt (Nat.lt_trans hon hj')] using this
            rw [he] at hm
            cases hm
    have hm : pre.length ∈ Region.ready .any (pre ++ [last]).toArray (L.push false) := by
      refine mem_ready.2 ⟨?_, last, get_last, fun e he hb => ?_⟩
      · rw [Array.getD_eq_getD_getElem?, ← hL, Array.getElem?_push_size]; rfl
      · have hon := ok.on e he hb
        have := key pre.length (Nat.le_refl _) e.on hon
        simpa [Array.getD_eq_getD_getElem?, Array.getElem?_push, hL, Nat.ne_of_lt hon] using this
    rw [he] at hm
    cases hm
  -- the last one
  have hlast : ∀ (fuel : Nat) (L : Array Bool) (a : Act) (w : World), L.size = pre.length → (∀ j, j < pre.length → L.getD j false = true) → thenLast P pre last Q .normal a w →
      wpOp P (pre ++ [last]).toArray Q pre.length (wpAny P .any (pre ++ [last]).toArray Q fuel ((L.push false).setIfInBounds pre.length true)) a w := by
    intro fuel L a w hL hall h
    have hdone : Region.ready .any (pre ++ [last]).toArray ((L.push false).setIfInBounds pre.length true) = [] := by
      rw [List.eq_nil_iff_forall_not_mem]
      intro i hi
      obtain ⟨h1, o, ho, _⟩ := mem_ready.1 hi
      have hlt : i < pre.length + 1 := by
        have := (Array.getElem?_eq_some_iff.1 ho).1
        simpa using this
      rcases Nat.lt_or_eq_of_le (Nat.le_of_lt_succ hlt) with h2 | h2
      · have h3 := hall i h2
        have hlt' : i < L.size := by omega
        rw [Array.getD_eq_getD_getElem?, Array.getElem?_eq_getElem hlt'] at h3
        rw [Array.getD_eq_getD_getElem?, Array.getElem?_setIfInBounds, if_neg (by omega), Array.getElem?_push, if_neg (by omega), Array.getElem?_eq_getElem hlt'] at h1
        simp only [Option.getD_some] at h1 h3
        rw [h3] at h1
        cases h1
      · subst h2
        simp [Array.getD_eq_getD_getElem?, Array.getElem?_setIfInBounds, hL] at h1
    have hK : ∀ a w, Q .normal a w → wpAny P .any (pre ++ [last]).toArray Q fuel ((L.push false).setIfInBounds pre.length true) a w := by
      intro a w hq
      cases fuel with
      | zero => exact ⟨hdone, hq⟩
      | succ fuel => exact ⟨fun _ => hq, by rw [hdone]; simp⟩
    refine wpOp_mono hK ?_
    unfold wpOp
    rw [get_last]
    exact h
  intro fuel
  induction fuel with
  | zero =>
    intro L a w hL hC h
    refine ⟨fun he => absurd he (hsome L hL), fun i hi => ?_⟩
    rcases hready L hL hC i hi with ⟨_, h2⟩ | ⟨rfl, h2⟩
    · rw [h.1] at h2; cases h2
    · exact hlast 0 L a w hL h2 h.2
  | succ fuel ih =>
    intro L a w hL hC h
    refine ⟨fun he => absurd he (hsome L hL), fun i hi => ?_⟩
    rcases hready L hL hC i hi with ⟨h1, h2⟩ | ⟨rfl, h2⟩
    · refine op_thenT ok h1 (fun a' w' h' => ?_) (h.2 i h2)
      have := ih (L.setIfInBounds i true) a' w' (by simpa using hL) (hC.step hL h2) h'
      rwa [show (L.push false).setIfInBounds i true = (L.setIfInBounds i true).push false from by
        apply Array.ext_getElem?
        intro j
        simp only [Array.getElem?_setIfInBounds, Array.getElem?_push, Array.size_push, Array.size_setIfInBounds]
        by_cases h3 : i = j
        · subst h3
          rw [if_pos rfl, if_pos (by omega), if_neg (by omega), if_pos rfl, if_pos (by omega)]
        · rw [if_neg h3, if_neg h3]]
    · refine hlast (fuel + 1) L a w hL h2 (h.1 ?_)
      rw [List.eq_nil_iff_forall_not_mem]
      intro j hj
      obtain ⟨h3, o, ho, _⟩ := mem_ready.1 hj
      have hlt : j < pre.length := by
        have := (Array.getElem?_eq_some_iff.1 ho).1
        simpa using this
      have h4 := h2 j hlt
      have hlt' : j < L.size := by omega
      simp [Array.getD_eq_getD_getElem?, hlt'] at h3 h4
      rw [h4] at h3
      cases h3
end
end Go.Proofs.Ytmhbfoaecebobaa
namespace Go.Proofs.Ytmhbfoaecebobaa.Aw
open Go.RowKit
variable {P : Program} {N : Nat} {l : List Oper} {F : Frm} {σ : List Ob} {Q : Exit → Frm → List Ob → Prop}
theorem adraw_lastT {last : Oper} (hl : l.dropLast ++ [last] = l) (hk : lastBT l.dropLast last = true) (h : ADraw P N l.dropLast F σ (AThen (fun F σ => AOps P N l.toArray [last] F σ Q) Q)) : ADraw P N l F σ Q := fun G a hs => by
  have h1 := h G a hs
  have h2 := wpAny_mono (Q' := thenLast P l.dropLast last (lift N G Q)) (fun e a w q => by
    obtain ⟨G', F', σ', rfl, g2, g3, g4⟩ := q
    unfold thenLast
    rw [hl]
    cases e with
    | normal => exact wpList_mono (fun e a w q => lift_mono g2 (fun _ _ _ x => x) q) _ _ _ (g4 G' a g3)
    | _ => exact ⟨G', F', σ', rfl, g2, g3, g4⟩) _ _ _ _ h1
  have h3 := last_anyT (lastT_of hk) _ _ a G.w (by simp) (Clo.none _) h2
  rw [hl] at h3
  have h4 : l.length = l.dropLast.length + 1 := by rw [← hl]; simp
  rw [h4]
  rwa [show Array.replicate (l.dropLast.length + 1) false = (Array.replicate l.dropLast.length false).push false by simp [Array.replicate_succ]]
end Go.Proofs.Ytmhbfoaecebobaa.Aw
end
section
namespace Go.Proofs.Ytmhbfoaecebobaa.Aw
set_option linter.unusedSimpArgs false
set_option linter.unusedVariables false
open Go Go.Proofs Go.RowKit
structure PureE (P : Program) (f : FuncId) (args : List AV) (R : AV → Prop) : Prop where
  ent : Enters P f
  lo : ∀ r, R r → Lo 0 r
  call : ∀ (G : Cx) (vargs : Array Value), (∀ b o, G.St b o → b < G.w.heap.size) → vargs.size = args.length → (∀ (j : Nat) v x, vargs[j]? = some v → args[j]? = some x → Rep G v x) →
    Calls P f vargs G.w fun e w' => ∃ v G' r, R r ∧ e = .returned v ∧ G'.w = w' ∧ Below G.w.heap.size G.w w' ∧ (∀ b o, G.St b o → G'.St b o) ∧ (∀ b o, G'.St b o → G.St b o ∨ G.w.heap.size ≤ b) ∧ (∀ b o, G'.St b o → b < w'.heap.size) ∧ Rep G' v r
section
variable {P : Program} {N : Nat} {ops : Array Oper} {o : Oper} {l : List Oper} {F : Frm} {σ : List Ob} {Q : Exit → Frm → List Ob → Prop}
theorem ops_callE {d : Nat} {fo : Operand} {ar : Array Operand} {ts : Array TypeId} {f : FuncId} {caps args : List AV} {R : AV → Prop} (hd : o.dst = some d) (hN : Nat.blt d N = true) (hr : Runs ops F o true) (ho : o.op = .call { callee := .value fo, args := ar, argTypes := ts }) (hf : F.eval fo = .fn f caps) (hp : PureE P f args R)
    (ha : ar.toList.map F.eval ++ caps = args) (k : ∀ r, R r → AOps P N ops l ((d, r) :: F) σ Q) : AOps P N ops (o :: l) F σ Q := fun G a hs => by
  unfold wpList
  rw [if_pos (hr.wanted hs.fr)]
  left
  obtain ⟨cap, h1, h2, h3⟩ := call_args ho (fun y _ => rep_eval hs.fr y) hf
  rw [ha] at h2 h3
  unfold Oper.wp
  rw [call_enter ho a.eval h1 hp.ent G.w, Oper.upon_enter]
  refine (hp.call G _ hs.rel.st h2 h3).mono ?_
  rintro e w' ⟨v, G1, r, hR, rfl, hw, hbel, hs1, hs2, hs3, hrep⟩
  obtain ⟨h4, h5⟩ := after_call hs.rel hw hbel hs1 hs2 hs3
  subst hw
  have h6 : Rep { G with w := G1.w, St := G1.St } v r := hrep.low (hp.lo r hR) (fun _ _ h => h) (fun _ _ _ => rfl) (fun id y h => by omega) (fun h => by omega)
  rw [hd]
  exact wpList_mono (fun e' a w q => lift_mono h4.step (fun _ _ _ x => x) q) _ _ _ (k r hR { G with w := G1.w, St := G1.St } _ ((hs.step h4 h5).put (by simpa [Nat.blt_eq] using hN) h6))
end
section
variable {P : Program} {o : Oper} {F : Frm} {σ : List Ob}
end
end Go.Proofs.Ytmhbfoaecebobaa.Aw
end
section
namespace Go.Proofs.Ytmhbfoaecebobaa.Aw
set_option linter.unusedSimpArgs false
set_option linter.unusedVariables false
open Go Go.Proofs Go.RowKit Go.Maps Go.WideMaps
def tyMap (P : Program) (t : TypeId) : Option (TypeId × TypeId) := match P.underlying t with | some (.map k e) => some (k, e) | _ => none
theorem map_of {P : Program} {t k e : TypeId} (h : tyMap P t = some (k, e)) : P.underlying t = some (.map k e) := by
  unfold tyMap at h
  split at h
  · rename_i h1; cases h; exact h1
  · cases h
def unLit : Lit → Value
  | .int q a => .int q a
  | .bool b => .bool b
  | .string l => .string ⟨l.toArray⟩
  | _ => undef
theorem plain_unlit {P : Program} {e : TypeId} {v : Value} {l : Lit} {ps : List MemPlace} (h : plainElem (H := Unit) P e v = some (.lit l, ps)) : v = unLit l := by
  unfold plainElem at h
  split at h
  · simp at h; obtain ⟨rfl, _⟩ := h; rfl
  · split at h
    · rename_i hq
      simp at h; obtain ⟨rfl, _⟩ := h
      rw [hq.1]; rfl
    · cases h
  · split at h
    · simp at h; obtain ⟨rfl, _⟩ := h
      simp [unLit]
    · cases h
  · cases h
section
variable {P : Program} {o : Oper} {F : Frm} {σ : List Ob} {G : Cx}
theorem map_new (hr : Rel G σ) (Q : Program) (kt el : TypeId) : G.Ext (G.new σ.length (G.w.alloc (.map #[] 0)) (some G.w.heap.size)) ∧ Rel (G.new σ.length (G.w.alloc (.map #[] 0)) (some G.w.heap.size)) (σ ++ [.mp ⟨Q, kt, el, 0, .map []⟩]) := by
  have hold : ∀ k, k < G.w.heap.size → (G.w.alloc (.map #[] 0)).heap[k]? = G.w.heap[k]? := fun k hk => heap_alloc_old (r := k) G.w _ hk
  have hext : G.Ext (G.new σ.length (G.w.alloc (.map #[] 0)) (some G.w.heap.size)) := by
    refine ⟨rfl, rfl, fun _ _ h => h, fun b o h => World.cell?_of_block (hold b (hr.st b o h)), fun id x h => ?_, by simp [Cx.new], fun b cur t f h => ⟨cur, ?_, rfl⟩, fun _ _ h => .inl h⟩
    · have : id ≠ σ.length := by
        intro e2
        rw [e2, hr.fresh _ (Nat.le_refl _)] at h
        cases h
      simp [Cx.new, this, h]
    · exact (hold b (Array.getElem?_eq_some_iff.1 h).1).trans h
  have hble : G.base ≤ G.w.heap.size := by have h1 := hr.le; have h2 := hr.below.size; omega
  refine ⟨hext, hr.below.alloc hble _, hr.le, fun b o hb => ?_, fun id ob hob => ?_, fun i j b hi hj hmi hmj => ?_, fun id hid => ?_⟩
  · have := hr.st b o hb
    simp only [Cx.new, World.size_alloc]; omega
  · by_cases hid : id < σ.length
    · rw [List.getElem?_append_left hid] at hob
      have h1 := hr.obs id ob hob
      have hne : id ≠ σ.length := by omega
      have hm : (G.new σ.length (G.w.alloc (.map #[] 0)) (some G.w.heap.size)).mu id = G.mu id := by simp [Cx.new, hne]
      refine h1.of hm rfl rfl (by simp [Cx.new]) (fun b sz cs f _ _ hx => ?_) (fun b X hb hX _ => ⟨hold b hX.lt, fun j hj => ?_⟩)
      · obtain ⟨cur, t, fr, h2, h3, h4, h5⟩ := hx
        refine ⟨cur, t, fr, (hold b (Array.getElem?_eq_some_iff.1 h2).1).trans h2, h3, h4, fun k x hx => ⟨(h5 k x hx).1, (h5 k x hx).2.1, fun j c hc => ?_⟩⟩
        obtain ⟨v, h6, h7⟩ := (h5 k x hx).2.2 j c hc
        exact ⟨v, h6, h7.ext hext⟩
      · by_cases e2 : j = σ.length
        · subst e2
          have := hX.lt
          simp [Cx.new] at hj
          omega
        · simpa [Cx.new, e2] using hj
    · have hid2 : id = σ.length := by
        have := (List.getElem?_eq_some_iff.1 hob).1
        simp at this; omega
      subst hid2
      simp at hob
      subst hob
      refine ⟨G.w.heap.size, by simp [Cx.new], World.ownsMap_made _ _ _ _, hble, fun o ho => ?_, fun j hj => ?_⟩
      · have := hr.st _ _ ho
        omega
      · by_cases e2 : j = σ.length
        · exact e2
        · exfalso
          have hj2 : G.mu j = some (some G.w.heap.size) := by simpa [Cx.new, e2] using hj
          -- a name of a block that is not there yet
          by_cases hlt : j < σ.length
          · obtain ⟨ob, hob⟩ : ∃ ob, σ[j]? = some ob := ⟨_, List.getElem?_eq_getElem hlt⟩
            have := (hr.obs j ob hob).lt hj2
            omega
          · rw [hr.fresh j (by omega)] at hj2; cases hj2
  · have old : ∀ i b, alive (σ ++ [.mp ⟨Q, kt, el, 0, .map []⟩]) i → (G.new σ.length (G.w.alloc (.map #[] 0)) (some G.w.heap.size)).mu i = some (some b) → alive σ i ∧ G.mu i = some (some b) := by
      rintro i b ⟨sz1, cs1, hi⟩ hm
      by_cases hlt : i < σ.length
      · rw [List.getElem?_append_left hlt] at hi
        exact ⟨⟨sz1, cs1, hi⟩, by simpa [Cx.new, Nat.ne_of_lt hlt] using hm⟩
      · have := (List.getElem?_eq_some_iff.1 hi).1
        simp at this
        have he : i = σ.length := by omega
        subst he
        simp at hi
    exact hr.inj i j b (old i b hi hmi).1 (old j b hj hmj).1 (old i b hi hmi).2 (old j b hj hmj).2
  · simp at hid
    have hne : id ≠ σ.length := by omega
    simp [Cx.new, hne, hr.fresh id (by omega)]
theorem map_put {id b : Nat} {X X' : MapX} {w' : World} (hr : Rel G σ) (hs : σ[id]? = some (.mp X)) (hm : G.mu id = some (some b)) (hg : G.w.grownBy w' (some b)) (hX : X'.At w' b) : G.Ext { G with w := w' } ∧ Rel { G with w := w' } (σ.set id (.mp X')) := by
  have hid : id < σ.length := (List.getElem?_eq_some_iff.1 hs).1
  obtain ⟨b0, h1, h2, h3, h4, h5⟩ := hr.obs id _ hs
  rw [hm] at h1
  cases h1
  obtain ⟨es, cl, hmap⟩ := h2.map
  have hold : ∀ k, k < G.w.heap.size → k ≠ b → w'.heap[k]? = G.w.heap[k]? := fun k hk hne => hg.block k hk (fun e => hne (by injection e))
  have hcells : ∀ (k : Nat) (cur : Array Value) (t : TypeId) (f : Nat × Nat), G.w.heap[k]? = some (.cells cur t f) → w'.heap[k]? = some (.cells cur t f) := fun k cur t f h => by
    rw [hold k (Array.getElem?_eq_some_iff.1 h).1 (fun e => by subst e; rw [hmap] at h; cases h)]
    exact h
  have hext : G.Ext { G with w := w' } := by
    refine ⟨rfl, rfl, fun _ _ h => h, fun k o h => World.cell?_of_block (hold k (hr.st k o h) (fun e => h4 o (e ▸ h))), fun _ _ h => h, hg.size, fun k cur t f h => ⟨cur, hcells k cur t f h, rfl⟩, fun _ _ h => .inl h⟩
  have hble : G.base ≤ G.w.heap.size := by have h1 := hr.le; have h2 := hr.below.size; omega
  refine ⟨hext, hr.below.trans ⟨hg.os, hg.tape, hg.output, hg.size, fun k hk => hold k (by omega) (by omega)⟩, hr.le, fun k o h => Nat.lt_of_lt_of_le (hr.st k o h) hg.size, fun i ob hob => ?_, fun i j k hi hj hmi hmj => ?_, fun i hi => hr.fresh i (by simpa using hi)⟩
  · by_cases hi : id = i
    · subst hi
      rw [List.getElem?_set_self hid] at hob
      cases hob
      exact ⟨b, hm, hX, h3, h4, h5⟩
    · rw [List.getElem?_set_ne hi] at hob
      refine (hr.obs i ob hob).of rfl rfl rfl hg.size (fun k sz cs f _ _ hx => ?_) (fun k Y hk hY _ => ⟨hold k hY.lt (fun e => ?_), fun j hj => hj⟩)
      · obtain ⟨cur, t, fr, g2, g3, g4, g5⟩ := hx
        refine ⟨cur, t, fr, hcells k cur t fr g2, g3, g4, fun q x hx => ⟨(g5 q x hx).1, (g5 q x hx).2.1, fun j c hc => ?_⟩⟩
        obtain ⟨v, h6, h7⟩ := (g5 q x hx).2.2 j c hc
        exact ⟨v, h6, h7.ext hext⟩
      · subst e
        exact hi (h5 i hk).symm
  · have old : ∀ i, alive (σ.set id (.mp X')) i → alive σ i := by
      rintro i ⟨sz1, cs1, hi⟩
      by_cases h2 : id = i
      · subst h2; rw [List.getElem?_set_self hid] at hi; cases hi
      · rw [List.getElem?_set_ne h2] at hi; exact ⟨sz1, cs1, hi⟩
    exact hr.inj i j k (old i hi) (old j hj) hmi hmj
theorem does_mkmap {t kt el : TypeId} (ho : o.op = .makeMap t none) (ht : tyMap P t = some (kt, el)) : Does P o F σ (.mp σ.length) (σ ++ [.mp ⟨P, kt, el, 0, .map []⟩]) :=
  does_new (x := .any) fun G ρ hr hop => by
    obtain ⟨h1, h2⟩ := map_new hr P kt el
    refine ⟨.map (some G.w.heap.size), _, ?_, h1, h2, .mp _ _ (by simp [Cx.new])⟩
    simp only [execOp, ho, Option.map_none, Sem.run_bind, run_makeMap, Result.andThen_ok, Sem.run_pure, Cx.new]
theorem does_mapput {t kt el : TypeId} {m x y : Operand} {id : Nat} {X : MapX} {key val : Value} {kl dl : Lit} (ho : o.op = .mapUpdate t m x y ∨ o.op = .insert t m x y) (ht : tyMap P t = some (kt, el)) (K : Keyed P kt) (hm : F.eval m = .mp id) (hs : σ[id]? = some (.mp X)) (hX : X.P = P ∧ X.kt = kt ∧ X.el = el) (hn : X.n < maxLen)
    (hx : F.eval x = .s key) (hy : F.eval y = .s val) (hkey : keyOf P kt key = some kl) (hv : plainElem (H := Unit) P el val = some (.lit dl, [])) : Does P o F σ .any (σ.set id (.mp { X with n := X.n + 1, D := X.D.put kl (.lit dl) })) :=
  does_eff fun G ρ hr hop => by
    have g1 := hop m (by rcases ho with ho | ho <;> simp [ho, Op.operands])
    have g2 := hop x (by rcases ho with ho | ho <;> simp [ho, Op.operands])
    have g3 := hop y (by rcases ho with ho | ho <;> simp [ho, Op.operands])
    rw [hm] at g1
    rw [hx] at g2
    rw [hy] at g3
    have e2 := rep_s g2
    have e3 := rep_s g3
    generalize hu : ρ m = u at g1
    cases g1 with
    | mp _ b hmu =>
      obtain ⟨b0, h1, h2, h3, h4, h5⟩ := hr.obs id _ hs
      rw [hmu] at h1
      cases h1
      obtain ⟨XP, Xk, Xe, Xn, XD⟩ := X
      obtain ⟨rfl, rfl, rfl⟩ := hX
      obtain ⟨w', hrun, k1, k2⟩ := World.ownsMap.update h2 K (map_of ht) hn hkey hv
      obtain ⟨q1, q2⟩ := map_put (X' := ⟨XP, Xk, Xe, Xn + 1, XD.put kl (.lit dl)⟩) hr hs hmu k2 k1
      refine ⟨{ G with w := w' }, ?_, q1, q2⟩
      rcases ho with ho | ho <;> simp [execOp, ho, hu, e2, e3, hrun, Result.andThen]
theorem does_lookup {t kt el : TypeId} {m x : Operand} {id : Nat} {X : MapX} {key z : Value} {kl zl rl : Lit} {n bt : Nat} (ho : o.op = .lookup t m x false) (ht : tyMap P t = some (kt, el)) (K : Keyed P kt) (hm : F.eval m = .mp id) (hs : σ[id]? = some (.mp X)) (hX : X.P = P ∧ X.kt = kt ∧ X.el = el)
    (hx : F.eval x = .s key) (hkey : keyOf P kt key = some kl) (hi : tyInfo P el = some (some z, n, bt)) (hz : plainElem (H := Unit) P el z = some (.lit zl, [])) (hr : X.D.atKey kl (.lit zl) = .lit rl) : Does P o F σ (.s (unLit rl)) σ :=
  does_val fun G ρ hrel hop => by
    have g1 := hop m (by simp [ho, Op.operands])
    have g2 := hop x (by simp [ho, Op.operands])
    rw [hm] at g1
    rw [hx] at g2
    have e2 := rep_s g2
    generalize hu : ρ m = u at g1
    cases g1 with
    | mp _ b hmu =>
      obtain ⟨b0, h1, h2, h3, h4, h5⟩ := hrel.obs id _ hs
      rw [hmu] at h1
      cases h1
      obtain ⟨XP, Xk, Xe, Xn, XD⟩ := X
      obtain ⟨rfl, rfl, rfl⟩ := hX
      obtain ⟨i, k1, k2, k3, k4⟩ := info_of hi
      have hzero : (zeroValue Xe).run XP G.w = .ok z G.w := by simp [zeroValue, typeInfo, k1, k2]
      obtain ⟨v, ps, hrun, hv⟩ := World.ownsMap.lookup h2 K (map_of ht) hzero hz hkey
      have hr' : XD.atKey kl (.lit zl) = .lit rl := hr
      rw [hr'] at hv
      have := plain_unlit hv
      subst this
      refine ⟨_, ?_, .s _⟩
      simp [execOp, ho, hu, e2, hrun, Result.andThen]
end
end Go.Proofs.Ytmhbfoaecebobaa.Aw
end
section
namespace Go.Proofs.Ytmhbfoaecebobaa.Aw
set_option linter.unusedSimpArgs false
set_option linter.unusedVariables false
open Go Go.Proofs Go.RowKit
structure PureO (P : Program) (f : FuncId) (args : List AV) (sz : Nat) (cs : List AV) : Prop where
  ent : Enters P f
  call : ∀ (G : Cx) (vargs : Array Value), (∀ b o, G.St b o → b < G.w.heap.size) → vargs.size = args.length → (∀ (j : Nat) v x, vargs[j]? = some v → args[j]? = some x → Rep G v x) →
    Calls P f vargs G.w fun e w' => ∃ v, e = .returned v ∧ Below G.w.heap.size G.w w' ∧ ((v = .slice none 0 0 ∧ cs = []) ∨ ∃ (b cap : Nat) (cur : Array Value) (te : TypeId), v = .slice (some ⟨b, 0, none⟩) cs.length cap ∧ G.w.heap.size ≤ b ∧ w'.heap[b]? = some (.cells cur te (0, 0)) ∧ cur.size = cap * sz ∧ cs.length ≤ cap ∧ cap ≤ maxLen ∧
      ∀ (k : Nat) e, cs[k]? = some e → e.cells.length = sz ∧ ∀ (j : Nat) c, e.cells[j]? = some c → ∃ u, cur[k * sz + j]? = some u ∧ c = .s u ∧ u.oneCell' = true)
section
variable {P : Program} {o : Oper} {F : Frm} {σ : List Ob} {G : Cx}
theorem adopt {b sz : Nat} {cs : List AV} {cur : Array Value} {te : TypeId} (hr : Rel G σ) (hb : G.w.heap[b]? = some (.cells cur te (0, 0))) (hbase : G.base ≤ b) (hst : ∀ o, ¬ G.St b o) (hmu : ∀ j, G.mu j ≠ some (some b)) (hn : cs.length * sz ≤ cur.size)
    (h : ∀ (k : Nat) x, cs[k]? = some x → x.cells.length = sz ∧ (∀ c ∈ x.cells, c.one = true) ∧ ∀ (j : Nat) c, x.cells[j]? = some c → ∃ v, cur[k * sz + j]? = some v ∧ Rep G v c) :
    G.Ext (G.new σ.length G.w (some b)) ∧ Rel (G.new σ.length G.w (some b)) (σ ++ [.row sz cs]) := by
  have hext : G.Ext (G.new σ.length G.w (some b)) := by
    refine ⟨rfl, rfl, fun _ _ h => h, fun _ _ _ => rfl, fun id x h => ?_, Nat.le_refl _, RowsKept.refl _, fun _ _ h => .inl h⟩
    have : id ≠ σ.length := by
      intro e2
      rw [e2, hr.fresh _ (Nat.le_refl _)] at h
      cases h
    simp [Cx.new, this, h]
  refine ⟨hext, hr.below, hr.le, hr.st, fun id ob hob => ?_, fun i j b' hi hj hmi hmj => ?_, fun id hid => ?_⟩
  · by_cases hid : id < σ.length
    · rw [List.getElem?_append_left hid] at hob
      have h1 := hr.obs id ob hob
      have hm : (G.new σ.length G.w (some b)).mu id = G.mu id := by simp [Cx.new, Nat.ne_of_lt hid]
      exact h1.of hm rfl rfl (Nat.le_refl _) (fun b sz cs f _ _ hx => hx.ext hext rfl) (fun b' X hb' hX _ => ⟨rfl, fun j hj => by
        by_cases e2 : j = σ.length
        · subst e2
          simp [Cx.new] at hj
          subst hj
          obtain ⟨es, cl, h5⟩ := hX.map
          rw [hb] at h5; cases h5
        · simpa [Cx.new, e2] using hj⟩)
    · have hid2 : id = σ.length := by
        have := (List.getElem?_eq_some_iff.1 hob).1
        simp at this; omega
      subst hid2
      simp at hob
      subst hob
      have hm3 : (G.new σ.length G.w (some b)).mu σ.length = some (some b) := by simp [Cx.new]
      simp only [ObOk, hm3]
      refine ⟨⟨cur, te, (0, 0), hb, rfl, hn, fun k x hx => ⟨(h k x hx).1, (h k x hx).2.1, fun j c hc => ?_⟩⟩, hbase, hst⟩
      obtain ⟨v, h6, h7⟩ := (h k x hx).2.2 j c hc
      exact ⟨v, h6, h7.ext hext⟩
  · have old : ∀ i b', alive (σ ++ [.row sz cs]) i → (G.new σ.length G.w (some b)).mu i = some (some b') → (i = σ.length ∧ b = b') ∨ (i < σ.length ∧ alive σ i ∧ G.mu i = some (some b')) := by
      rintro i b' ⟨sz1, cs1, hi⟩ hmi
      by_cases hlt : i < σ.length
      · right
        rw [List.getElem?_append_left hlt] at hi
        exact ⟨hlt, ⟨sz1, cs1, hi⟩, by simpa [Cx.new, Nat.ne_of_lt hlt] using hmi⟩
      · left
        have := (List.getElem?_eq_some_iff.1 hi).1
        simp at this
        have he : i = σ.length := by omega
        subst he
        simp [Cx.new] at hmi
        exact ⟨rfl, hmi⟩
    rcases old i b' hi hmi with ⟨rfl, h1⟩ | ⟨h1, h3, h4⟩ <;> rcases old j b' hj hmj with ⟨rfl, g1⟩ | ⟨g1, g3, g4⟩
    · rfl
    · exact absurd (h1 ▸ g4) (hmu j)
    · exact absurd (g1 ▸ h4) (hmu i)
    · exact hr.inj i j b' h3 g3 h4 g4
  · simp at hid
    have hne : id ≠ σ.length := by omega
    simp [Cx.new, hne, hr.fresh id (by omega)]
theorem does_callO {fo : Operand} {ar : Array Operand} {ts : Array TypeId} {f : FuncId} {caps args : List AV} {sz : Nat} {cs : List AV} (ho : o.op = .call { callee := .value fo, args := ar, argTypes := ts }) (hf : F.eval fo = .fn f caps) (hp : PureO P f args sz cs) (ha : ar.toList.map F.eval ++ caps = args) : Does P o F σ (.own σ.length sz cs.length) (σ ++ [.row sz cs]) := by
  intro G a next Q hr hop hn
  obtain ⟨cap, h1, h2, h3⟩ := call_args ho hop hf
  rw [ha] at h2 h3
  unfold Oper.wp
  rw [call_enter ho a.eval h1 hp.ent G.w, Oper.upon_enter]
  refine (hp.call G _ hr.st h2 h3).mono ?_
  rintro e w' ⟨v, rfl, hbel, hres⟩
  obtain ⟨h4, h5⟩ := after_call (G1 := { G with w := w' }) hr rfl hbel (fun _ _ h => h) (fun _ _ h => .inl h) (fun b o h => Nat.lt_of_lt_of_le (hr.st b o h) hbel.size)
  rcases hres with ⟨rfl, rfl⟩ | ⟨b, cp, cur, te, rfl, g1, g2, g3, g4, g5, g6⟩
  · have k1 := nil_ext h5
    have k2 := nil_rel h5 sz
    exact hn _ _ (h4.trans k1) k2 (.own0 σ.length sz none (fun a ha => by cases ha) (by simp [Cx.new]))
  · have hble : G.base ≤ G.w.heap.size := by have h1 := hr.le; have h2 := hr.below.size; omega
    have hnm : ∀ j, G.mu j ≠ some (some b) := fun j hj => by
      by_cases hlt : j < σ.length
      · have := (hr.obs j _ (List.getElem?_eq_getElem hlt)).lt hj
        omega
      · rw [hr.fresh j (by omega)] at hj; cases hj
    obtain ⟨k1, k2⟩ := adopt (cs := cs) (sz := sz) h5 g2 (Nat.le_trans hble g1) (fun o h => by have := hr.st b o h; omega) hnm (by rw [g3]; exact Nat.mul_le_mul_right _ g4) (fun k x hx => by
      obtain ⟨q1, q2⟩ := g6 k x hx
      refine ⟨q1, fun c hc => ?_, fun j c hc => ?_⟩
      · obtain ⟨j, hj, rfl⟩ := List.mem_iff_getElem.1 hc
        obtain ⟨u, _, e1, e2⟩ := q2 j _ (List.getElem?_eq_getElem hj)
        rw [e1]; exact e2
      · obtain ⟨u, e0, e1, e2⟩ := q2 j c hc
        subst e1
        exact ⟨u, e0, .s u⟩)
    exact hn _ _ (h4.trans k1) k2 (.own σ.length sz cs.length b cp (by simp [Cx.new]) g4 g5 ⟨cur, te, (0, 0), g2, g3⟩)
theorem rep_sliced {A : Option Addr} {cap l h s : Nat} {L : List AV} (hr : Rep G (.slice A L.length cap) (.sl L)) (hlh : l ≤ h) (hh : h ≤ L.length) (hs : ∀ e ∈ L, e.cells.length = s) : Rep G (sliced A l h cap s) (.sl ((L.take h).drop l)) := by
  have hlen : ((L.take h).drop l).length = h - l := by simp; omega
  generalize hn : L.length = n at hr
  cases hr with
  | slnil =>
    simp at hn hh
    obtain rfl : l = 0 := by omega
    subst hh
    simp only [sliced, List.take_nil, List.drop_nil]
    exact .slnil _ _
  | sl b o _ sz _ val hc hm h1 h2 h3 =>
    by_cases hml : cap = l
    · have e : h = l := by omega
      subst e
      have : (L.take h).drop h = [] := List.eq_nil_of_length_eq_zero (by rw [hlen]; omega)
      rw [this]
      simp only [sliced, Nat.sub_self]
      exact .slnil _ _
    · by_cases he : h = l
      · subst he
        have : (L.take h).drop h = [] := List.eq_nil_of_length_eq_zero (by rw [hlen]; omega)
        rw [this]
        simp only [sliced, Nat.sub_self]
        exact .slnil _ _
      · have hsz : s = sz := by
          have h0 : 0 < L.length := by omega
          rw [← (h1 0 _ (List.getElem?_eq_getElem h0)).1, hs _ (List.getElem_mem h0)]
        subst hsz
        have hget : ∀ (k : Nat) e, ((L.take h).drop l)[k]? = some e → L[k + l]? = some e := by
          intro k e hk
          rw [List.getElem?_drop, List.getElem?_take] at hk
          split at hk
          · rw [Nat.add_comm]; exact hk
          · cases hk
        have hidx : ∀ k j, o + l * s + k * s + j = o + (k + l) * s + j := fun k j => by rw [Nat.add_mul]; omega
        simp only [sliced, if_neg hml, Option.map_some]
        have := Rep.sl (G := G) b (o + l * s) (cap - l) s ((L.take h).drop l) (fun k j => val (k + l) j) (by rw [hlen]; omega) (by rw [hlen]; omega) (fun k e hk => h1 _ e (hget k e hk)) (fun k e j c hk hc => by rw [hidx]; exact h2 _ e j c (hget k e hk) hc) (fun k e j c hk hc => h3 _ e j c (hget k e hk) hc)
        rw [hlen] at this
        simp only [Addr.add]
        split
        · rename_i h0
          rw [h0, Nat.add_zero] at this
          exact this
        · exact this
theorem elem_of {P : Program} {t e : TypeId} (h : tySlice P t = some e) : P.elem t = e ∧ P.underlying t = some (.slice (P.elem t)) := by
  have h1 := slice_of h
  have : P.elem t = e := by simp [Program.elem, h1]
  exact ⟨this, by rw [this]; exact h1⟩
theorem does_slice_l {t e : TypeId} {x y : Operand} {z : Option Value} {n bt : Nat} {L : List AV} {k : IntKind} {i : Int} {l : Nat} (ho : o.op = .slice t x (some y) none none) (ht : tySlice P t = some e) (hi : tyInfo P e = some (z, n, bt)) (hx : F.eval x = .sl L) (hy : F.eval y = .s (.int k i)) (hk : i = (l : Int)) (hl : l ≤ L.length) (hs : ∀ e ∈ L, e.cells.length = n) : Does P o F σ (.sl (L.drop l)) σ :=
  does_val fun G ρ hr hop => by
    have g1 := hop x (by simp [ho, Op.operands])
    have g2 := hop y (by simp [ho, Op.operands])
    rw [hx] at g1
    rw [hy] at g2
    have e2 := rep_s g2
    obtain ⟨q1, q2⟩ := elem_of ht
    obtain ⟨A, cap, hv⟩ : ∃ A cap, ρ x = .slice A L.length cap := by
      generalize ρ x = u at g1
      cases g1 with
      | slnil A c => exact ⟨_, _, rfl⟩
      | sl b o c sz _ val hc hm h1 h2 h => exact ⟨_, _, rfl⟩
    rw [hv] at g1
    have h1 := rep_sliced (s := n) g1 hl (Nat.le_refl _) hs
    rw [List.take_length] at h1
    refine ⟨_, ?_, h1⟩
    subst hk
    have h2 := run_slice_l (P := P) G.w t A L.length cap q2 k (l : Int) (by omega) (by omega)
    simp only [execOp, ho, Option.map_some, Option.map_none, hv, e2, Sem.run_bind, run_sliceAt_slice (P := P) G.w t _ _ _ _ q2, h2, q1, run_sizeOf hi, Result.andThen_ok, Sem.run_pure, Int.toNat_natCast]
end
end Go.Proofs.Ytmhbfoaecebobaa.Aw
end
section
namespace Go.Proofs.Ytmhbfoaecebobaa.Aw
open Go Go.Proofs
class IsP (P : Program) : Prop where
  eq : P = Try.prog
instance : IsP Try.prog := ⟨rfl⟩
variable {P : Program} [IsP P]
theorem hmix : P.follows .mixedOrders = true := by rw [IsP.eq (P := P)]; kernel_rfl
theorem ti3 : tyInfo P 3 = some (some (.int .i64 0), 1, 8) := by rw [IsP.eq (P := P)]; kernel_rfl
theorem ta3 : tyAgg P 3 = some false := by rw [IsP.eq (P := P)]; kernel_rfl
theorem tu3 : (P.underlying 3).isSome = true := by rw [IsP.eq (P := P)]; kernel_rfl
theorem ti4 : tyInfo P 4 = some (some (.bool false), 1, 1) := by rw [IsP.eq (P := P)]; kernel_rfl
theorem ta4 : tyAgg P 4 = some false := by rw [IsP.eq (P := P)]; kernel_rfl
theorem ti5 : tyInfo P 5 = some (some (.int .u8 0), 1, 1) := by rw [IsP.eq (P := P)]; kernel_rfl
theorem tk5 : tyInt P 5 = some .u8 := by rw [IsP.eq (P := P)]; kernel_rfl
theorem ti9 : tyInfo P 9 = some (some (.string ⟨#[]⟩), 1, 16) := by rw [IsP.eq (P := P)]; kernel_rfl
theorem ta9 : tyAgg P 9 = some false := by rw [IsP.eq (P := P)]; kernel_rfl
theorem tg9 : tyString P 9 = true := by rw [IsP.eq (P := P)]; kernel_rfl
theorem ti22 : tyInfo P 22 = some (some (.slice none 0 0), 1, 24) := by rw [IsP.eq (P := P)]; kernel_rfl
theorem ta22 : tyAgg P 22 = some false := by rw [IsP.eq (P := P)]; kernel_rfl
theorem ts22 : tySlice P 22 = some 46 := by rw [IsP.eq (P := P)]; kernel_rfl
theorem ti24 : tyInfo P 24 = some (some (.agg #[.int .i64 0, .slice none 0 0, .int .i64 0, .int .i64 0]), 4, 48) := by rw [IsP.eq (P := P)]; kernel_rfl
theorem ta24 : tyAgg P 24 = some true := by rw [IsP.eq (P := P)]; kernel_rfl
theorem tf24_0 : tyField P 24 0 = some (0, 3, some 1) := by rw [IsP.eq (P := P)]; kernel_rfl
theorem tf24_1 : tyField P 24 1 = some (1, 22, some 1) := by rw [IsP.eq (P := P)]; kernel_rfl
theorem tf24_2 : tyField P 24 2 = some (2, 3, some 1) := by rw [IsP.eq (P := P)]; kernel_rfl
theorem tf24_3 : tyField P 24 3 = some (3, 3, some 1) := by rw [IsP.eq (P := P)]; kernel_rfl
theorem tp24 : tyPlaces P 24 = some [(0, 1), (1, 1), (2, 1), (3, 1)] := by rw [IsP.eq (P := P)]; kernel_rfl
theorem ta25 : tyAgg P 25 = some false := by rw [IsP.eq (P := P)]; kernel_rfl
theorem ts25 : tySlice P 25 = some 9 := by rw [IsP.eq (P := P)]; kernel_rfl
theorem ti30 : tyInfo P 30 = some (some (.slice none 0 0), 1, 24) := by rw [IsP.eq (P := P)]; kernel_rfl
theorem ta30 : tyAgg P 30 = some false := by rw [IsP.eq (P := P)]; kernel_rfl
theorem ts30 : tySlice P 30 = some 3 := by rw [IsP.eq (P := P)]; kernel_rfl
theorem ti46 : tyInfo P 46 = some (some (.agg #[.string ⟨#[]⟩, .slice none 0 0, .slice none 0 0]), 3, 64) := by rw [IsP.eq (P := P)]; kernel_rfl
theorem ta46 : tyAgg P 46 = some true := by rw [IsP.eq (P := P)]; kernel_rfl
theorem tf46_0 : tyField P 46 0 = some (0, 9, some 1) := by rw [IsP.eq (P := P)]; kernel_rfl
theorem tf46_1 : tyField P 46 1 = some (1, 30, some 1) := by rw [IsP.eq (P := P)]; kernel_rfl
theorem tf46_2 : tyField P 46 2 = some (2, 30, some 1) := by rw [IsP.eq (P := P)]; kernel_rfl
theorem tp46 : tyPlaces P 46 = some [(0, 1), (1, 1), (2, 1)] := by rw [IsP.eq (P := P)]; kernel_rfl
theorem ti86 : tyInfo P 86 = some (some (.agg #[.int .i64 0, .slice none 0 0, .slice none 0 0]), 3, 56) := by rw [IsP.eq (P := P)]; kernel_rfl
theorem ta86 : tyAgg P 86 = some true := by rw [IsP.eq (P := P)]; kernel_rfl
theorem tf86_0 : tyField P 86 0 = some (0, 3, some 1) := by rw [IsP.eq (P := P)]; kernel_rfl
theorem tf86_1 : tyField P 86 1 = some (1, 30, some 1) := by rw [IsP.eq (P := P)]; kernel_rfl
theorem tf86_2 : tyField P 86 2 = some (2, 30, some 1) := by rw [IsP.eq (P := P)]; kernel_rfl
theorem tp86 : tyPlaces P 86 = some [(0, 1), (1, 1), (2, 1)] := by rw [IsP.eq (P := P)]; kernel_rfl
theorem ts88 : tySlice P 88 = some 86 := by rw [IsP.eq (P := P)]; kernel_rfl
theorem tm90 : tyMap P 90 = some (9, 4) := by rw [IsP.eq (P := P)]; kernel_rfl
theorem tn9 : P.underlying 9 = some .string := by rw [IsP.eq (P := P)]; kernel_rfl
theorem tn4 : P.underlying 4 = some .bool := by rw [IsP.eq (P := P)]; kernel_rfl
theorem tK9 : Go.Maps.Keyed P 9 := Go.Maps.string_keyed tn9
theorem ti101 : tyInfo P 101 = some (some (.slice none 0 0), 1, 24) := by rw [IsP.eq (P := P)]; kernel_rfl
theorem ta101 : tyAgg P 101 = some false := by rw [IsP.eq (P := P)]; kernel_rfl
theorem ts101 : tySlice P 101 = some 30 := by rw [IsP.eq (P := P)]; kernel_rfl
theorem ti102 : tyInfo P 102 = some (some (.slice none 0 0), 1, 24) := by rw [IsP.eq (P := P)]; kernel_rfl
theorem ta102 : tyAgg P 102 = some false := by rw [IsP.eq (P := P)]; kernel_rfl
theorem ts102 : tySlice P 102 = some 146 := by rw [IsP.eq (P := P)]; kernel_rfl
theorem ti104 : tyInfo P 104 = some (some (.agg #[.slice none 0 0, .slice none 0 0, .bool false]), 3, 56) := by rw [IsP.eq (P := P)]; kernel_rfl
theorem ta104 : tyAgg P 104 = some true := by rw [IsP.eq (P := P)]; kernel_rfl
theorem tf104_0 : tyField P 104 0 = some (0, 101, some 1) := by rw [IsP.eq (P := P)]; kernel_rfl
theorem tf104_1 : tyField P 104 1 = some (1, 102, some 1) := by rw [IsP.eq (P := P)]; kernel_rfl
theorem tf104_2 : tyField P 104 2 = some (2, 4, some 1) := by rw [IsP.eq (P := P)]; kernel_rfl
theorem tp104 : tyPlaces P 104 = some [(0, 1), (1, 1), (2, 1)] := by rw [IsP.eq (P := P)]; kernel_rfl
theorem ts109 : tySlice P 109 = some 4 := by rw [IsP.eq (P := P)]; kernel_rfl
theorem ta112 : tyAgg P 112 = some false := by rw [IsP.eq (P := P)]; kernel_rfl
theorem ts112 : tySlice P 112 = some 102 := by rw [IsP.eq (P := P)]; kernel_rfl
theorem ti114 : tyInfo P 114 = some (some (.agg #[.int .i64 0, .slice none 0 0, .int .i64 0, .int .i64 0, .slice none 0 0, .slice none 0 0, .bool false, .slice none 0 0, .int .i64 0]), 9, 136) := by rw [IsP.eq (P := P)]; kernel_rfl
theorem tf114_0 : tyField P 114 0 = some (0, 24, some 4) := by rw [IsP.eq (P := P)]; kernel_rfl
theorem tf114_1 : tyField P 114 1 = some (4, 104, some 3) := by rw [IsP.eq (P := P)]; kernel_rfl
theorem tf114_2 : tyField P 114 2 = some (7, 112, some 1) := by rw [IsP.eq (P := P)]; kernel_rfl
theorem tf114_3 : tyField P 114 3 = some (8, 3, some 1) := by rw [IsP.eq (P := P)]; kernel_rfl
theorem tp114 : tyPlaces P 114 = some [(0, 4), (4, 3), (7, 1), (8, 1)] := by rw [IsP.eq (P := P)]; kernel_rfl
theorem ts134 : tySlice P 134 = some 5 := by rw [IsP.eq (P := P)]; kernel_rfl
theorem ti146 : tyInfo P 146 = some (some (.agg #[.int .i64 0, .int .i64 0, .int .i64 0]), 3, 24) := by rw [IsP.eq (P := P)]; kernel_rfl
theorem ta146 : tyAgg P 146 = some true := by rw [IsP.eq (P := P)]; kernel_rfl
theorem tf146_0 : tyField P 146 0 = some (0, 3, some 1) := by rw [IsP.eq (P := P)]; kernel_rfl
theorem tf146_1 : tyField P 146 1 = some (1, 3, some 1) := by rw [IsP.eq (P := P)]; kernel_rfl
theorem tf146_2 : tyField P 146 2 = some (2, 3, some 1) := by rw [IsP.eq (P := P)]; kernel_rfl
theorem tp146 : tyPlaces P 146 = some [(0, 1), (1, 1), (2, 1)] := by rw [IsP.eq (P := P)]; kernel_rfl
theorem tm156 : tyMap P 156 = some (9, 3) := by rw [IsP.eq (P := P)]; kernel_rfl
theorem tn3 : P.underlying 3 = some (.int .i64) := by rw [IsP.eq (P := P)]; kernel_rfl
end Go.Proofs.Ytmhbfoaecebobaa.Aw
end
