/-
  Texts joined: AwI, AwJ, AwK, AwR, AwS, AwU, EvA, EvB. Conditions: none.
-/
import Derived.Test.YtanfaepjamkbjaaGreatJC3
import Derived.Test.YtanfaepjamkbjaaGreatJC1
import Derived.StringKeys
import Derived.Maps.Keyed
import Derived.Carry
section
namespace Go.Proofs.YtanfaepjamkbjaaGreat.Aw
set_option linter.unusedSimpArgs false
set_option linter.unusedVariables false
open Go.RowKit

section
variable {N : Nat} {F F' : Frm} {σ σ' : List Ob}

/-- a row is finished: it is never written again -/
def Cx.froz (G : Cx) (id : Nat) : Cx := { G with St := fun b o => G.St b o ∨ G.mu id = some (some b) }
theorem froz_ok {G : Cx} {id sz : Nat} {cs : List AV} (hr : Rel G σ) (hs : σ[id]? = some (.row sz cs)) : G.Ext (G.froz id) ∧ Rel (G.froz id) (σ.set id (.fz sz cs)) := by
  have h0 := hr.obs id _ hs
  have hid : id < σ.length := (List.getElem?_eq_some_iff.1 hs).1
  have hbb : ∀ b, G.mu id = some (some b) → G.base ≤ b ∧ b < G.w.heap.size ∧ ∀ o, ¬ G.St b o := by
    intro b hb
    simp only [ObOk, hb] at h0
    obtain ⟨⟨cur, t, fr, h1, _⟩, h2, h3⟩ := h0
    exact ⟨h2, (Array.getElem?_eq_some_iff.1 h1).1, h3⟩
  have hext : G.Ext (G.froz id) := ⟨rfl, rfl, fun _ _ h => .inl h, fun _ _ _ => rfl, fun _ _ h => h, Nat.le_refl _, RowsKept.refl _, fun b o h => h.imp (fun h => h) (fun h => (hbb b h).1)⟩
  refine ⟨hext, hr.below, hr.le, fun b o h => ?_, fun i ob hob => ?_, fun i j b hi hj hm hm' => ?_, fun i hi => hr.fresh i (by simpa using hi)⟩
  · rcases h with h | h
    · exact hr.st b o h
    · exact (hbb b h).2.1
  · have rowx : ∀ b sz cs f, RowAt G b sz cs f → RowAt (G.froz id) b sz cs f := fun b sz cs f h => h.ext hext rfl
    by_cases hi : id = i
    · subst hi
      rw [List.getElem?_set_self hid] at hob
      cases hob
      simp only [ObOk] at h0 ⊢
      show match G.mu id with | none => False | some none => cs = [] | some (some b) => _
      cases hx : G.mu id with
      | none => rw [hx] at h0; exact h0
      | some x =>
        rw [hx] at h0
        cases x with
        | none => exact h0
        | some b =>
          obtain ⟨cur, t, fr, h1, h2, h3⟩ := rowx _ _ _ _ h0.1
          exact ⟨⟨cur, t, fr, h1, trivial, h3⟩, fun k e j _ _ => .inr hx⟩
    · rw [List.getElem?_set_ne hi] at hob
      have h1 := hr.obs i ob hob
      cases ob with
      | dead => exact h1
      | row sz2 cs2 =>
        simp only [ObOk] at h1 ⊢
        show match G.mu i with | none => False | some none => cs2 = [] | some (some b) => _
        cases hx : G.mu i with
        | none => rw [hx] at h1; exact h1
        | some x =>
          rw [hx] at h1
          cases x with
          | none => exact h1
          | some b =>
            refine ⟨rowx _ _ _ _ h1.1, h1.2.1, fun o ho => ?_⟩
            rcases ho with ho | ho
            · exact h1.2.2 o ho
            · exact hi (hr.inj id i b ⟨sz, cs, hs⟩ ⟨sz2, cs2, hob⟩ ho hx)
      | fz sz2 cs2 =>
        simp only [ObOk] at h1 ⊢
        show match G.mu i with | none => False | some none => cs2 = [] | some (some b) => _
        cases hx : G.mu i with
        | none => rw [hx] at h1; exact h1
        | some x =>
          rw [hx] at h1
          cases x with
          | none => exact h1
          | some b => exact ⟨rowx _ _ _ _ h1.1, fun k e j he hj => .inl (h1.2 k e j he hj)⟩
      | mp X =>
        obtain ⟨b, g1, g2, g3, g4, g5⟩ := h1
        exact ⟨b, g1, g2, g3, fun o ho => by
          rcases ho with ho | ho
          · exact g4 o ho
          · exact hi (g5 id ho), g5⟩
  · have old : ∀ i, alive (σ.set id (.fz sz cs)) i → alive σ i := by
      rintro i ⟨sz1, cs1, hi⟩
      by_cases h2 : id = i
      · subst h2; rw [List.getElem?_set_self hid] at hi; cases hi
      · rw [List.getElem?_set_ne h2] at hi; exact ⟨sz1, cs1, hi⟩
    exact hr.inj i j b (old i hi) (old j hj) hm hm'
theorem wk_froz {id sz : Nat} {cs : List AV} (hs : σ[id]? = some (.row sz cs)) : Weak N F σ F (σ.set id (.fz sz cs)) := fun G a h => by
  obtain ⟨h1, h2⟩ := froz_ok h.rel hs
  exact ⟨G.froz id, rfl, h1.step, h.step h1 h2⟩

/-- a finished row read ar a value -/
theorem rep_fz {G : Cx} {id sz : Nat} {cs : List AV} {v : Value} (hr : Rel G σ) (hs : σ[id]? = some (.fz sz cs)) {n : Nat} (hn : n = cs.length) (hv : Rep G v (.own id sz n)) : Rep G v (.sl cs) := by
  have h0 := hr.obs id _ hs
  cases hv with
  | own0 _ _ A hA hm =>
    simp only [ObOk, hm] at h0
    subst h0
    exact .slnil A 0
  | own _ _ _ b cap hm hn2 hc hb =>
    simp only [ObOk, hm] at h0
    obtain ⟨⟨cur, t, fr, h1, _, h3, h4⟩, h5⟩ := h0
    subst hn
    refine .sl b 0 cap sz cs (fun k j => cur.getD (k * sz + j) undef) hn2 (Nat.le_trans hn2 hc) (fun k e he => ⟨(h4 k e he).1, (h4 k e he).2.1⟩) (fun k e j c he hc => ?_) (fun k e j c he hc => ?_)
    · obtain ⟨u, h6, h7⟩ := (h4 k e he).2.2 j c hc
      refine ⟨by rw [Nat.zero_add]; exact h5 k e j he (List.getElem?_eq_some_iff.1 hc).1, ?_⟩
      rw [Nat.zero_add, cell_of_row _ b _ cur t fr h1, h6, Array.getD_eq_getD_getElem?, h6]; rfl
    · obtain ⟨u, h6, h7⟩ := (h4 k e he).2.2 j c hc
      rw [Array.getD_eq_getD_getElem?, h6]; exact h7
theorem rep_fzp {G : Cx} {id sz k : Nat} {cs : List AV} {e : AV} {v : Value} (hr : Rel G σ) (hs : σ[id]? = some (.fz sz cs)) (he : cs[k]? = some e) (hv : Rep G v (.ptr id sz k 0)) : Rep G v (.ref e.cells) := by
  have h0 := hr.obs id _ hs
  cases hv with
  | ptr _ _ _ _ b hm =>
    simp only [ObOk, hm] at h0
    obtain ⟨⟨cur, t, fr, h1, _, h3, h4⟩, h5⟩ := h0
    obtain ⟨g1, g2, g3⟩ := h4 k e he
    refine .ref b (k * sz + 0) e.cells (fun j => cur.getD (k * sz + j) undef) g2 (fun j c hc => ?_) (fun j c hc => ?_)
    · obtain ⟨u, h6, h7⟩ := g3 j c hc
      refine ⟨h5 k e j he (List.getElem?_eq_some_iff.1 hc).1, ?_⟩
      show G.w.cell? ⟨b, k * sz + j, none⟩ = _
      rw [cell_of_row _ b _ cur t fr h1, h6, Array.getD_eq_getD_getElem?, h6]; rfl
    · obtain ⟨u, h6, h7⟩ := g3 j c hc
      rw [Array.getD_eq_getD_getElem?, h6]; exact h7
theorem FOk.more {G : Cx} {a : Act} {d : Nat} {x : AV} (h : FOk G a F) (hx : Rep G (a.tmps.getD d undef) x) : FOk G a ((d, x) :: F) := fun t => by
  simp only [Frm.get]
  cases e : Nat.beq d t with
  | true => have := Nat.eq_of_beq_eq_true e; subst this; exact hx
  | false => exact h t
/-- slot d holds a finished row -/
theorem wk_sl {d id sz n : Nat} {cs : List AV} (hd : F.get d = .own id sz n) (hs : σ[id]? = some (.fz sz cs)) (hn : n = cs.length) : Weak N F σ ((d, .sl cs) :: F) σ := fun G a h =>
  ⟨G, rfl, .refl G, h.rel, h.fr.more (rep_fz h.rel hs hn (by rw [← hd]; exact h.fr d)), h.df, h.nt⟩
theorem wk_ref {d id sz k : Nat} {cs : List AV} {e : AV} (hd : F.get d = .ptr id sz k 0) (hs : σ[id]? = some (.fz sz cs)) (he : cs[k]? = some e) : Weak N F σ ((d, .ref e.cells) :: F) σ := fun G a h =>
  ⟨G, rfl, .refl G, h.rel, h.fr.more (rep_fzp h.rel hs he (by rw [← hd]; exact h.fr d)), h.df, h.nt⟩
theorem rep_emp {G : Cx} {v : Value} (h : Rep G v .emp) : Rep G v (.sl []) := by
  cases h with
  | emp A hA =>
    exact .slnil A 0
theorem rep_nil {G : Cx} {v : Value} (h : Rep G v (.s (.slice none 0 0))) : Rep G v (.sl []) := by cases h; exact .slnil none 0
/-- an empty slice ar a row of the call's own -/
theorem wk_own {d : Nat} {x : AV} (sz : Nat) (hd : F.get d = x) (hx : x = .emp ∨ x = .s (.slice none 0 0)) : Weak N F σ ((d, .own σ.length sz 0) :: F) (σ ++ [.row sz []]) := fun G a h => by
  have he := nil_ext h.rel
  refine ⟨G.new σ.length G.w none, rfl, he.step, nil_rel h.rel sz, (h.fr.ext he).more ?_, h.df, h.nt⟩
  have h1 := h.fr d
  rw [hd] at h1
  generalize a.tmps.getD d undef = v at h1
  rcases hx with rfl | rfl
  · cases h1 with | emp A hA => exact .own0 σ.length sz A hA (by simp [Cx.new])
  · cases h1; exact .own0 σ.length sz none (fun a ha => by cases ha) (by simp [Cx.new])
end

/-- f has a body: a call of it enters it -/
def Enters (P : Program) (f : FuncId) : Prop := ∀ args w, (callFunc f args).run P w = .ok (.enter f args) w
theorem enters_of {P : Program} {f : FuncId} {fn : Func} {c : Code} (hf : P.funcs[f]? = some fn) (hname : (fn.name == "runtime.NumGoroutine") = false) (hb : fn.body = some c) : Enters P f := fun args w => by
  have h1 : fn.name ≠ "runtime.NumGoroutine" := by simpa using hname
  simp [callFunc, hf, h1, hb]

/-- a function: of finished arguments it returns the finished result, and nothing that was there has changed -/
structure Pure (P : Program) (f : FuncId) (args : List AV) (r : AV) : Prop where
  ent : Enters P f
  lo : Lo 0 r
  call : ∀ (G : Cx) (vargs : Array Value), (∀ b o, G.St b o → b < G.w.heap.size) → vargs.size = args.length → (∀ (j : Nat) v x, vargs[j]? = some v → args[j]? = some x → Rep G v x) →
    Calls P f vargs G.w fun e w' => ∃ v G', e = .returned v ∧ G'.w = w' ∧ Below G.w.heap.size G.w w' ∧ (∀ b o, G.St b o → G'.St b o) ∧ (∀ b o, G'.St b o → G.St b o ∨ G.w.heap.size ≤ b) ∧ (∀ b o, G'.St b o → b < w'.heap.size) ∧ Rep G' v r

/-- a result without memory -/
def Flat (r : AV) : Prop := ∀ (G G' : Cx) (v : Value), Rep G v r → Rep G' v r
theorem Flat.s (v : Value) : Flat (.s v) := fun G G' u h => by cases h; exact .s _
theorem Flat.agg {cs : List AV} (h : ∀ c ∈ cs, Flat c) : Flat (.agg cs) := fun G G' u hu => by
  cases hu with
  | agg vs _ hl h1 hr => exact .agg vs cs hl h1 (fun j v c hv hc => h c (List.mem_of_getElem? hc) G G' v (hr j v c hv hc))
theorem Flat.tup {cs : List AV} (h : ∀ c ∈ cs, Flat c) : Flat (.tup cs) := fun G G' u hu => by
  cases hu with
  | tup vs _ hl hr => exact .tup vs cs hl (fun j v c hv hc => h c (List.mem_of_getElem? hc) G G' v (hr j v c hv hc))

/-- a result or an argument, taken as finished -/
inductive Fini (σ : List Ob) : AV → AV → Prop
  | refl (x : AV) : Fini σ x x
  | own (id sz n : Nat) (ob : Ob) (cs : List AV) (hs : σ[id]? = some ob) (ho : rowOf ob = some (sz, cs)) (hn : n = cs.length) : Fini σ (.own id sz n) (.sl cs)
  | ptr (id sz k : Nat) (ob : Ob) (cs : List AV) (e : AV) (hs : σ[id]? = some ob) (ho : rowOf ob = some (sz, cs)) (he : cs[k]? = some e) : Fini σ (.ptr id sz k 0) (.ref e.cells)
  | emp : Fini σ .emp (.sl [])
  | nil : Fini σ (.s (.slice none 0 0)) (.sl [])
  | agg (cs cs' : List AV) (hl : cs.length = cs'.length) (h : ∀ (j : Nat) x y, cs[j]? = some x → cs'[j]? = some y → Fini σ x y) : Fini σ (.agg cs) (.agg cs')
  | tup (cs cs' : List AV) (hl : cs.length = cs'.length) (h : ∀ (j : Nat) x y, cs[j]? = some x → cs'[j]? = some y → Fini σ x y) : Fini σ (.tup cs) (.tup cs')
def FiniL (σ : List Ob) (l l' : List AV) : Prop := l.length = l'.length ∧ ∀ (j : Nat) x y, l[j]? = some x → l'[j]? = some y → Fini σ x y
theorem FiniL.nil {σ : List Ob} : FiniL σ [] [] := ⟨rfl, by simp⟩
theorem FiniL.cons {σ : List Ob} {x y : AV} {l l' : List AV} (h : Fini σ x y) (t : FiniL σ l l') : FiniL σ (x :: l) (y :: l') := by
  refine ⟨by simp [t.1], fun j a b ha hb => ?_⟩
  cases j with
  | zero => simp at ha hb; subst ha hb; exact h
  | succ j => exact t.2 j a b (by simpa using ha) (by simpa using hb)
theorem FiniL.refl {σ : List Ob} (l : List AV) : FiniL σ l l := ⟨rfl, fun j x y hx hy => by rw [hx] at hy; cases hy; exact .refl _⟩
theorem Fini.one {σ : List Ob} {x y : AV} (h : Fini σ x y) (hx : x.one = true) : y.one = true := by
  cases h <;> first | exact hx | rfl | (simp [AV.one] at hx)

/-- all that lies in the heap taken as finished -/
def Cx.all (G : Cx) (B : Nat) : Cx := { G with St := fun b o => G.St b o ∨ (B ≤ b ∧ b < G.w.heap.size) }
theorem fin_rep {G : Cx} {σ : List Ob} {B : Nat} (hr : Rel G σ) (hB : B ≤ G.base) {x y : AV} (h : Fini σ x y) : ∀ {v : Value}, Rep G v x → Rep (G.all B) v y := by
  have up : ∀ {v : Value} {x : AV}, Rep G v x → Rep (G.all B) v x := fun {v x} h => by
    have e : Rep { G with St := (G.all B).St } v x := by
      induction h with
      | any v => exact .any v
      | s v => exact .s v
      | agg vs cs hl h1 _ ih => exact .agg vs cs hl h1 ih
      | emp A hA => exact .emp A hA
      | slnil A cap => exact .slnil A cap
      | sl b o cap sz l val hc hm h1 h2 _ ih => exact .sl b o cap sz l val hc hm h1 (fun k x j c hk hj => ⟨.inl (h2 k x j c hk hj).1, (h2 k x j c hk hj).2⟩) ih
      | ref b o cs val h1 h2 _ ih => exact .ref b o cs val h1 (fun j c hj => ⟨.inl (h2 j c hj).1, (h2 j c hj).2⟩) ih
      | own0 id sz A hA hm => exact .own0 id sz A hA hm
      | own id sz n b cap hm hn hc hb => exact .own id sz n b cap hm hn hc hb
      | ptr id sz k j b hm => exact .ptr id sz k j b hm
      | fn f vs cs hl _ ih => exact .fn f vs cs hl ih
      | tup vs l hl _ ih => exact .tup vs l hl ih
      | mp id b hm => exact .mp id b hm
      | sub id sz o n b cap A hm hA hc => exact .sub id sz o n b cap A hm hA hc
    exact e
  induction h with
  | refl x => exact up
  | emp => exact fun hv => up (rep_emp hv)
  | nil => exact fun hv => up (rep_nil hv)
  | own id sz n ob cs hs ho hn =>
    intro v hv
    have h0 := hr.obs id ob hs
    cases hv with
    | own0 _ _ A hA hm =>
      have hcs : cs = [] := List.eq_nil_of_length_eq_zero (by omega)
      subst hcs
      exact up (rep_emp (.emp A hA))
    | own _ _ _ b cap hm hn2 hc hb =>
      subst hn
      have hbl : B ≤ b ∨ (∀ (k : Nat) e (j : Nat), cs[k]? = some e → j < e.cells.length → G.St b (k * sz + j)) := by
        cases ob with
        | dead => cases ho
        | mp X => cases ho
        | row sz' cs' => simp only [ObOk, hm] at h0; exact .inl (Nat.le_trans hB h0.2.1)
        | fz sz' cs' =>
          simp only [rowOf, Option.some.injEq, Prod.mk.injEq] at ho
          obtain ⟨rfl, rfl⟩ := ho
          simp only [ObOk, hm] at h0
          exact .inr h0.2
      have hsz : b < G.w.heap.size := by
        obtain ⟨cur, e, f, h1, _⟩ := hb
        exact (Array.getElem?_eq_some_iff.1 h1).1
      have key : ∀ (k : Nat) e, cs[k]? = some e → ∃ f : Nat → Value, e.cells.length = sz ∧ (∀ c ∈ e.cells, c.one = true) ∧ ∀ (j : Nat) c, e.cells[j]? = some c → G.w.cell? ⟨b, k * sz + j, none⟩ = some (f j) ∧ Rep G (f j) c := fun k e he => row_read hr hs ho hm he
      refine .sl b 0 cap sz cs (fun k j => (G.w.cell? ⟨b, k * sz + j, none⟩).getD undef) hn2 (Nat.le_trans hn2 hc) (fun k e he => ?_) (fun k e j c he hc => ?_) (fun k e j c he hc => ?_)
      · obtain ⟨f, h1, h2, _⟩ := key k e he; exact ⟨h1, h2⟩
      · obtain ⟨f, h1, h2, h3⟩ := key k e he
        rw [Nat.zero_add]
        refine ⟨?_, ?_⟩
        · rcases hbl with h | h
          · exact .inr ⟨h, hsz⟩
          · exact .inl (h k e j he (List.getElem?_eq_some_iff.1 hc).1)
        · show G.w.cell? _ = _
          rw [(h3 j c hc).1]; rfl
      · obtain ⟨f, h1, h2, h3⟩ := key k e he
        rw [(h3 j c hc).1]
        exact up (h3 j c hc).2
  | ptr id sz k ob cs e hs ho he =>
    intro v hv
    have h0 := hr.obs id ob hs
    cases hv with
    | ptr _ _ _ _ b hm =>
      have hbl : B ≤ b ∨ (∀ (k : Nat) e (j : Nat), cs[k]? = some e → j < e.cells.length → G.St b (k * sz + j)) := by
        cases ob with
        | dead => cases ho
        | mp X => cases ho
        | row sz' cs' => simp only [ObOk, hm] at h0; exact .inl (Nat.le_trans hB h0.2.1)
        | fz sz' cs' =>
          simp only [rowOf, Option.some.injEq, Prod.mk.injEq] at ho
          obtain ⟨rfl, rfl⟩ := ho
          simp only [ObOk, hm] at h0
          exact .inr h0.2
      obtain ⟨f, h1, h2, h3⟩ := row_read hr hs ho hm he
      refine .ref b (k * sz + 0) e.cells f h2 (fun j c hc => ?_) (fun j c hc => up (h3 j c hc).2)
      refine ⟨?_, (h3 j c hc).1⟩
      rcases hbl with h | h
      · exact .inr ⟨h, World.block_lt_of_cell? _ _ (h3 j c hc).1⟩
      · exact .inl (h k e j he (List.getElem?_eq_some_iff.1 hc).1)
  | agg cs cs' hl h ih =>
    intro v hv
    cases hv with
    | agg vs _ hs h1 hr2 =>
      refine .agg vs cs' (hs.trans hl) (fun c hc => ?_) (fun j v y hv hy => ?_)
      · obtain ⟨j, hj, rfl⟩ := List.mem_iff_getElem.1 hc
        exact (h j cs[j] cs'[j] (by simp) (by simp [hj])).one (h1 _ (List.getElem_mem _))
      · have hj : j < cs.length := by rw [hl]; exact (List.getElem?_eq_some_iff.1 hy).1
        exact ih j _ y (List.getElem?_eq_getElem hj) hy (hr2 j v _ hv (List.getElem?_eq_getElem hj))
  | tup cs cs' hl h ih =>
    intro v hv
    cases hv with
    | tup vs _ hs hr2 =>
      refine .tup vs cs' (hs.trans hl) (fun j v y hv hy => ?_)
      have hj : j < cs.length := by rw [hl]; exact (List.getElem?_eq_some_iff.1 hy).1
      exact ih j _ y (List.getElem?_eq_getElem hj) hy (hr2 j v _ hv (List.getElem?_eq_getElem hj))

/-- a function's results -/
inductive ResA (P : Program) (F : Frm) (σ : List Ob) : ResultVar → AV → Prop
  | tmp (t : Tmp) (x : AV) (h : F.get t = x) : ResA P F σ (.tmp t) x
  | cell (a : Tmp) (t : TypeId) (id sz k j : Nat) (ob : Ob) (cs : List AV) (e c : AV) (ha : tyAgg P t = some false) (hp : F.get a = .ptr id sz k j) (hs : σ[id]? = some ob) (ho : rowOf ob = some (sz, cs)) (he : cs[k]? = some e) (hc : e.cells[j]? = some c) : ResA P F σ (.cell a t) c
  | cells (a : Tmp) (t : TypeId) (id sz k n bt : Nat) (z : Option Value) (ob : Ob) (cs : List AV) (e : AV) (ha : tyAgg P t = some true) (hi : tyInfo P t = some (z, n, bt)) (hp : F.get a = .ptr id sz k 0) (hs : σ[id]? = some ob) (ho : rowOf ob = some (sz, cs)) (he : cs[k]? = some e) (hn : e.cells.length = n) : ResA P F σ (.cell a t) (.agg e.cells)
inductive ResL (P : Program) (F : Frm) (σ : List Ob) : List ResultVar → List AV → Prop
  | nil : ResL P F σ [] []
  | cons (r : ResultVar) (x : AV) (rs : List ResultVar) (xs : List AV) (h : ResA P F σ r x) (t : ResL P F σ rs xs) : ResL P F σ (r :: rs) (x :: xs)
def oneOf : List AV → AV
  | [x] => x
  | xs => .tup xs
def APost (P : Program) (rs : List ResultVar) (r : AV) : Exit → Frm → List Ob → Prop := fun e F σ => (e = .normal ∨ e = .ret) ∧ ∃ xs, ResL P F σ rs xs ∧ Fini σ (oneOf xs) r

section
variable {P : Program}
def resVal (P : Program) (tmps : Array Value) : ResultVar → Sem Value
  | .tmp t => pure (tmps.getD t undef)
  | .cell a t => do loadVar t (← asAddr (tmps.getD a undef))
theorem resA_run {F : Frm} {σ : List Ob} {r : ResultVar} {x : AV} (h : ResA P F σ r x) {G : Cx} {a : Act} (hr : Rel G σ) (hf : FOk G a F) : ∃ v, (resVal P a.tmps r).run P G.w = .ok v G.w ∧ Rep G v x := by
  cases h with
  | tmp t _ h => exact ⟨a.tmps.getD t undef, rfl, by rw [← h]; exact hf t⟩
  | cell ad t id sz k j ob cs e c ha hp hs ho he hc =>
    have h1 := hf ad
    rw [hp] at h1
    generalize hv : a.tmps.getD ad undef = v at h1
    cases h1 with
    | ptr _ _ _ _ b hm =>
      obtain ⟨f, _, _, h2⟩ := row_read hr hs ho hm he
      obtain ⟨h3, h4⟩ := h2 _ _ hc
      refine ⟨f j, ?_, h4⟩
      simp [resVal, hv, asAddr, loadVar, run_isAgg ha, h3]
  | cells ad t id sz k n bt z ob cs e ha hi hp hs ho he hn =>
    have h1 := hf ad
    rw [hp] at h1
    generalize hv : a.tmps.getD ad undef = v at h1
    cases h1 with
    | ptr _ _ _ _ b hm =>
      obtain ⟨f, g1, g2, h2⟩ := row_read hr hs ho hm he
      have h3 := run_loadCells (P := P) G.w ⟨b, k * sz + 0, none⟩ n f (fun j hj => by rw [Addr.add_lit]; exact (h2 j _ (List.getElem?_eq_getElem (by omega))).1)
      refine ⟨.agg ((List.range n).map f).toArray, ?_, .agg _ _ (by simp [hn]) g2 (fun j v c hv hc => ?_)⟩
      · simp only [Nat.add_zero] at h3
        simp [resVal, hv, asAddr, loadVar, run_isAgg ha, run_sizeOf hi, h3]
      · have hj : j < n := by have := (List.getElem?_eq_some_iff.1 hc).1; omega
        simp [hj] at hv
        subst hv
        exact (h2 j c hc).2
theorem resL_run {F : Frm} {σ : List Ob} {G : Cx} {a : Act} (hr : Rel G σ) (hf : FOk G a F) : ∀ {rs : List ResultVar} {xs : List AV}, ResL P F σ rs xs → ∃ vs : List Value, (rs.mapM (resVal P a.tmps)).run P G.w = .ok vs G.w ∧ vs.length = xs.length ∧ ∀ (j : Nat) v x, vs[j]? = some v → xs[j]? = some x → Rep G v x := by
  intro rs xs h
  induction h with
  | nil => exact ⟨[], rfl, rfl, by simp⟩
  | cons r x rs xs h t ih =>
    obtain ⟨v, h1, h2⟩ := resA_run h hr hf
    obtain ⟨vs, h3, h4, h5⟩ := ih
    refine ⟨v :: vs, by simp [List.mapM_cons, h1, h3], by simp [h4], fun j u y hu hy => ?_⟩
    cases j with
    | zero => simp at hu hy; subst hu hy; exact h2
    | succ j => exact h5 j u y (by simpa using hu) (by simpa using hy)
theorem results_run {fn : Func} {F : Frm} {σ : List Ob} {xs : List AV} {G : Cx} {a : Act} (hr : Rel G σ) (hf : FOk G a F) (h : ResL P F σ fn.results.toList xs) : ∃ v, (results fn a.tmps).run P G.w = .ok v G.w ∧ Rep G v (oneOf xs) := by
  obtain ⟨vs, h1, h2, h3⟩ := resL_run hr hf h
  have h4 : (results fn a.tmps).run P G.w = .ok (if h : vs.toArray.size = 1 then vs.toArray[0] else .tuple vs.toArray) G.w := by
    have h0 : results fn a.tmps = (do
      let vs ← fn.results.mapM (resVal P a.tmps)
      pure (if h : vs.size = 1 then vs[0] else .tuple vs)) := rfl
    rw [h0, Array.mapM_eq_mapM_toList]
    simp [h1]
  refine ⟨_, h4, ?_⟩
  match xs, vs, h2, h3 with
  | [x], [v], _, h3 => simpa [oneOf] using h3 0 v x rfl rfl
  | [], [], _, h3 => simpa [oneOf] using Rep.tup (G := G) #[] [] rfl (by simp)
  | x :: y :: xs, u :: v :: vs, h2, h3 =>
    have : ¬ ((u :: v :: vs).toArray.size = 1) := by simp
    rw [dif_neg this]
    exact .tup _ _ (by simpa using h2) (fun j a b ha hb => h3 j a b (by simpa using ha) hb)

def argF : Nat → List AV → Frm
  | _, [] => []
  | k, x :: l => (k, x) :: argF (k + 1) l
theorem argF_get : ∀ (l : List AV) (k d : Nat), (argF k l).get d = if k ≤ d then l.getD (d - k) .any else .any
  | [], k, d => by simp [argF, Frm.get]
  | x :: l, k, d => by
    simp only [argF, Frm.get]
    cases e : Nat.beq k d with
    | true => have := Nat.eq_of_beq_eq_true e; subst this; simp
    | false =>
      have hne : k ≠ d := fun h => by subst h; simp at e
      simp only [cond_false, argF_get l (k + 1) d]
      by_cases h : k + 1 ≤ d
      · rw [if_pos h, if_pos (by omega)]
        obtain ⟨m, hm⟩ : ∃ m, d - k = m + 1 := ⟨d - k - 1, by omega⟩
        rw [hm, show d - (k + 1) = m by omega]
        simp
      · rw [if_neg h, if_neg (by omega)]

theorem aw_fn {f : FuncId} {fn : Func} {c : Code} {N : Nat} {args : List AV} {F0 : Frm} {rs : List ResultVar} {r : AV} (hf : P.funcs[f]? = some fn) (hname : (fn.name == "runtime.NumGoroutine") = false) (hb : fn.body = some c) (hN : fn.ntmps = N) (hres : fn.results.toList = rs) (hn : Nat.ble args.length N = true)
    (hl : ∀ x ∈ args, Lo 0 x) (hr : Lo 0 r) (hF0 : argF 0 args = F0) (h : AWp P N c F0 [] (APost P rs r)) : Pure P f args r := by
  subst hF0
  refine ⟨enters_of hf hname hb, hr, fun G vargs hst hsz hrep => ?_⟩
  have hn := Nat.le_of_ble_eq_true hn
  refine calls_of_wp hf hb ?_
  let G0 : Cx := { base := G.w.heap.size, w0 := G.w, w := G.w, mu := fun _ => none, St := G.St }
  have hrel : Rel G0 [] := ⟨Below.refl _ _, Nat.le_refl _, hst, by simp, by rintro i j b ⟨_, _, h⟩; simp at h, fun _ _ => rfl⟩
  have hfo : FOk G0 { tmps := vargs ++ Array.replicate (fn.ntmps - vargs.size) undef, defers := [] } (argF 0 args) := by
    intro d
    rw [argF_get]
    simp only [Nat.zero_le, if_true, Nat.sub_zero]
    by_cases hd : d < args.length
    · have h1 : (vargs ++ Array.replicate (fn.ntmps - vargs.size) undef).getD d undef = vargs[d]'(by omega) := by
        rw [Array.getD_eq_getD_getElem?, Array.getElem?_append_left (by omega)]
        simp [show d < vargs.size by omega]
      rw [h1]
      have h2 : args.getD d .any = args[d] := by simp [List.getD, hd]
      rw [h2]
      exact (hrep d _ _ (by simp [show d < vargs.size by omega]) (by simp [hd])).low (hl _ (List.getElem_mem hd)) (fun _ _ h => h) (fun _ _ _ => rfl) (fun id y h => by omega) (fun h => by omega)
    · have h2 : args.getD d .any = .any := by simp [List.getD, hd]
      rw [h2]; exact .any _
  have hs8 : S8 N G0 { tmps := vargs ++ Array.replicate (fn.ntmps - vargs.size) undef, defers := [] } (argF 0 args) [] := ⟨hrel, hfo, rfl, by simp [hN]; omega⟩
  refine Code.wp_mono (fun e a w q => ?_) (h G0 _ hs8)
  obtain ⟨G', F', σ', rfl, h2, h3, he, xs, h4, h5⟩ := q
  obtain ⟨v, h6, h7⟩ := results_run (fn := fn) h3.rel h3.fr (by rw [hres]; exact h4)
  have hbase : G'.base = G.w.heap.size := h2.base
  have hbel : Below G.w.heap.size G.w G'.w := by have := h3.rel.below; rw [hbase, h2.w0] at this; exact this
  have hfin := fin_rep (B := G.w.heap.size) h3.rel (by omega) h5 h7
  have post : ∃ v' G'', Ending.returned v = .returned v' ∧ G''.w = G'.w ∧ Below G.w.heap.size G.w G'.w ∧ (∀ b o, G.St b o → G''.St b o) ∧ (∀ b o, G''.St b o → G.St b o ∨ G.w.heap.size ≤ b) ∧ (∀ b o, G''.St b o → b < G'.w.heap.size) ∧ Rep G'' v' r := by
    refine ⟨v, G'.all G.w.heap.size, rfl, rfl, hbel, fun b o h => .inl (h2.st b o h), fun b o h => ?_, fun b o h => ?_, hfin⟩
    · rcases h with h | h
      · exact h2.stN b o h
      · exact .inr h.1
    · rcases h with h | h
      · exact h3.rel.st b o h
      · exact h.2
  rcases he with rfl | rfl
  · exact ⟨h3.df, v, h6, post⟩
  · exact ⟨h3.df, v, h6, post⟩

/-- a call -/
theorem after_call {G : Cx} {σ : List Ob} {G1 : Cx} {w' : World} (hr : Rel G σ) (hw : G1.w = w') (hbel : Below G.w.heap.size G.w w') (hs1 : ∀ b o, G.St b o → G1.St b o) (hs2 : ∀ b o, G1.St b o → G.St b o ∨ G.w.heap.size ≤ b) (hs3 : ∀ b o, G1.St b o → b < w'.heap.size) :
    G.Ext { G with w := w', St := G1.St } ∧ Rel { G with w := w', St := G1.St } σ := by
  have hble : G.base ≤ G.w.heap.size := by have h1 := hr.le; have h2 := hr.below.size; omega
  have hext : G.Ext { G with w := w', St := G1.St } := ⟨rfl, rfl, hs1, fun b o h => hbel.cell (hr.st b o h), fun _ _ h => h, hbel.size, fun b cur e f h => ⟨cur, (hbel.block b (Array.getElem?_eq_some_iff.1 h).1).trans h, rfl⟩, fun b o h => (hs2 b o h).imp (fun h => h) (fun h => by omega)⟩
  refine ⟨hext, hr.below.trans (hbel.mono hble), hr.le, hs3, fun id ob hob => ?_, hr.inj, hr.fresh⟩
  have h1 := hr.obs id ob hob
  have rowx : ∀ b sz cs f, RowAt G b sz cs f → RowAt { G with w := w', St := G1.St } b sz cs f := by
    rintro b sz cs f ⟨cur, t, fr, h2, h3, h4, h5⟩
    refine ⟨cur, t, fr, (hbel.block b (Array.getElem?_eq_some_iff.1 h2).1).trans h2, h3, h4, fun k x hx => ⟨(h5 k x hx).1, (h5 k x hx).2.1, fun j c hc => ?_⟩⟩
    obtain ⟨v, h6, h7⟩ := (h5 k x hx).2.2 j c hc
    exact ⟨v, h6, h7.ext hext⟩
  cases ob with
  | dead => exact fun b hb => Nat.lt_of_lt_of_le (h1 b hb) hbel.size
  | row sz cs =>
    simp only [ObOk] at h1 ⊢
    cases hx : G.mu id with
    | none => rw [hx] at h1; exact h1
    | some x =>
      rw [hx] at h1
      cases x with
      | none => exact h1
      | some b =>
        refine ⟨rowx _ _ _ _ h1.1, h1.2.1, fun o ho => ?_⟩
        obtain ⟨⟨cur, t, fr, h2, _⟩, _, h3⟩ := h1
        have := (Array.getElem?_eq_some_iff.1 h2).1
        rcases hs2 b o ho with h | h
        · exact h3 o h
        · omega
  | fz sz cs =>
    simp only [ObOk] at h1 ⊢
    cases hx : G.mu id with
    | none => rw [hx] at h1; exact h1
    | some x =>
      rw [hx] at h1
      cases x with
      | none => exact h1
      | some b => exact ⟨rowx _ _ _ _ h1.1, fun k e j he hj => hs1 _ _ (h1.2 k e j he hj)⟩
  | mp X =>
    obtain ⟨b, g1, g2, g3, g4, g5⟩ := h1
    exact ⟨b, g1, g2.keep (hbel.block b g2.lt), g3, fun o ho => by
      rcases hs2 b o ho with h | h
      · exact g4 o h
      · have := g2.lt
        omega, g5⟩

section
variable {o : Oper} {F : Frm} {σ : List Ob}
theorem call_enter {f : FuncId} {cap : Array Value} {fo : Operand} {ar : Array Operand} {ts : Array TypeId} (ho : o.op = .call { callee := .value fo, args := ar, argTypes := ts }) (ρ : Operand → Value) (hv : ρ fo = .func (.func f) #[] cap) (he : Enters P f) (w : World) :
    (execOp ρ o).run P w = .ok (.enter f (ar.map ρ ++ cap)) w := by
  simp [execOp, ho, resolve, Deferred.ofValue, hv, invoke, he _ w]
theorem call_args {G : Cx} {ρ : Operand → Value} {fo : Operand} {ar : Array Operand} {ts : Array TypeId} {f : FuncId} {caps : List AV} (ho : o.op = .call { callee := .value fo, args := ar, argTypes := ts }) (hop : ∀ y ∈ o.op.operands, Rep G (ρ y) (F.eval y)) (hf : F.eval fo = .fn f caps) :
    ∃ cap : Array Value, ρ fo = .func (.func f) #[] cap ∧ (ar.map ρ ++ cap).size = (ar.toList.map F.eval ++ caps).length ∧ ∀ (j : Nat) v x, (ar.map ρ ++ cap)[j]? = some v → (ar.toList.map F.eval ++ caps)[j]? = some x → Rep G v x := by
  have h1 := hop fo (by simp [ho, Op.operands, Call.operands])
  rw [hf] at h1
  generalize hv : ρ fo = u at h1
  cases h1 with
  | fn _ vs _ hl h =>
    refine ⟨vs, rfl, by simp [hl], fun j v x hj hx => ?_⟩
    by_cases hlt : j < ar.size
    · rw [Array.getElem?_append_left (by simpa using hlt)] at hj
      rw [List.getElem?_append_left (by simpa using hlt)] at hx
      simp [hlt] at hj hx
      subst hj hx
      exact hop ar[j] (by simp [ho, Op.operands, Call.operands])
    · rw [Array.getElem?_append_right (by simp; omega)] at hj
      rw [List.getElem?_append_right (by simp; omega)] at hx
      simp only [Array.size_map, List.length_map, Array.length_toList] at hj hx
      exact h _ v x hj hx
theorem does_call {fo : Operand} {ar : Array Operand} {ts : Array TypeId} {f : FuncId} {caps args : List AV} {r : AV} (ho : o.op = .call { callee := .value fo, args := ar, argTypes := ts }) (hf : F.eval fo = .fn f caps) (hp : Pure P f args r) (ha : ar.toList.map F.eval ++ caps = args) : Does P o F σ r σ := by
  intro G a next Q hr hop hn
  obtain ⟨cap, h1, h2, h3⟩ := call_args ho hop hf
  rw [ha] at h2 h3
  unfold Oper.wp
  rw [call_enter ho a.eval h1 hp.ent G.w, Oper.upon_enter]
  refine (hp.call G _ hr.st h2 h3).mono ?_
  rintro e w' ⟨v, G1, rfl, hw, hbel, hs1, hs2, hs3, hrep⟩
  obtain ⟨h4, h5⟩ := after_call hr hw hbel hs1 hs2 hs3
  subst hw
  exact hn v { G with w := G1.w, St := G1.St } h4 h5 (hrep.low hp.lo (fun _ _ h => h) (fun _ _ _ => rfl) (fun id y h => by omega) (fun h => by omega))
/-- a call that is lent rows of the call's own, and returns no memory -/
theorem does_callb {fo : Operand} {ar : Array Operand} {ts : Array TypeId} {f : FuncId} {caps args : List AV} {r : AV} (ho : o.op = .call { callee := .value fo, args := ar, argTypes := ts }) (hf : F.eval fo = .fn f caps) (hp : Pure P f args r) (ha : FiniL σ (ar.toList.map F.eval ++ caps) args) (hfl : Flat r) : Does P o F σ r σ := by
  intro G a next Q hr hop hn
  obtain ⟨cap, h1, h2, h3⟩ := call_args ho hop hf
  have hble : G.base ≤ G.w.heap.size := by have h1 := hr.le; have h2 := hr.below.size; omega
  unfold Oper.wp
  rw [call_enter ho a.eval h1 hp.ent G.w, Oper.upon_enter]
  have hst : ∀ b o, (G.all G.base).St b o → b < (G.all G.base).w.heap.size := fun b o h => by
    rcases h with h | h
    · exact hr.st b o h
    · exact h.2
  refine (hp.call (G.all G.base) _ hst (h2.trans ha.1) (fun j v x hv hx => ?_)).mono ?_
  · have hj : j < (ar.toList.map F.eval ++ caps).length := by rw [ha.1]; exact (List.getElem?_eq_some_iff.1 hx).1
    exact fin_rep hr (Nat.le_refl _) (ha.2 j _ x (List.getElem?_eq_getElem hj) hx) (h3 j v _ hv (List.getElem?_eq_getElem hj))
  · rintro e w' ⟨v, G1, rfl, hw, hbel, hs1, hs2, hs3, hrep⟩
    have hbel' : Below G.w.heap.size G.w w' := hbel
    obtain ⟨h4, h5⟩ := after_call (G1 := { G1 with St := G.St }) hr hw hbel' (fun _ _ h => h) (fun _ _ h => .inl h) (fun b o h => by have := hr.st b o h; have := hbel'.size; omega)
    exact hn v _ h4 h5 (hfl G1 _ v hrep)
end
end
end Go.Proofs.YtanfaepjamkbjaaGreat.Aw
end
section
namespace Go.Proofs.YtanfaepjamkbjaaGreat.Aw
set_option linter.unusedSimpArgs false
set_option linter.unusedVariables false
open Go.RowKit

/-- which operations must have come up -/
def maskOf (acc : List Nat) (o : Oper) : Nat := o.after.toList.foldl (fun s e => bif Region.binds .any e then (s ||| 2 ^ e.on) ||| acc.getD e.on 0 else s) 0
def masks : List Oper → List Nat → List Nat
  | [], acc => acc
  | o :: l, acc => masks l (acc ++ [maskOf acc o])
def clash (ops : Array Oper) (x y : Oper) : Bool :=
  (match x.dst with | some d => (y.looksAt ops).contains d || y.dst == some d | none => false) ||
  (match y.dst with | some d => (x.looksAt ops).contains d | none => false)
/-- operations that touch one slot keep their order -/
def qOk (l : List Oper) : Bool :=
  let m := masks l []
  (List.range l.length).all fun j => match l[j]? with
    | none => true
    | some oj => (oj.after.toList.all fun e => !Region.binds .any e || Nat.blt e.on j) && (List.range j).all fun i => match l[i]? with
      | none => true
      | some oi => !clash l.toArray oi oj || (m.getD j 0).testBit i

theorem maskOf_bit {acc : List Nat} {i : Nat} : ∀ (es : List Edge) (s : Nat), (es.foldl (fun s e => bif Region.binds .any e then (s ||| 2 ^ e.on) ||| acc.getD e.on 0 else s) s).testBit i = true → s.testBit i = true ∨ ∃ e ∈ es, Region.binds .any e = true ∧ (e.on = i ∨ (acc.getD e.on 0).testBit i = true)
  | [], s, h => .inl h
  | e :: es, s, h => by
    rw [List.foldl_cons] at h
    rcases maskOf_bit es _ h with h1 | ⟨e', h1, h2⟩
    · cases hb : Region.binds .any e with
      | false => rw [hb] at h1; exact .inl h1
      | true =>
        rw [hb] at h1
        simp only [cond_true, Nat.testBit_or, Bool.or_eq_true] at h1
        rcases h1 with (h1 | h1) | h1
        · exact .inl h1
        · refine .inr ⟨e, by simp, hb, .inl ?_⟩
          rw [Nat.testBit_two_pow] at h1
          simpa using h1
        · exact .inr ⟨e, by simp, hb, .inr h1⟩
    · exact .inr ⟨e', by simp [h1], h2⟩

/-- closed under waiting -/
def Closed (l : List Oper) (D : Nat → Prop) : Prop := ∀ (j : Nat) o, l[j]? = some o → D j → ∀ e ∈ o.after.toList, Region.binds .any e = true → D e.on
theorem masks_sound {all : List Oper} {D : Nat → Prop} (hD : Closed all D) : ∀ (l : List Oper) (acc : List Nat), (∀ j o, l[j]? = some o → all[acc.length + j]? = some o) → (∀ (j i : Nat), j < acc.length → (acc.getD j 0).testBit i = true → D j → D i) →
    ∀ (j i : Nat), ((masks l acc).getD j 0).testBit i = true → D j → D i
  | [], acc, _, h, j, i, hb, hj => by
    by_cases hlt : j < acc.length
    · exact h j i hlt hb hj
    · simp [masks, List.getD, hlt] at hb
  | o :: l, acc, hall, h, j, i, hb, hj => by
    refine masks_sound hD l (acc ++ [maskOf acc o]) (fun j o' ho' => ?_) (fun j i hlt hb hj => ?_) j i hb hj
    · have := hall (j + 1) o' (by simpa using ho')
      rw [← this]
      congr 1
      simp; omega
    · simp only [List.length_append, List.length_singleton] at hlt
      by_cases hlt2 : j < acc.length
      · rw [List.getD_eq_getElem?_getD, List.getElem?_append_left hlt2, ← List.getD_eq_getElem?_getD] at hb
        exact h j i hlt2 hb hj
      · have hje : j = acc.length := by omega
        subst hje
        rw [List.getD_eq_getElem?_getD, List.getElem?_append_right (Nat.le_refl _)] at hb
        simp at hb
        rcases maskOf_bit _ _ hb with h1 | ⟨e, h1, h2, h3⟩
        · simp at h1
        · have hoe := hD acc.length o (by simpa using hall 0 o rfl) hj e h1 h2
          rcases h3 with rfl | h3
          · exact hoe
          · by_cases hlt3 : e.on < acc.length
            · exact h e.on i hlt3 h3 hoe
            · simp [List.getD, hlt3] at h3

/-- the frame once some operations have come up -/
def fr (sel : Nat → Bool) : Nat → List (Nat × AV) → Frm → Frm
  | _, [], F => F
  | k, p :: out, F => fr sel (k + 1) out (bif sel k then p :: F else F)
theorem fr_congr {sel sel' : Nat → Bool} {t : Nat} : ∀ (out : List (Nat × AV)) (k : Nat) (F F' : Frm), F.get t = F'.get t → (∀ (j : Nat) p, out[j]? = some p → p.1 = t → sel (k + j) = sel' (k + j)) → (fr sel k out F).get t = (fr sel' k out F').get t
  | [], k, F, F', h, _ => h
  | p :: out, k, F, F', h, hs => by
    refine fr_congr out (k + 1) _ _ ?_ (fun j q hq he => by have := hs (j + 1) q (by simpa using hq) he; rwa [show k + (j + 1) = k + 1 + j by omega] at this)
    by_cases hp : p.1 = t
    · have h1 := hs 0 p rfl hp
      simp only [Nat.add_zero] at h1
      rw [h1]
      obtain ⟨d, x⟩ := p
      cases sel' k with
      | true => simp only [cond_true, Frm.get, h]
      | false => exact h
    · have hb : ∀ (F : Frm), Frm.get (p :: F) t = F.get t := fun F => by
        obtain ⟨d, x⟩ := p
        simp only [Frm.get]
        cases e : Nat.beq d t with
        | true => exact absurd (Nat.eq_of_beq_eq_true e) hp
        | false => rfl
      cases sel k <;> cases sel' k <;> simp [hb, h]
theorem fr_last {sel : Nat → Bool} {t : Nat} {x : AV} : ∀ (out : List (Nat × AV)) (k : Nat) (F : Frm) (i : Nat), out[i]? = some (t, x) → sel (k + i) = true → (∀ (j : Nat) p, out[j]? = some p → i < j → sel (k + j) = true → p.1 ≠ t) → (fr sel k out F).get t = x
  | [], _, _, i, h, _, _ => by simp at h
  | p :: out, k, F, 0, h, hs, hn => by
    simp at h
    subst h
    have h1 : (fr sel (k + 1) out ((t, x) :: F)).get t = (fr (fun _ => false) (k + 1) out ((t, x) :: F)).get t := fr_congr out (k + 1) _ _ rfl (fun j q hq he => by
      cases hc : sel (k + 1 + j) with
      | false => rfl
      | true => exact absurd he (hn (j + 1) q (by simpa using hq) (by omega) (by rw [show k + (j + 1) = k + 1 + j by omega]; exact hc)))
    have h2 : ∀ (out : List (Nat × AV)) (k : Nat) (F : Frm), fr (fun _ => false) k out F = F := by
      intro out
      induction out with
      | nil => intro k F; rfl
      | cons p out ih => intro k F; simp [fr, ih]
    simp only [Nat.add_zero] at hs
    simp only [fr, hs, cond_true]
    rw [h1, h2]
    simp [Frm.get]
  | p :: out, k, F, i + 1, h, hs, hn => by
    simp only [fr]
    exact fr_last out (k + 1) _ i (by simpa using h) (by rwa [show k + 1 + i = k + (i + 1) by omega]) (fun j q hq hij hc => hn (j + 1) q (by simpa using hq) (by omega) (by rwa [show k + (j + 1) = k + 1 + j by omega]))
theorem fr_pre : ∀ (out : List (Nat × AV)) (k i : Nat) (F : Frm), fr (fun j => decide (j < k + i)) k out F = (out.take i).reverse ++ F
  | [], k, i, F => by simp [fr]
  | p :: out, k, 0, F => by
    have h := fr_pre out (k + 1) 0 F
    have h2 : ∀ (out : List (Nat × AV)) (k' : Nat) (F : Frm), k ≤ k' → fr (fun j => decide (j < k + 0)) k' out F = F := by
      intro out
      induction out with
      | nil => intro k' F _; rfl
      | cons p out ih =>
        intro k' F hk
        have : decide (k' < k + 0) = false := by simp; omega
        simp only [fr, this, cond_false]
        exact ih _ _ (by omega)
    simpa using h2 (p :: out) k F (Nat.le_refl _)
  | p :: out, k, i + 1, F => by
    have h := fr_pre out (k + 1) i (p :: F)
    have : decide (k < k + (i + 1)) = true := by simp
    simp only [fr, this, cond_true]
    rw [show (fun j => decide (j < k + (i + 1))) = (fun j => decide (j < k + 1 + i)) by funext j; congr 1; simp; omega, h]
    simp

inductive QSteps (P : Program) (N : Nat) (ops : Array Oper) (σ : List Ob) : List Oper → Frm → Frm → List (Nat × AV) → Prop
  | nil (F : Frm) : QSteps P N ops σ [] F F []
  | run (o : Oper) (l : List Oper) (F F' : Frm) (x : AV) (out : List (Nat × AV)) (d : Nat) (hd : o.dst = some d) (hN : Nat.blt d N = true) (hr : Runs ops F o true) (hD : Does P o F σ x σ) (h : QSteps P N ops σ l ((d, x) :: F) F' out) : QSteps P N ops σ (o :: l) F F' ((d, x) :: out)
  | skip (o : Oper) (l : List Oper) (F F' : Frm) (out : List (Nat × AV)) (d : Nat) (hd : o.dst = some d) (hN : Nat.blt d N = true) (hr : Runs ops F o false) (h : QSteps P N ops σ l ((d, .s undef) :: F) F' out) : QSteps P N ops σ (o :: l) F F' ((d, .s undef) :: out)

theorem qsteps_at {P : Program} {N : Nat} {ops : Array Oper} {σ : List Ob} : ∀ {l : List Oper} {F F' : Frm} {out : List (Nat × AV)}, QSteps P N ops σ l F F' out → l.length = out.length ∧ F' = out.reverse ++ F ∧
    ∀ (i : Nat) o, l[i]? = some o → ∃ d x, out[i]? = some (d, x) ∧ o.dst = some d ∧ d < N ∧ ((Runs ops ((out.take i).reverse ++ F) o true ∧ Does P o ((out.take i).reverse ++ F) σ x σ) ∨ (Runs ops ((out.take i).reverse ++ F) o false ∧ x = .s undef)) := by
  intro l F F' out h
  induction h with
  | nil F => exact ⟨rfl, rfl, by simp⟩
  | run o l F F' x out d hd hN hr hD h ih =>
    obtain ⟨h1, h2, h3⟩ := ih
    refine ⟨by simp [h1], by simp [h2], fun i o' hi => ?_⟩
    cases i with
    | zero => simp at hi; subst hi; exact ⟨d, x, rfl, hd, by simpa [Nat.blt_eq] using hN, .inl ⟨by simpa using hr, by simpa using hD⟩⟩
    | succ i =>
      obtain ⟨d', x', g1, g2, g3, g4⟩ := h3 i o' (by simpa using hi)
      exact ⟨d', x', by simpa using g1, g2, g3, by simpa using g4⟩
  | skip o l F F' out d hd hN hr h ih =>
    obtain ⟨h1, h2, h3⟩ := ih
    refine ⟨by simp [h1], by simp [h2], fun i o' hi => ?_⟩
    cases i with
    | zero => simp at hi; subst hi; exact ⟨d, .s undef, rfl, hd, by simpa [Nat.blt_eq] using hN, .inr ⟨by simpa using hr, rfl⟩⟩
    | succ i =>
      obtain ⟨d', x', g1, g2, g3, g4⟩ := h3 i o' (by simpa using hi)
      exact ⟨d', x', by simpa using g1, g2, g3, by simpa using g4⟩

/-- how many have not come up -/
def left : List Bool → Nat
  | [] => 0
  | b :: l => (bif b then 0 else 1) + left l
theorem left_set : ∀ (l : List Bool) (i : Nat), l[i]? = some false → left (l.set i true) + 1 = left l
  | [], i, h => by simp at h
  | b :: l, 0, h => by simp at h; subst h; simp [left]; omega
  | b :: l, i + 1, h => by have := left_set l i (by simpa using h); simp [left]; omega
theorem left_pos {l : List Bool} : ∀ (i : Nat), l[i]? = some false → 0 < left l
  | i, h => by have := left_set l i h; omega

theorem eval_congr {F F' : Frm} {ops : Array Oper} {o : Oper} (h : ∀ t ∈ o.looksAt ops, F.get t = F'.get t) : ∀ y ∈ o.op.operands, F.eval y = F'.eval y := by
  intro y hy
  cases y with
  | tmp t => exact h t (List.mem_append_left _ (List.mem_filterMap.2 ⟨.tmp t, by simpa using hy, rfl⟩))
  | _ => rfl
theorem Does.congr {P : Program} {F F' : Frm} {ops : Array Oper} {o : Oper} {σ σ' : List Ob} {x : AV} (h : Does P o F σ x σ') (he : ∀ t ∈ o.looksAt ops, F.get t = F'.get t) : Does P o F' σ x σ' := fun G a next Q hr hop hn =>
  h G a next Q hr (fun y hy => by rw [eval_congr he y hy]; exact hop y hy) hn
theorem Runs.congr {F F' : Frm} {ops : Array Oper} {o : Oper} {b : Bool} (h : Runs ops F o b) (he : ∀ t ∈ o.looksAt ops, F.get t = F'.get t) : Runs ops F' o b := by
  unfold Runs at h ⊢
  cases hg : o.guard with
  | none => rw [hg] at h; exact h
  | some jb =>
    obtain ⟨j, want⟩ := jb
    rw [hg] at h
    obtain ⟨t, h1, h2⟩ := h
    exact ⟨t, h1, by rw [← he t (List.mem_append_right _ (by simp [hg, h1]))]; exact h2⟩

def ADraw (P : Program) (N : Nat) (l : List Oper) (F : Frm) (σ : List Ob) (Q : Exit → Frm → List Ob → Prop) : Prop :=
  ∀ G a, S8 N G a F σ → wpAny P .any l.toArray (lift N G Q) l.length (Array.replicate l.length false) a G.w

theorem clash_of {ops : Array Oper} {x y : Oper} {d : Nat} : (x.dst = some d → d ∈ y.looksAt ops → clash ops x y = true) ∧ (x.dst = some d → y.dst = some d → clash ops x y = true) ∧ (y.dst = some d → d ∈ x.looksAt ops → clash ops x y = true) := by
  refine ⟨fun h1 h2 => ?_, fun h1 h2 => ?_, fun h1 h2 => ?_⟩
  · simp [clash, h1, h2]
  · simp [clash, h1, h2]
  · simp [clash, h1, h2]

section
variable {P : Program} {N : Nat} {l : List Oper} {F F' : Frm} {σ : List Ob} {out : List (Nat × AV)} {Q : Exit → Frm → List Ob → Prop}

theorem quiet_any (hq : qOk l = true) (hs : QSteps P N l.toArray σ l F F' out) (hQ : Q .normal F' σ) (G0 : Cx) :
    ∀ (fuel : Nat) (L : Array Bool) (G : Cx) (a : Act), G0.Step G → L.size = l.length → left L.toList = fuel → Closed l (fun j => L.getD j false = true) → S8 N G a (fr (fun j => L.getD j false) 0 out F) σ → wpAny P .any l.toArray (lift N G0 Q) fuel L a G.w := by
  obtain ⟨hlen, hF', hat⟩ := qsteps_at hs
  unfold qOk at hq
  have hq' : ∀ j oj, l[j]? = some oj → (∀ e ∈ oj.after.toList, Region.binds .any e = true → e.on < j) ∧ ∀ i oi, i < j → l[i]? = some oi → clash l.toArray oi oj = true → ((masks l []).getD j 0).testBit i = true := by
    intro j oj hj
    have h1 := List.all_eq_true.1 hq j (by simpa using (List.getElem?_eq_some_iff.1 hj).1)
    rw [hj] at h1
    simp only [Bool.and_eq_true, List.all_eq_true] at h1
    refine ⟨fun e he hb => ?_, fun i oi hij hi hc => ?_⟩
    · have := h1.1 e he
      rw [hb] at this
      simpa [Nat.blt_eq] using this
    · have := h1.2 i (by simpa using hij)
      rw [hi] at this
      simpa [hc] using this
  have hsound : ∀ (D : Nat → Prop), Closed l D → ∀ j i, ((masks l []).getD j 0).testBit i = true → D j → D i := fun D hD => masks_sound hD l [] (fun j o h => by simpa using h) (fun j i h => by simp at h)
  have hnone : ∀ (L : Array Bool), L.size = l.length → Region.ready .any l.toArray L = [] → ∀ j, j < l.length → L.getD j false = true := by
    intro L hL hr j
    induction j using Nat.strongRecOn with
    | _ j ih =>
      intro hj
      cases hc : L.getD j false with
      | true => rfl
      | false =>
        exfalso
        obtain ⟨o, ho⟩ : ∃ o, l[j]? = some o := ⟨_, List.getElem?_eq_getElem hj⟩
        have hm : j ∈ Region.ready .any l.toArray L := by
          refine mem_ready.2 ⟨?_, o, by simpa using ho, fun e he hb => ?_⟩
          · have hlt : j < L.size := by omega
            simp [Array.getD_eq_getD_getElem?, hlt] at hc ⊢
            exact hc
          · have hon := (hq' j o ho).1 e (by simpa using he) hb
            exact ih e.on hon (by omega)
        rw [hr] at hm
        cases hm
  -- when all have come up
  have hend : ∀ (L : Array Bool) (G : Cx) (a : Act), G0.Step G → L.size = l.length → Region.ready .any l.toArray L = [] → S8 N G a (fr (fun j => L.getD j false) 0 out F) σ → lift N G0 Q .normal a G.w := by
    intro L G a hst hL hr h8
    refine ⟨G, F', σ, rfl, hst, ⟨h8.rel, fun t => ?_, h8.df, h8.nt⟩, hQ⟩
    have h1 := h8.fr t
    have h2 : (fr (fun j => L.getD j false) 0 out F).get t = (fr (fun j => decide (j < 0 + out.length)) 0 out F).get t := fr_congr out 0 F F rfl (fun j p hp _ => by
      have hj : j < out.length := (List.getElem?_eq_some_iff.1 hp).1
      simp only [Nat.zero_add]
      rw [hnone L hL hr j (by omega)]
      simp [hj])
    rw [h2, fr_pre, List.take_length, ← hF'] at h1
    exact h1
  intro fuel
  induction fuel with
  | zero =>
    intro L G a hst hL hlf hcl h8
    have hr : Region.ready .any l.toArray L = [] := by
      rw [List.eq_nil_iff_forall_not_mem]
      intro i hi
      obtain ⟨h1, o, ho, _⟩ := mem_ready.1 hi
      have hlt : i < L.size := by rw [hL]; simpa using (Array.getElem?_eq_some_iff.1 ho).1
      have : 0 < left L.toList := left_pos i (by simp [Array.getD_eq_getD_getElem?, hlt] at h1 ⊢; exact h1)
      omega
    exact ⟨hr, hend L G a hst hL hr h8⟩
  | succ fuel ih =>
    intro L G a hst hL hlf hcl h8
    refine ⟨fun hr => hend L G a hst hL hr h8, fun i hi => ?_⟩
    obtain ⟨h1, o, ho, hall⟩ := mem_ready.1 hi
    have hli : l[i]? = some o := by simpa using ho
    have hlt : i < L.size := by rw [hL]; exact (List.getElem?_eq_some_iff.1 hli).1
    have hfalse : L.getD i false = false := by simp [Array.getD_eq_getD_getElem?, hlt] at h1 ⊢; exact h1
    obtain ⟨d, x, g1, g2, g3, g4⟩ := hat i o hli
    -- the others that touch its slots: those before it have come up, those behind it have not
    have hcl' : Closed l (fun j => j = i ∨ L.getD j false = true) := by
      intro j oj hj hD e he hb
      rcases hD with rfl | hD
      · rw [hli] at hj; cases hj
        exact .inr (hall e (by simpa using he) hb)
      · exact .inr (hcl j oj hj hD e he hb)
    have hord : ∀ j oj, l[j]? = some oj → j ≠ i → (j < i → clash l.toArray oj o = true → L.getD j false = true) ∧ (i < j → clash l.toArray o oj = true → L.getD j false = false) := by
      intro j oj hj hne
      refine ⟨fun hji hc => ?_, fun hij hc => ?_⟩
      · rcases hsound _ hcl' i j ((hq' i o hli).2 j oj hji hj hc) (.inl rfl) with h | h
        · exact absurd h hne
        · exact h
      · cases hx : L.getD j false with
        | false => rfl
        | true =>
          have := hsound _ hcl j i ((hq' j oj hj).2 i o hij hli hc) hx
          rw [hfalse] at this
          cases this
    have hsel : ∀ t, t ∈ o.looksAt l.toArray → Frm.get ((out.take i).reverse ++ F) t = (fr (fun j => L.getD j false) 0 out F).get t := by
      intro t ht
      rw [← fr_pre out 0 i F]
      refine (fr_congr out 0 F F rfl (fun j p hp hpt => ?_)).symm
      simp only [Nat.zero_add]
      have hj : j < l.length := by rw [hlen]; exact (List.getElem?_eq_some_iff.1 hp).1
      obtain ⟨d', x', k1, k2, _, _⟩ := hat j _ (List.getElem?_eq_getElem hj)
      rw [k1] at hp
      cases hp
      dsimp only at hpt
      subst hpt
      by_cases hji : j = i
      · subst hji; rw [hfalse]; simp
      · rcases Nat.lt_or_gt_of_ne hji with h | h
        · rw [(hord j _ (List.getElem?_eq_getElem hj) hji).1 h (clash_of.1 k2 ht)]; simp [h]
        · rw [(hord j _ (List.getElem?_eq_getElem hj) hji).2 h (clash_of.2.2 k2 ht)]; simp; omega
    -- what is known behind it
    have hnext : ∀ (G' : Cx) (v : Value), G.Ext G' → Rel G' σ → Rep G' v x → wpAny P .any l.toArray (lift N G0 Q) fuel (L.setIfInBounds i true) (a.put (some d) v) G'.w := by
      intro G' v he hr' hv
      refine ih _ G' _ (hst.trans he.step) (by simpa using hL) ?_ ?_ ⟨hr', fun t => ?_, h8.df, by simp [Act.put, h8.nt]⟩
      · have := left_set L.toList i (by simp [Array.getD_eq_getD_getElem?, hlt] at hfalse ⊢; exact hfalse)
        rw [Array.toList_setIfInBounds]; omega
      · intro j oj hj hD e he2 hb
        have key : ∀ k, (L.setIfInBounds i true).getD k false = true ↔ (k = i ∨ L.getD k false = true) := fun k => by
          by_cases hk : i = k
          · subst hk; simp [Array.getD_eq_getD_getElem?, hlt]
          · simp [Array.getD_eq_getD_getElem?, Array.getElem?_setIfInBounds, hk, Ne.symm hk]
        rw [key] at hD ⊢
        exact hcl' j oj hj hD e he2 hb
      · have hselL : ∀ k, k ≠ i → (L.setIfInBounds i true).getD k false = L.getD k false := fun k hk => by
          simp [Array.getD_eq_getD_getElem?, Array.getElem?_setIfInBounds, Ne.symm hk]
        by_cases htd : t = d
        · subst htd
          have h2 : (fr (fun j => (L.setIfInBounds i true).getD j false) 0 out F).get t = x := fr_last out 0 F i g1 (by simp [Array.getD_eq_getD_getElem?, hlt]) (fun j p hp hij hc hpt => by
            simp only [Nat.zero_add] at hc
            rw [hselL j (by omega)] at hc
            have hj : j < l.length := by rw [hlen]; exact (List.getElem?_eq_some_iff.1 hp).1
            obtain ⟨d', x', k1, k2, _, _⟩ := hat j _ (List.getElem?_eq_getElem hj)
            rw [k1] at hp
            cases hp
            dsimp only at hpt
            subst hpt
            have := (hord j _ (List.getElem?_eq_getElem hj) (by omega)).2 hij (clash_of.2.1 g2 k2)
            rw [this] at hc
            cases hc)
          rw [h2]
          have : t < a.tmps.size := by rw [h8.nt]; exact g3
          simpa [Act.put, Array.getD_eq_getD_getElem?, this] using hv
        · have h2 : (fr (fun j => (L.setIfInBounds i true).getD j false) 0 out F).get t = (fr (fun j => L.getD j false) 0 out F).get t := fr_congr out 0 F F rfl (fun j p hp hpt => by
            simp only [Nat.zero_add]
            refine hselL j (fun e => ?_)
            subst e
            rw [g1] at hp
            cases hp
            exact htd hpt.symm)
          rw [h2]
          have := (h8.fr t).ext he
          simpa [Act.put, Array.getD_eq_getD_getElem?, Array.getElem?_setIfInBounds, Ne.symm htd] using this
    unfold wpOp
    simp only [ho]
    rcases g4 with ⟨k1, k2⟩ | ⟨k1, rfl⟩
    · rw [if_pos ((k1.congr hsel).wanted h8.fr)]
      left
      refine (k2.congr hsel) G a _ _ h8.rel (fun y _ => rep_eval h8.fr y) (fun v G' he hr' hv => ?_)
      rw [g2]
      exact hnext G' v he hr' hv
    · rw [if_neg (by rw [(k1.congr hsel).wanted h8.fr]; simp)]
      rw [g2]
      exact hnext G undef (.refl G) h8.rel (.s _)

/-- a region in which all only read, call and make -/
def QX (P : Program) (N : Nat) (ops : Array Oper) (σ : List Ob) (l : List Oper) (F : Frm) (K : Frm → Prop) : Prop := ∃ F' out, QSteps P N ops σ l F F' out ∧ K F'
theorem qx_nil {ops : Array Oper} {K : Frm → Prop} (h : K F) : QX P N ops σ [] F K := ⟨F, [], .nil F, h⟩
theorem qx_op {ops : Array Oper} {K : Frm → Prop} {o : Oper} {d : Nat} {x : AV} (hd : o.dst = some d) (hN : Nat.blt d N = true) (hr : Runs ops F o true) (hD : Does P o F σ x σ) (h : QX P N ops σ l ((d, x) :: F) K) : QX P N ops σ (o :: l) F K := by
  obtain ⟨F', out, h1, h2⟩ := h
  exact ⟨F', _, .run o l F F' x out d hd hN hr hD h1, h2⟩
theorem qx_skip {ops : Array Oper} {K : Frm → Prop} {o : Oper} {d : Nat} (hd : o.dst = some d) (hN : Nat.blt d N = true) (hr : Runs ops F o false) (h : QX P N ops σ l ((d, .s undef) :: F) K) : QX P N ops σ (o :: l) F K := by
  obtain ⟨F', out, h1, h2⟩ := h
  exact ⟨F', _, .skip o l F F' out d hd hN hr h1, h2⟩
theorem left_rep : ∀ n, left (List.replicate n false) = n
  | 0 => rfl
  | n + 1 => by simp [List.replicate_succ, left, left_rep n]; omega
theorem adraw_quiet (hq : qOk l = true) (h : QX P N l.toArray σ l F (fun F' => Q .normal F' σ)) : ADraw P N l F σ Q := fun G a hs => by
  obtain ⟨F', out, h1, h2⟩ := h
  have h3 : ∀ (out : List (Nat × AV)) (k : Nat) (F : Frm), fr (fun j => (Array.replicate l.length false).getD j false) k out F = F := by
    intro out
    induction out with
    | nil => intro k F; rfl
    | cons p out ih =>
      intro k F
      have : (Array.replicate l.length false).getD k false = false := by
        simp only [Array.getD_eq_getD_getElem?, Array.getElem?_replicate]
        split <;> rfl
      simp only [fr, this, cond_false]
      exact ih _ _
  refine quiet_any hq h1 h2 G l.length _ G a (.refl G) (by simp) (by simp [left_rep]) ?_ ?_
  · intro j o hj hD
    have : (Array.replicate l.length false).getD j false = false := by
      simp only [Array.getD_eq_getD_getElem?, Array.getElem?_replicate]
      split <;> rfl
    rw [this] at hD
    cases hD
  · rw [h3]; exact hs

theorem wpAny_mono {md : Region.Mode} {ops : Array Oper} {Q Q' : Exit → Act → World → Prop} (hQ : ∀ e a w, Q e a w → Q' e a w) : ∀ (fuel : Nat) (L : Array Bool) (a : Act) (w : World), wpAny P md ops Q fuel L a w → wpAny P md ops Q' fuel L a w
  | 0, L, a, w, h => ⟨h.1, hQ _ _ _ h.2⟩
  | fuel + 1, L, a, w, h => by
    refine ⟨fun hr => hQ _ _ _ (h.1 hr), fun i hi => ?_⟩
    have h1 := h.2 i hi
    unfold wpOp at h1 ⊢
    split
    · rename_i hn
      rw [hn] at h1
      exact wpAny_mono hQ fuel _ a w h1
    · rename_i o hn
      rw [hn] at h1
      dsimp only at h1
      split
      · rename_i hw
        rw [if_pos hw] at h1
        rcases h1 with h1 | ⟨h1, a0, w0, h2⟩
        · exact .inl (upon_mono (fun a w x => wpAny_mono hQ fuel _ a w x) hQ h1)
        · exact .inr ⟨h1, a0, w0, hQ _ _ _ h2⟩
      · rename_i hw
        rw [if_neg hw] at h1
        exact wpAny_mono hQ fuel _ _ w h1

theorem aw_draw {id : Nat} (hm : P.follows .mixedOrders = true) (h : ADraw P N l F σ Q) : AWp P N (.region id l.toArray true) F σ Q := fun G a hs => by
  refine wp_region_any hm ?_
  have he := drew_ext G
  have h1 := h _ a (hs.step he (drew_rel hs.rel))
  exact wpAny_mono (fun e a w q => lift_mono he.step (fun _ _ _ x => x) q) _ _ _ _ (by simpa using h1)
end
end Go.Proofs.YtanfaepjamkbjaaGreat.Aw
end
section
namespace Go.Proofs.YtanfaepjamkbjaaGreat.Aw
set_option linter.unusedSimpArgs false
set_option linter.unusedVariables false
open Go.RowKit

section
variable {P : Program} {N : Nat} {F : Frm} {σ σ' : List Ob} {Q : Exit → Frm → List Ob → Prop} {next : Frm → List Ob → Prop}
theorem ath_n (h : next F σ) : AThen next Q .normal F σ := h
theorem ath_x {id : Nat} (h : Q (.exit id) F σ) : AThen next Q (.exit id) F σ := h
theorem ath_r (h : Q .ret F σ) : AThen next Q .ret F σ := h
theorem abl_n {id : Nat} (h : Q .normal F σ) : ABlk id Q .normal F σ := h
theorem abl_r {id : Nat} (h : Q .ret F σ) : ABlk id Q .ret F σ := h
theorem abl_hit {id : Nat} (h : Q .normal F σ) : ABlk id Q (.exit id) F σ := by simp only [ABlk, if_true]; exact h
theorem abl_miss {id id' : Nat} (hne : Nat.beq id' id = false) (h : Q (.exit id') F σ) : ABlk id Q (.exit id') F σ := by
  have : id' ≠ id := fun e => by subst e; simp at hne
  simp only [ABlk, if_neg this]; exact h
theorem runs_y {ops : Array Oper} {o : Oper} {j t : Nat} {c : Bool} (h : o.guard = some (j, c)) (hd : (ops[j]?).bind (·.dst) = some t) (hc : F.get t = .s (.bool c)) : Runs ops F o true := by
  have := runs_some (F := F) h hd hc
  simpa using this
theorem runs_nt {ops : Array Oper} {o : Oper} {j t : Nat} (h : o.guard = some (j, true)) (hd : (ops[j]?).bind (·.dst) = some t) (hc : F.get t = .s (.bool false)) : Runs ops F o false := by
  have := runs_some (F := F) h hd hc
  simpa using this
theorem runs_nf {ops : Array Oper} {o : Oper} {j t : Nat} (h : o.guard = some (j, false)) (hd : (ops[j]?).bind (·.dst) = some t) (hc : F.get t = .s (.bool true)) : Runs ops F o false := by
  have := runs_some (F := F) h hd hc
  simpa using this

/-- a loop with a state of its own -/
theorem aw_loops {c : Code} {S : Type} (fr : S → Frm) (st : S → List Ob) (inv : S → Prop) (ms : S → Nat) (s0 : S) (hw : Weak N F σ (fr s0) (st s0)) (h0 : inv s0)
    (round : ∀ s, inv s → AWp P N c (fr s) (st s) (AThen (fun F' σ' => ∃ s', inv s' ∧ ms s' < ms s ∧ Weak N F' σ' (fr s') (st s')) Q)) : AWp P N (.loop c) F σ Q := by
  refine aw_weak hw (aw_loop (fun m F σ => ∃ s, inv s ∧ ms s = m ∧ Weak N F σ (fr s) (st s)) (ms s0) ⟨s0, h0, rfl, Weak.refl⟩ (fun m F σ h => ?_))
  obtain ⟨s, h1, rfl, h3⟩ := h
  refine aw_weak h3 (aw_mono (round s h1) (fun e F σ q => ?_))
  cases e with
  | normal => obtain ⟨s', g1, g2, g3⟩ := q; exact ⟨ms s', g2, s', g1, rfl, g3⟩
  | _ => exact q
/-- ways that meet again -/
theorem aw_cut {c : Code} (mid : Frm → List Ob → Prop) (h : AWp P N c F σ (AThen (fun F' σ' => ∃ F'' σ'', mid F'' σ'' ∧ Weak N F' σ' F'' σ'') Q)) (k : ∀ F' σ', mid F' σ' → Q .normal F' σ') : AWp P N c F σ Q := fun G a hs =>
  Code.wp_mono (fun e a w q => by
    obtain ⟨G', F', σ', rfl, g2, g3, g4⟩ := q
    cases e with
    | normal =>
      obtain ⟨F'', σ'', hm, hw⟩ := g4
      obtain ⟨G2, e2, s2, h8⟩ := hw G' a g3
      exact ⟨G2, F'', σ'', e2, g2.trans s2, h8, k F'' σ'' hm⟩
    | _ => exact ⟨G', F', σ', rfl, g2, g3, g4⟩) (h G a hs)
/-- a slice is not too long -/
theorem rep_len {G : Cx} {v : Value} {l : List AV} (h : Rep G v (.sl l)) : l.length ≤ maxLen := by
  cases h with
  | slnil => exact Nat.zero_le _
  | sl b o cap sz _ val hc hm h1 h2 h => exact hm
theorem aw_bd {c : Code} {d : Nat} {L : List AV} (hd : F.get d = .sl L) (k : L.length ≤ maxLen → AWp P N c F σ Q) : AWp P N c F σ Q := fun G a hs => k (rep_len (by rw [← hd]; exact hs.fr d)) G a hs
theorem aw_bdm {α : Type} {f : α → AV} {l : List α} {c : Code} {d : Nat} (hd : F.get d = .sl (l.map f)) (k : l.length ≤ maxLen → AWp P N c F σ Q) : AWp P N c F σ Q := aw_bd hd (fun h => k (by simpa using h))
/-- the same with a state of its own -/
theorem aw_cuts {c : Code} {S : Type} (fr : S → Frm) (st : S → List Ob) (inv : S → Prop) (h : AWp P N c F σ (AThen (fun F' σ' => ∃ s, inv s ∧ Weak N F' σ' (fr s) (st s)) Q)) (k : ∀ s, inv s → Q .normal (fr s) (st s)) : AWp P N c F σ Q :=
  aw_cut (fun F σ => ∃ s, inv s ∧ F = fr s ∧ σ = st s) (aw_mono h (fun e F σ q => by
    cases e with
    | normal => obtain ⟨s, h1, h2⟩ := q; exact ⟨fr s, st s, ⟨s, h1, rfl, rfl⟩, h2⟩
    | _ => exact q)) (fun F' σ' h => by obtain ⟨s, h1, rfl, rfl⟩ := h; exact k s h1)

/-- knowing less: slots are forgotten, rows behind the first few too -/
def Sub (F : Frm) : Frm → Prop
  | [] => True
  | (d, y) :: F' => F.get d = y ∧ Sub F F'
theorem wk_sub : ∀ F', Sub F F' → Weak N F σ F' σ := fun F' h G a hs => ⟨G, rfl, .refl G, hs.rel, by
  have key : ∀ F', Sub F F' → FOk G a F' := by
    intro F'
    induction F' with
    | nil => intro _ d; exact .any _
    | cons p F' ih =>
      obtain ⟨d, y⟩ := p
      intro h t
      simp only [Frm.get]
      cases e : Nat.beq d t with
      | true => have := Nat.eq_of_beq_eq_true e; subst this; rw [← h.1]; exact hs.fr d
      | false => exact ih h.2 t
  exact key F' h, hs.df, hs.nt⟩

theorem dec_t {o : Oper} {p : Prop} [Decidable p] (h : p) (hd : Does P o F σ (.s (.bool (decide p))) σ') : Does P o F σ (.s (.bool true)) σ' := by rwa [decide_eq_true h] at hd
theorem dec_f {o : Oper} {p : Prop} [Decidable p] (h : ¬ p) (hd : Does P o F σ (.s (.bool (decide p))) σ') : Does P o F σ (.s (.bool false)) σ' := by rwa [decide_eq_false h] at hd
section
variable {o : Oper}
theorem does_pickT {c x y : Operand} {u : AV} (ho : o.op = .pick c x y) (hc : F.eval c = .s (.bool true)) (hu : F.eval x = u) : Does P o F σ u σ := hu ▸ does_pick ho hc
theorem pickT_s {c x y : Operand} {v : Value} (ho : o.op = .pick c x y) (hc : F.eval c = .s (.bool true)) (hu : F.eval x = .s v) : Does P o F σ (.s v) σ := does_pickT ho hc hu
theorem does_pickF {c x y : Operand} {u : AV} (ho : o.op = .pick c x y) (hc : F.eval c = .s (.bool false)) (hu : F.eval y = u) : Does P o F σ u σ := hu ▸ does_pick ho hc
theorem pickF_s {c x y : Operand} {v : Value} (ho : o.op = .pick c x y) (hc : F.eval c = .s (.bool false)) (hu : F.eval y = .s v) : Does P o F σ (.s v) σ := does_pickF ho hc hu
theorem does_len_map {α : Type} {f : α → AV} {l : List α} {t e : TypeId} {x : Operand} (ho : o.op = .call { callee := .builtin .len, args := #[x], argTypes := #[t] }) (ht : tySlice P t = some e) (hx : F.eval x = .sl (l.map f)) : Does P o F σ (.s (.int .i64 (l.length : Nat))) σ := by
  have := does_len_sl (F := F) (σ := σ) ho ht hx
  rwa [List.length_map] at this
theorem does_len_emp {t e : TypeId} {x : Operand} (ho : o.op = .call { callee := .builtin .len, args := #[x], argTypes := #[t] }) (ht : tySlice P t = some e) (hx : F.eval x = .emp) : Does P o F σ (.s (.int .i64 0)) σ :=
  does_val fun G ρ hr hop => by
    have h1 := hop x (by simp [ho, Op.operands, Call.operands])
    rw [hx] at h1
    generalize hv : ρ x = v at h1
    cases h1 with
    | emp A hA => exact ⟨_, run_len_slice ht ho ρ _ _ _ hv _, .s _⟩
theorem does_load_refw {t : TypeId} {x : Operand} {z : Option Value} {n bt : Nat} {cs : List AV} (ho : o.op = .load t x) (ha : tyAgg P t = some true) (hi : tyInfo P t = some (z, n, bt)) (hx : F.eval x = .ref cs) (hn : cs.length = n) : Does P o F σ (.agg cs) σ := by
  have := does_load_refs (F := F) (σ := σ) ho ha hi hx (by omega)
  rwa [← hn, List.take_length] at this
theorem does_eqlb {t t' : TypeId} {x y : Operand} {a b : Bool} (ht : P.underlying t = some .bool) (ho : o.op = .binOp .eql t x y t') (hx : F.eval x = .s (.bool a)) (hy : F.eval y = .s (.bool b)) : Does P o F σ (.s (.bool (a == b))) σ :=
  does_bin ho hx hy fun w => by
    have h1 : ∀ d, (Op.equalIn (d + 1) t (.bool a) (.bool b)).run P w = .ok (a == b) w := fun d => by simp [Op.equalIn, run_underlying ht]
    have h2 : (Op.equal t (.bool a) (.bool b)).run P w = .ok (a == b) w := h1 9999
    have h3 : (binOp .eql t (.bool a) (.bool b) : Sem Value) = (do pure (.bool (← Op.equal t (.bool a) (.bool b)))) := rfl
    rw [Sem.run_bind, show (eqGuard .eql t x y (.bool a) (.bool b)).run P w = .ok () w from rfl, Result.andThen_ok, h3, Sem.run_bind, h2]
    rfl
theorem does_nil_ref {x : Operand} {cs : List AV} (ho : o.op = .nilCheck x) (hx : F.eval x = .ref cs) : Does P o F σ (.ref cs) σ :=
  does_val fun G ρ hr hop => by
    have h1 := hop x (by simp [ho, Op.operands])
    rw [hx] at h1
    generalize hv : ρ x = u at h1
    cases h1 with
    | ref b i _ val h1 h2 h => exact ⟨_, by simp [execOp, ho, hv], .ref b i cs val h1 h2 h⟩
end
/-- one result, in a slot -/
theorem post1 {t : Nat} {x r : AV} {e : Exit} (he : e = .normal ∨ e = .ret) (h : F.get t = x) (hr : x = r) : APost P [.tmp t] r e F σ := ⟨he, [x], .cons _ _ _ _ (.tmp t x h) .nil, by subst hr; exact .refl _⟩
end
/-- an element of a list of data -/
theorem ix_map {α : Type} [Inhabited α] {f : α → AV} {l : List α} {k : Nat} (h : k < l.length) : (l.map f)[k]? = some (f (gti l k)) := by
  rw [List.getElem?_map, gti_get h]; rfl
theorem lo_nil {k : Nat} : ∀ y ∈ ([] : List AV), Lo k y := by simp
theorem lo_cons {k : Nat} {x : AV} {l : List AV} (h : Lo k x) (t : ∀ y ∈ l, Lo k y) : ∀ y ∈ x :: l, Lo k y := by
  intro y hy
  rcases List.mem_cons.1 hy with rfl | hy
  · exact h
  · exact t y hy
theorem lo_map {k : Nat} {α : Type} {f : α → AV} {l : List α} (h : ∀ a, Lo k (f a)) : Lo k (.sl (l.map f)) := .sl _ fun y hy => by
  obtain ⟨a, _, rfl⟩ := List.mem_map.1 hy
  exact h a
theorem lo_mapE {k : Nat} {α : Type} {f : α → AV} {l : List α} (h : ∀ a, ∀ c ∈ (f a).cells, Lo k c) : ∀ e ∈ l.map f, ∀ c ∈ e.cells, Lo k c := fun y hy => by
  obtain ⟨a, _, rfl⟩ := List.mem_map.1 hy
  exact h a
theorem lo_nilE {k : Nat} : ∀ e ∈ ([] : List AV), ∀ c ∈ e.cells, Lo k c := by simp
theorem lo_consE {k : Nat} {x : AV} {l : List AV} (h : Lo k x) (t : ∀ e ∈ l, ∀ c ∈ e.cells, Lo k c) : ∀ e ∈ x :: l, ∀ c ∈ e.cells, Lo k c := by
  intro y hy
  rcases List.mem_cons.1 hy with rfl | hy
  · exact h.cells
  · exact t y hy
theorem flat_nil : ∀ c ∈ ([] : List AV), Flat c := by simp
theorem flat_cons {x : AV} {l : List AV} (h : Flat x) (t : ∀ c ∈ l, Flat c) : ∀ c ∈ x :: l, Flat c := by
  intro y hy
  rcases List.mem_cons.1 hy with rfl | hy
  · exact h
  · exact t y hy

/-- data -/
def eI (n : Int) : AV := .s (.int .i64 n)
def eB (b : Bool) : AV := .s (.bool b)
def eS (s : ByteArray) : AV := .s (.string s)
def eL {α : Type} (f : α → AV) (l : List α) : AV := .sl (l.map f)
end Go.Proofs.YtanfaepjamkbjaaGreat.Aw
end
section
namespace Go.Proofs.YtanfaepjamkbjaaGreat.Aw
set_option linter.unusedSimpArgs false
set_option linter.unusedVariables false
open Go Go.Proofs Go.RowKit Go.Maps Go.WideMaps

def tyMap (P : Program) (t : TypeId) : Option (TypeId × TypeId) := match P.underlying t with | some (.map k e) => some (k, e) | _ => none
theorem map_of {P : Program} {t k e : TypeId} (h : tyMap P t = some (k, e)) : P.underlying t = some (.map k e) := by
  unfold tyMap at h
  split at h
  · rename_i h1; cases h; exact h1
  · cases h
def unLit : Lit → Value
  | .int q a => .int q a
  | .bool b => .bool b
  | .string l => .string ⟨l.toArray⟩
  | _ => undef
theorem plain_unlit {P : Program} {e : TypeId} {v : Value} {l : Lit} {ps : List MemPlace} (h : plainElem (H := Unit) P e v = some (.lit l, ps)) : v = unLit l := by
  unfold plainElem at h
  split at h
  · simp at h; obtain ⟨rfl, _⟩ := h; rfl
  · split at h
    · rename_i hq
      simp at h; obtain ⟨rfl, _⟩ := h
      rw [hq.1]; rfl
    · cases h
  · split at h
    · simp at h; obtain ⟨rfl, _⟩ := h
      simp [unLit]
    · cases h
  · cases h
section
variable {P : Program} {o : Oper} {F : Frm} {σ : List Ob} {G : Cx}
theorem map_new (hr : Rel G σ) (Q : Program) (kt el : TypeId) : G.Ext (G.new σ.length (G.w.alloc (.map #[] 0)) (some G.w.heap.size)) ∧ Rel (G.new σ.length (G.w.alloc (.map #[] 0)) (some G.w.heap.size)) (σ ++ [.mp ⟨Q, kt, el, 0, .map []⟩]) := by
  have hold : ∀ k, k < G.w.heap.size → (G.w.alloc (.map #[] 0)).heap[k]? = G.w.heap[k]? := fun k hk => heap_alloc_old (r := k) G.w _ hk
  have hext : G.Ext (G.new σ.length (G.w.alloc (.map #[] 0)) (some G.w.heap.size)) := by
    refine ⟨rfl, rfl, fun _ _ h => h, fun b o h => World.cell?_of_block (hold b (hr.st b o h)), fun id x h => ?_, by simp [Cx.new], fun b cur t f h => ⟨cur, ?_, rfl⟩, fun _ _ h => .inl h⟩
    · have : id ≠ σ.length := by
        intro e2
        rw [e2, hr.fresh _ (Nat.le_refl _)] at h
        cases h
      simp [Cx.new, this, h]
    · exact (hold b (Array.getElem?_eq_some_iff.1 h).1).trans h
  have hble : G.base ≤ G.w.heap.size := by have h1 := hr.le; have h2 := hr.below.size; omega
  refine ⟨hext, hr.below.alloc hble _, hr.le, fun b o hb => ?_, fun id ob hob => ?_, fun i j b hi hj hmi hmj => ?_, fun id hid => ?_⟩
  · have := hr.st b o hb
    simp only [Cx.new, World.size_alloc]; omega
  · by_cases hid : id < σ.length
    · rw [List.getElem?_append_left hid] at hob
      have h1 := hr.obs id ob hob
      have hne : id ≠ σ.length := by omega
      have hm : (G.new σ.length (G.w.alloc (.map #[] 0)) (some G.w.heap.size)).mu id = G.mu id := by simp [Cx.new, hne]
      refine h1.of hm rfl rfl (by simp [Cx.new]) (fun b sz cs f _ _ hx => ?_) (fun b X hb hX _ => ⟨hold b hX.lt, fun j hj => ?_⟩)
      · obtain ⟨cur, t, fr, h2, h3, h4, h5⟩ := hx
        refine ⟨cur, t, fr, (hold b (Array.getElem?_eq_some_iff.1 h2).1).trans h2, h3, h4, fun k x hx => ⟨(h5 k x hx).1, (h5 k x hx).2.1, fun j c hc => ?_⟩⟩
        obtain ⟨v, h6, h7⟩ := (h5 k x hx).2.2 j c hc
        exact ⟨v, h6, h7.ext hext⟩
      · by_cases e2 : j = σ.length
        · subst e2
          have := hX.lt
          simp [Cx.new] at hj
          omega
        · simpa [Cx.new, e2] using hj
    · have hid2 : id = σ.length := by
        have := (List.getElem?_eq_some_iff.1 hob).1
        simp at this; omega
      subst hid2
      simp at hob
      subst hob
      refine ⟨G.w.heap.size, by simp [Cx.new], World.ownsMap_made _ _ _ _, hble, fun o ho => ?_, fun j hj => ?_⟩
      · have := hr.st _ _ ho
        omega
      · by_cases e2 : j = σ.length
        · exact e2
        · exfalso
          have hj2 : G.mu j = some (some G.w.heap.size) := by simpa [Cx.new, e2] using hj
          -- a name of a block that is not there yet
          by_cases hlt : j < σ.length
          · obtain ⟨ob, hob⟩ : ∃ ob, σ[j]? = some ob := ⟨_, List.getElem?_eq_getElem hlt⟩
            have := (hr.obs j ob hob).lt hj2
            omega
          · rw [hr.fresh j (by omega)] at hj2; cases hj2
  · have old : ∀ i b, alive (σ ++ [.mp ⟨Q, kt, el, 0, .map []⟩]) i → (G.new σ.length (G.w.alloc (.map #[] 0)) (some G.w.heap.size)).mu i = some (some b) → alive σ i ∧ G.mu i = some (some b) := by
      rintro i b ⟨sz1, cs1, hi⟩ hm
      by_cases hlt : i < σ.length
      · rw [List.getElem?_append_left hlt] at hi
        exact ⟨⟨sz1, cs1, hi⟩, by simpa [Cx.new, Nat.ne_of_lt hlt] using hm⟩
      · have := (List.getElem?_eq_some_iff.1 hi).1
        simp at this
        have he : i = σ.length := by omega
        subst he
        simp at hi
    exact hr.inj i j b (old i b hi hmi).1 (old j b hj hmj).1 (old i b hi hmi).2 (old j b hj hmj).2
  · simp at hid
    have hne : id ≠ σ.length := by omega
    simp [Cx.new, hne, hr.fresh id (by omega)]
theorem map_put {id b : Nat} {X X' : MapX} {w' : World} (hr : Rel G σ) (hs : σ[id]? = some (.mp X)) (hm : G.mu id = some (some b)) (hg : G.w.grownBy w' (some b)) (hX : X'.At w' b) : G.Ext { G with w := w' } ∧ Rel { G with w := w' } (σ.set id (.mp X')) := by
  have hid : id < σ.length := (List.getElem?_eq_some_iff.1 hs).1
  obtain ⟨b0, h1, h2, h3, h4, h5⟩ := hr.obs id _ hs
  rw [hm] at h1
  cases h1
  obtain ⟨es, cl, hmap⟩ := h2.map
  have hold : ∀ k, k < G.w.heap.size → k ≠ b → w'.heap[k]? = G.w.heap[k]? := fun k hk hne => hg.block k hk (fun e => hne (by injection e))
  have hcells : ∀ (k : Nat) (cur : Array Value) (t : TypeId) (f : Nat × Nat), G.w.heap[k]? = some (.cells cur t f) → w'.heap[k]? = some (.cells cur t f) := fun k cur t f h => by
    rw [hold k (Array.getElem?_eq_some_iff.1 h).1 (fun e => by subst e; rw [hmap] at h; cases h)]
    exact h
  have hext : G.Ext { G with w := w' } := by
    refine ⟨rfl, rfl, fun _ _ h => h, fun k o h => World.cell?_of_block (hold k (hr.st k o h) (fun e => h4 o (e ▸ h))), fun _ _ h => h, hg.size, fun k cur t f h => ⟨cur, hcells k cur t f h, rfl⟩, fun _ _ h => .inl h⟩
  have hble : G.base ≤ G.w.heap.size := by have h1 := hr.le; have h2 := hr.below.size; omega
  refine ⟨hext, hr.below.trans ⟨hg.os, hg.tape, hg.output, hg.size, fun k hk => hold k (by omega) (by omega)⟩, hr.le, fun k o h => Nat.lt_of_lt_of_le (hr.st k o h) hg.size, fun i ob hob => ?_, fun i j k hi hj hmi hmj => ?_, fun i hi => hr.fresh i (by simpa using hi)⟩
  · by_cases hi : id = i
    · subst hi
      rw [List.getElem?_set_self hid] at hob
      cases hob
      exact ⟨b, hm, hX, h3, h4, h5⟩
    · rw [List.getElem?_set_ne hi] at hob
      refine (hr.obs i ob hob).of rfl rfl rfl hg.size (fun k sz cs f _ _ hx => ?_) (fun k Y hk hY _ => ⟨hold k hY.lt (fun e => ?_), fun j hj => hj⟩)
      · obtain ⟨cur, t, fr, g2, g3, g4, g5⟩ := hx
        refine ⟨cur, t, fr, hcells k cur t fr g2, g3, g4, fun q x hx => ⟨(g5 q x hx).1, (g5 q x hx).2.1, fun j c hc => ?_⟩⟩
        obtain ⟨v, h6, h7⟩ := (g5 q x hx).2.2 j c hc
        exact ⟨v, h6, h7.ext hext⟩
      · subst e
        exact hi (h5 i hk).symm
  · have old : ∀ i, alive (σ.set id (.mp X')) i → alive σ i := by
      rintro i ⟨sz1, cs1, hi⟩
      by_cases h2 : id = i
      · subst h2; rw [List.getElem?_set_self hid] at hi; cases hi
      · rw [List.getElem?_set_ne h2] at hi; exact ⟨sz1, cs1, hi⟩
    exact hr.inj i j k (old i hi) (old j hj) hmi hmj
theorem does_mkmap {t kt el : TypeId} (ho : o.op = .makeMap t none) (ht : tyMap P t = some (kt, el)) : Does P o F σ (.mp σ.length) (σ ++ [.mp ⟨P, kt, el, 0, .map []⟩]) :=
  does_new (x := .any) fun G ρ hr hop => by
    obtain ⟨h1, h2⟩ := map_new hr P kt el
    refine ⟨.map (some G.w.heap.size), _, ?_, h1, h2, .mp _ _ (by simp [Cx.new])⟩
    simp only [execOp, ho, Option.map_none, Sem.run_bind, run_makeMap, Result.andThen_ok, Sem.run_pure, Cx.new]
theorem does_mapput {t kt el : TypeId} {m x y : Operand} {id : Nat} {X : MapX} {key val : Value} {kl dl : Lit} (ho : o.op = .mapUpdate t m x y ∨ o.op = .insert t m x y) (ht : tyMap P t = some (kt, el)) (K : Keyed P kt) (hm : F.eval m = .mp id) (hs : σ[id]? = some (.mp X)) (hX : X.P = P ∧ X.kt = kt ∧ X.el = el) (hn : X.n < maxLen)
    (hx : F.eval x = .s key) (hy : F.eval y = .s val) (hkey : keyOf P kt key = some kl) (hv : plainElem (H := Unit) P el val = some (.lit dl, [])) : Does P o F σ .any (σ.set id (.mp { X with n := X.n + 1, D := X.D.put kl (.lit dl) })) :=
  does_eff fun G ρ hr hop => by
    have g1 := hop m (by rcases ho with ho | ho <;> simp [ho, Op.operands])
    have g2 := hop x (by rcases ho with ho | ho <;> simp [ho, Op.operands])
    have g3 := hop y (by rcases ho with ho | ho <;> simp [ho, Op.operands])
    rw [hm] at g1
    rw [hx] at g2
    rw [hy] at g3
    have e2 := rep_s g2
    have e3 := rep_s g3
    generalize hu : ρ m = u at g1
    cases g1 with
    | mp _ b hmu =>
      obtain ⟨b0, h1, h2, h3, h4, h5⟩ := hr.obs id _ hs
      rw [hmu] at h1
      cases h1
      obtain ⟨XP, Xk, Xe, Xn, XD⟩ := X
      obtain ⟨rfl, rfl, rfl⟩ := hX
      obtain ⟨w', hrun, k1, k2⟩ := World.ownsMap.update h2 K (map_of ht) hn hkey hv
      obtain ⟨q1, q2⟩ := map_put (X' := ⟨XP, Xk, Xe, Xn + 1, XD.put kl (.lit dl)⟩) hr hs hmu k2 k1
      refine ⟨{ G with w := w' }, ?_, q1, q2⟩
      rcases ho with ho | ho <;> simp [execOp, ho, hu, e2, e3, hrun, Result.andThen]
theorem does_lookup {t kt el : TypeId} {m x : Operand} {id : Nat} {X : MapX} {key z : Value} {kl zl rl : Lit} {n bt : Nat} (ho : o.op = .lookup t m x false) (ht : tyMap P t = some (kt, el)) (K : Keyed P kt) (hm : F.eval m = .mp id) (hs : σ[id]? = some (.mp X)) (hX : X.P = P ∧ X.kt = kt ∧ X.el = el)
    (hx : F.eval x = .s key) (hkey : keyOf P kt key = some kl) (hi : tyInfo P el = some (some z, n, bt)) (hz : plainElem (H := Unit) P el z = some (.lit zl, [])) (hr : X.D.atKey kl (.lit zl) = .lit rl) : Does P o F σ (.s (unLit rl)) σ :=
  does_val fun G ρ hrel hop => by
    have g1 := hop m (by simp [ho, Op.operands])
    have g2 := hop x (by simp [ho, Op.operands])
    rw [hm] at g1
    rw [hx] at g2
    have e2 := rep_s g2
    generalize hu : ρ m = u at g1
    cases g1 with
    | mp _ b hmu =>
      obtain ⟨b0, h1, h2, h3, h4, h5⟩ := hrel.obs id _ hs
      rw [hmu] at h1
      cases h1
      obtain ⟨XP, Xk, Xe, Xn, XD⟩ := X
      obtain ⟨rfl, rfl, rfl⟩ := hX
      obtain ⟨i, k1, k2, k3, k4⟩ := info_of hi
      have hzero : (zeroValue Xe).run XP G.w = .ok z G.w := by simp [zeroValue, typeInfo, k1, k2]
      obtain ⟨v, ps, hrun, hv⟩ := World.ownsMap.lookup h2 K (map_of ht) hzero hz hkey
      have hr' : XD.atKey kl (.lit zl) = .lit rl := hr
      rw [hr'] at hv
      have := plain_unlit hv
      subst this
      refine ⟨_, ?_, .s _⟩
      simp [execOp, ho, hu, e2, hrun, Result.andThen]
end
end Go.Proofs.YtanfaepjamkbjaaGreat.Aw
end
section
namespace Go.Proofs.YtanfaepjamkbjaaGreat.Aw
set_option linter.unusedSimpArgs false
set_option linter.unusedVariables false
open Go Go.Proofs Go.RowKit

section
variable {P : Program} {o : Oper} {F : Frm} {σ : List Ob} {G : Cx}
/-- a part of a finished slice -/
theorem rep_sliced {A : Option Addr} {cap l h s : Nat} {L : List AV} (hr : Rep G (.slice A L.length cap) (.sl L)) (hlh : l ≤ h) (hh : h ≤ L.length) (hs : ∀ e ∈ L, e.cells.length = s) : Rep G (sliced A l h cap s) (.sl ((L.take h).drop l)) := by
  have hlen : ((L.take h).drop l).length = h - l := by simp; omega
  generalize hn : L.length = n at hr
  cases hr with
  | slnil =>
    simp at hn hh
    obtain rfl : l = 0 := by omega
    subst hh
    simp only [sliced, List.take_nil, List.drop_nil]
    exact .slnil _ _
  | sl b o _ sz _ val hc hm h1 h2 h3 =>
    by_cases hml : cap = l
    · have e : h = l := by omega
      subst e
      have : (L.take h).drop h = [] := List.eq_nil_of_length_eq_zero (by rw [hlen]; omega)
      rw [this]
      simp only [sliced, Nat.sub_self]
      exact .slnil _ _
    · by_cases he : h = l
      · subst he
        have : (L.take h).drop h = [] := List.eq_nil_of_length_eq_zero (by rw [hlen]; omega)
        rw [this]
        simp only [sliced, Nat.sub_self]
        exact .slnil _ _
      · have hsz : s = sz := by
          have h0 : 0 < L.length := by omega
          rw [← (h1 0 _ (List.getElem?_eq_getElem h0)).1, hs _ (List.getElem_mem h0)]
        subst hsz
        have hget : ∀ (k : Nat) e, ((L.take h).drop l)[k]? = some e → L[k + l]? = some e := by
          intro k e hk
          rw [List.getElem?_drop, List.getElem?_take] at hk
          split at hk
          · rw [Nat.add_comm]; exact hk
          · cases hk
        have hidx : ∀ k j, o + l * s + k * s + j = o + (k + l) * s + j := fun k j => by rw [Nat.add_mul]; omega
        simp only [sliced, if_neg hml, Option.map_some]
        have := Rep.sl (G := G) b (o + l * s) (cap - l) s ((L.take h).drop l) (fun k j => val (k + l) j) (by rw [hlen]; omega) (by rw [hlen]; omega) (fun k e hk => h1 _ e (hget k e hk)) (fun k e j c hk hc => by rw [hidx]; exact h2 _ e j c (hget k e hk) hc) (fun k e j c hk hc => h3 _ e j c (hget k e hk) hc)
        rw [hlen] at this
        simp only [Addr.add]
        split
        · rename_i h0
          rw [h0, Nat.add_zero] at this
          exact this
        · exact this
theorem elem_of {P : Program} {t e : TypeId} (h : tySlice P t = some e) : P.elem t = e ∧ P.underlying t = some (.slice (P.elem t)) := by
  have h1 := slice_of h
  have : P.elem t = e := by simp [Program.elem, h1]
  exact ⟨this, by rw [this]; exact h1⟩
theorem does_slice_l {t e : TypeId} {x y : Operand} {z : Option Value} {n bt : Nat} {L : List AV} {k : IntKind} {i : Int} {l : Nat} (ho : o.op = .slice t x (some y) none none) (ht : tySlice P t = some e) (hi : tyInfo P e = some (z, n, bt)) (hx : F.eval x = .sl L) (hy : F.eval y = .s (.int k i)) (hk : i = (l : Int)) (hl : l ≤ L.length) (hs : ∀ e ∈ L, e.cells.length = n) : Does P o F σ (.sl (L.drop l)) σ :=
  does_val fun G ρ hr hop => by
    have g1 := hop x (by simp [ho, Op.operands])
    have g2 := hop y (by simp [ho, Op.operands])
    rw [hx] at g1
    rw [hy] at g2
    have e2 := rep_s g2
    obtain ⟨q1, q2⟩ := elem_of ht
    obtain ⟨A, cap, hv⟩ : ∃ A cap, ρ x = .slice A L.length cap := by
      generalize ρ x = u at g1
      cases g1 with
      | slnil A c => exact ⟨_, _, rfl⟩
      | sl b o c sz _ val hc hm h1 h2 h => exact ⟨_, _, rfl⟩
    rw [hv] at g1
    have h1 := rep_sliced (s := n) g1 hl (Nat.le_refl _) hs
    rw [List.take_length] at h1
    refine ⟨_, ?_, h1⟩
    subst hk
    have h2 := run_slice_l (P := P) G.w t A L.length cap q2 k (l : Int) (by omega) (by omega)
    simp only [execOp, ho, Option.map_some, Option.map_none, hv, e2, Sem.run_bind, run_sliceAt_slice (P := P) G.w t _ _ _ _ q2, h2, q1, run_sizeOf hi, Result.andThen_ok, Sem.run_pure, Int.toNat_natCast]
theorem does_slice_h {t e : TypeId} {x y : Operand} {z : Option Value} {n bt : Nat} {L : List AV} {k : IntKind} {i : Int} {h : Nat} (ho : o.op = .slice t x none (some y) none) (ht : tySlice P t = some e) (hi : tyInfo P e = some (z, n, bt)) (hx : F.eval x = .sl L) (hy : F.eval y = .s (.int k i)) (hk : i = (h : Int)) (hl : h ≤ L.length) (hs : ∀ e ∈ L, e.cells.length = n) : Does P o F σ (.sl (L.take h)) σ :=
  does_val fun G ρ hr hop => by
    have g1 := hop x (by simp [ho, Op.operands])
    have g2 := hop y (by simp [ho, Op.operands])
    rw [hx] at g1
    rw [hy] at g2
    have e2 := rep_s g2
    obtain ⟨q1, q2⟩ := elem_of ht
    obtain ⟨A, cap, hv, hcap⟩ : ∃ A cap, ρ x = .slice A L.length cap ∧ L.length ≤ cap := by
      generalize ρ x = u at g1
      cases g1 with
      | slnil A c => exact ⟨_, _, rfl, Nat.zero_le _⟩
      | sl b o c sz _ val hc hm h1 h2 h => exact ⟨_, _, rfl, hc⟩
    rw [hv] at g1
    have h1 := rep_sliced (s := n) g1 (Nat.zero_le h) hl hs
    rw [List.drop_zero] at h1
    refine ⟨_, ?_, h1⟩
    subst hk
    have h2 := run_slice_h (P := P) G.w t A L.length cap q2 k (h : Int) (by omega) (by omega)
    simp only [execOp, ho, Option.map_some, Option.map_none, hv, e2, Sem.run_bind, run_sliceAt_slice (P := P) G.w t _ _ _ _ q2, h2, q1, run_sizeOf hi, Result.andThen_ok, Sem.run_pure, Int.toNat_natCast]
end
end Go.Proofs.YtanfaepjamkbjaaGreat.Aw
end
section
namespace Go.Proofs.YtanfaepjamkbjaaGreat.Aw
set_option linter.unusedSimpArgs false
set_option linter.unusedVariables false
open Go Go.Proofs Go.RowKit
theorem mv_mp {P : Program} {o : Oper} {F : Frm} {σ : List Ob} {y : Operand} {id : Nat} (ho : o.op = .move y ∨ o.op = .assign y) (hx : F.eval y = .mp id) : Does P o F σ (.mp id) σ := does_mv ho hx
end Go.Proofs.YtanfaepjamkbjaaGreat.Aw
end
section
namespace Go.Proofs.YtanfaepjamkbjaaGreat.Aw
set_option linter.unusedSimpArgs false
set_option linter.unusedVariables false
open Go.RowKit

def liftE (N : Nat) (G : Cx) (Q : Exit → Frm → List Ob → Prop) : Exit → Act → World → Prop :=
  fun e a' w' => ∃ G' F' σ', G'.w = w' ∧ G.Ext G' ∧ S8 N G' a' F' σ' ∧ Q e F' σ'
theorem liftE_mono {N : Nat} {G G1 : Cx} (h : G.Ext G1) {Q Q' : Exit → Frm → List Ob → Prop} (hq : ∀ e F σ, Q e F σ → Q' e F σ) {e : Exit} {a : Act} {w : World} (x : liftE N G1 Q e a w) : liftE N G Q' e a w := by
  obtain ⟨G', F', σ', h1, h2, h3, h4⟩ := x
  exact ⟨G', F', σ', h1, h.trans h2, h3, hq _ _ _ h4⟩

def EWp (P : Program) (N : Nat) (c : Code) (F : Frm) (σ : List Ob) (Q : Exit → Frm → List Ob → Prop) : Prop :=
  ∀ G a, S8 N G a F σ → c.wp P (liftE N G Q) a G.w
def EOps (P : Program) (N : Nat) (ops : Array Oper) (l : List Oper) (F : Frm) (σ : List Ob) (Q : Exit → Frm → List Ob → Prop) : Prop :=
  ∀ G a, S8 N G a F σ → wpList P ops (liftE N G Q) l a G.w

section
variable {P : Program} {N : Nat} {F : Frm} {σ : List Ob} {Q : Exit → Frm → List Ob → Prop}

theorem ew_seq {x y : Code} (h : EWp P N x F σ (AThen (fun F σ => EWp P N y F σ Q) Q)) : EWp P N (.seq x y) F σ Q := fun G a hs => by
  refine wp_seq (Code.wp_mono (fun e a1 w1 q => ?_) (h G a hs))
  obtain ⟨G', F', σ', rfl, h2, h3, h4⟩ := q
  cases e with
  | normal => exact Code.wp_mono (fun e a w q => liftE_mono h2 (fun _ _ _ x => x) q) (h4 G' a1 h3)
  | _ => exact ⟨G', F', σ', rfl, h2, h3, h4⟩
theorem ew_skip (h : Q .normal F σ) : EWp P N .skip F σ Q := fun G a hs => wp_skip ⟨G, F, σ, rfl, .refl G, hs, h⟩
theorem ew_exit {id : Nat} (h : Q (.exit id) F σ) : EWp P N (.exit id) F σ Q := fun G a hs => wp_exit ⟨G, F, σ, rfl, .refl G, hs, h⟩
theorem ew_ret (h : Q .ret F σ) : EWp P N .ret F σ Q := fun G a hs => wp_ret ⟨G, F, σ, rfl, .refl G, hs, h⟩
theorem ew_block {id : Nat} {c : Code} (h : EWp P N c F σ (ABlk id Q)) : EWp P N (.block id c) F σ Q := fun G a hs => by
  refine wp_block (Code.wp_mono (fun e a1 w1 q => ?_) (h G a hs))
  obtain ⟨G', F', σ', rfl, h2, h3, h4⟩ := q
  cases e with
  | exit id' =>
    simp only [ABlk] at h4
    simp only [Exit.inBlock]
    split
    · rename_i e; rw [if_pos e] at h4; exact ⟨G', F', σ', rfl, h2, h3, h4⟩
    · rename_i e; rw [if_neg e] at h4; exact ⟨G', F', σ', rfl, h2, h3, h4⟩
  | _ => exact ⟨G', F', σ', rfl, h2, h3, h4⟩
theorem ew_cond {c : Operand} {x y : Code} {b : Bool} (hc : F.eval c = .s (.bool b)) (ht : b = true → EWp P N x F σ Q) (hf : b = false → EWp P N y F σ Q) : EWp P N (.cond c x y) F σ Q := fun G a hs =>
  wp_cond_split (rep_bool hs.fr hc) (fun e => ht e G a hs) (fun e => hf e G a hs)
theorem ew_true {c : Operand} {x y : Code} (hc : F.eval c = .s (.bool true)) (ht : EWp P N x F σ Q) : EWp P N (.cond c x y) F σ Q := ew_cond hc (fun _ => ht) (fun e => by cases e)
theorem ew_false {c : Operand} {x y : Code} (hc : F.eval c = .s (.bool false)) (ht : EWp P N y F σ Q) : EWp P N (.cond c x y) F σ Q := ew_cond hc (fun e => by cases e) (fun _ => ht)
theorem ew_loop {c : Code} (I : Nat → Frm → List Ob → Prop) (m : Nat) (h0 : I m F σ)
    (round : ∀ m F σ, I m F σ → EWp P N c F σ (AThen (fun F' σ' => ∃ m', m' < m ∧ I m' F' σ') Q)) : EWp P N (.loop c) F σ Q := fun G a hs => by
  refine wp_loop_ghost (fun n a w => ∃ G' F' σ', G'.w = w ∧ G.Ext G' ∧ S8 N G' a F' σ' ∧ I n F' σ') m ⟨G, F, σ, rfl, .refl G, hs, h0⟩ ?_
  rintro n a w ⟨G', F', σ', rfl, h2, h3, h4⟩
  refine Code.wp_mono (fun e a1 w1 q => ?_) (round n F' σ' h4 G' a h3)
  obtain ⟨G2, F2, σ2, rfl, h5, h6, h7⟩ := q
  cases e with
  | normal => obtain ⟨m', hm, hi⟩ := h7; exact ⟨m', hm, ⟨G2, F2, σ2, rfl, h2.trans h5, h6, hi⟩⟩
  | _ => exact ⟨G2, F2, σ2, rfl, h2.trans h5, h6, h7⟩

theorem ew_region {id : Nat} {l : List Oper} (h : EOps P N l.toArray l F σ Q) : EWp P N (.region id l.toArray false) F σ Q := fun G a hs => wp_region_lit (h G a hs)
theorem ew_mono {c : Code} {Q' : Exit → Frm → List Ob → Prop} (h : EWp P N c F σ Q) (hq : ∀ e F σ, Q e F σ → Q' e F σ) : EWp P N c F σ Q' := fun G a hs =>
  Code.wp_mono (fun e a w q => liftE_mono (.refl G) hq q) (h G a hs)

end

section
variable {P : Program} {N : Nat} {F : Frm} {σ σ' : List Ob} {Q : Exit → Frm → List Ob → Prop} {ops : Array Oper} {o : Oper} {l : List Oper} {x : AV}

theorem eops_nil (h : Q .normal F σ) : EOps P N ops [] F σ Q := fun G a hs => ⟨G, F, σ, rfl, .refl G, hs, h⟩
end

end Go.Proofs.YtanfaepjamkbjaaGreat.Aw
end
section
namespace Go.Proofs.YtanfaepjamkbjaaGreat.Aw
set_option linter.unusedSimpArgs false
set_option linter.unusedVariables false
open Go.RowKit

/-- what an operation looks at in the store, or what it changes -/
inductive Kd where
  | free
  | look (R : List Nat)
  | eff (W : List Nat)
def meets : List Nat → List Nat → Bool
  | [], _ => false
  | r :: R, W => W.any (fun w => Nat.beq r w) || meets R W
theorem meets_of {R W : List Nat} (h : meets R W = false) : ∀ r ∈ R, r ∉ W := by
  induction R with
  | nil => simp
  | cons a R ih =>
    simp only [meets, Bool.or_eq_false_iff] at h
    intro r hr hw
    rcases List.mem_cons.1 hr with rfl | hr
    · have h2 := List.any_eq_false.1 h.1 r hw
      simp at h2
    · exact ih h.2 r hr hw
def kdClash : Kd → Kd → Bool
  | .look R, .eff W => meets R W
  | .eff W, .look R => meets R W
  | .eff _, .eff _ => true
  | _, _ => false
def kPairs : Nat → List (Nat × Kd) → List Kd → List Nat → Bool
  | j, prev, k :: ks, m :: ms => (prev.all fun p => !(kdClash p.2 k) || m.testBit p.1) && kPairs (j + 1) (match k with | .free => prev | _ => (j, k) :: prev) ks ms
  | _, _, [], _ => true
  | _, _, _ :: _, [] => false
theorem kPairs_of : ∀ (ks : List Kd) (ms : List Nat) (j0 : Nat) (prev : List (Nat × Kd)), kPairs j0 prev ks ms = true →
    (∀ (j : Nat) b, ks[j]? = some b → ∀ p ∈ prev, kdClash p.2 b = true → (ms.getD j 0).testBit p.1 = true) ∧
    ∀ (i j : Nat) a b, i < j → ks[i]? = some a → ks[j]? = some b → kdClash a b = true → (ms.getD j 0).testBit (j0 + i) = true
  | [], ms, j0, prev, h => ⟨by simp, by simp⟩
  | k :: ks, [], j0, prev, h => by simp [kPairs] at h
  | k :: ks, m :: ms, j0, prev, h => by
    simp only [kPairs, Bool.and_eq_true] at h
    obtain ⟨h1, h2⟩ := h
    obtain ⟨h3, h4⟩ := kPairs_of ks ms (j0 + 1) _ h2
    refine ⟨fun j b hb p hp hc => ?_, fun i j a b hij ha hb hc => ?_⟩
    · cases j with
      | zero =>
        simp at hb
        subst hb
        have := List.all_eq_true.1 h1 p hp
        simpa [hc] using this
      | succ j =>
        have := h3 j b (by simpa using hb) p (by cases k <;> first | exact hp | exact List.mem_cons_of_mem _ hp) hc
        simpa using this
    · cases j with
      | zero => omega
      | succ j =>
        cases i with
        | zero =>
          simp at ha
          subst ha
          have := h3 j b (by simpa using hb) (j0, k) (by cases k <;> first | (cases b <;> simp [kdClash] at hc; done) | simp) hc
          simpa using this
        | succ i =>
          have := h4 i j a b (by omega) (by simpa using ha) (by simpa using hb) hc
          rw [show j0 + (i + 1) = j0 + 1 + i by omega]
          simpa using this
def sOk (l : List Oper) (N : Nat) : Bool := qOk l && l.all fun o => (o.looksAt l.toArray).all fun t => Nat.blt t N
def eOk (l : List Oper) (N : Nat) (ks : List Kd) : Bool := sOk l N && kPairs 0 [] ks (masks l [])
theorem kdClash_symm (a b : Kd) : kdClash a b = kdClash b a := by cases a <;> cases b <;> rfl

/-- what an operation puts into the frame -/
def ent (N : Nat) (o : Oper) (x : AV) : Nat × AV := match o.dst with
  | some d => (d, x)
  | none => (N, .any)
def dOk (N : Nat) (o : Oper) : Bool := match o.dst with
  | some d => Nat.blt d N
  | none => true
theorem ent_some {N : Nat} {o : Oper} {x : AV} {d : Nat} (h : o.dst = some d) : ent N o x = (d, x) := by unfold ent; rw [h]
theorem ent_none {N : Nat} {o : Oper} {x : AV} (h : o.dst = none) : ent N o x = (N, .any) := by unfold ent; rw [h]
theorem ent_at {N : Nat} {o : Oper} {x : AV} {t : Nat} (h : (ent N o x).1 = t) (ht : t < N) : o.dst = some t := by
  cases hd : o.dst with
  | none => rw [ent_none hd] at h; have h : N = t := h; exact absurd ht (by rw [h]; exact Nat.lt_irrefl _)
  | some d => rw [ent_some hd] at h; have h : d = t := h; rw [h]
theorem ent_top {N : Nat} {o : Oper} {x : AV} (h : (ent N o x).1 = N) (hk : dOk N o = true) : (ent N o x).2 = .any := by
  cases hd : o.dst with
  | none => rw [ent_none hd]
  | some d =>
    rw [ent_some hd] at h
    have h : d = N := h
    unfold dOk at hk
    rw [hd] at hk
    simp [h] at hk
theorem dOk_lt {N : Nat} {o : Oper} {d : Nat} (h : dOk N o = true) (hd : o.dst = some d) : d < N := by unfold dOk at h; rw [hd] at h; simpa [Nat.blt_eq] using h

inductive ESteps (P : Program) (N : Nat) (ops : Array Oper) : List Oper → Frm → List Ob → Frm → List Ob → List (Nat × AV) → List Kd → List (List Ob) → Prop
  | nil (F : Frm) (σ : List Ob) : ESteps P N ops [] F σ F σ [] [] []
  | free (o : Oper) (l : List Oper) (F F' : Frm) (σ σ' : List Ob) (x : AV) (out : List (Nat × AV)) (ks : List Kd) (sts : List (List Ob)) (hd : dOk N o = true) (hr : Runs ops F o true) (hD : ∀ σ, Does P o F σ x σ) (h : ESteps P N ops l (ent N o x :: F) σ F' σ' out ks sts) : ESteps P N ops (o :: l) F σ F' σ' (ent N o x :: out) (.free :: ks) (σ :: sts)
  | skip (o : Oper) (l : List Oper) (F F' : Frm) (σ σ' : List Ob) (out : List (Nat × AV)) (ks : List Kd) (sts : List (List Ob)) (hd : dOk N o = true) (hr : Runs ops F o false) (h : ESteps P N ops l (ent N o (.s undef) :: F) σ F' σ' out ks sts) : ESteps P N ops (o :: l) F σ F' σ' (ent N o (.s undef) :: out) (.free :: ks) (σ :: sts)
  | look (o : Oper) (l : List Oper) (F F' : Frm) (σ σ' : List Ob) (x : AV) (out : List (Nat × AV)) (ks : List Kd) (sts : List (List Ob)) (R : List Nat) (hd : dOk N o = true) (hr : Runs ops F o true) (hD : ∀ σ2, (∀ id ∈ R, σ2[id]? = σ[id]?) → Does P o F σ2 x σ2) (h : ESteps P N ops l (ent N o x :: F) σ F' σ' out ks sts) : ESteps P N ops (o :: l) F σ F' σ' (ent N o x :: out) (.look R :: ks) (σ :: sts)
  | eff (o : Oper) (l : List Oper) (F F' : Frm) (σ σ1 σ' : List Ob) (x : AV) (out : List (Nat × AV)) (ks : List Kd) (sts : List (List Ob)) (W : List Nat) (hd : dOk N o = true) (hr : Runs ops F o true) (hD : Does P o F σ x σ1) (hW : ∀ id, id ∉ W → σ1[id]? = σ[id]?) (h : ESteps P N ops l (ent N o x :: F) σ1 F' σ' out ks sts) : ESteps P N ops (o :: l) F σ F' σ' (ent N o x :: out) (.eff W :: ks) (σ :: sts)

def EAt (P : Program) (ops : Array Oper) (o : Oper) (F : Frm) (x : AV) (k : Option Kd) (s s1 : List Ob) : Prop :=
  (k = some .free ∧ s1 = s ∧ ((Runs ops F o true ∧ ∀ σ, Does P o F σ x σ) ∨ (Runs ops F o false ∧ x = .s undef))) ∨
  (∃ R, k = some (.look R) ∧ s1 = s ∧ Runs ops F o true ∧ ∀ σ2, (∀ id ∈ R, σ2[id]? = s[id]?) → Does P o F σ2 x σ2) ∨
  (∃ W, k = some (.eff W) ∧ Runs ops F o true ∧ Does P o F s x s1 ∧ ∀ id, id ∉ W → s1[id]? = s[id]?)
theorem esteps_at {P : Program} {N : Nat} {ops : Array Oper} : ∀ {l : List Oper} {F F' : Frm} {σ σ' : List Ob} {out : List (Nat × AV)} {ks : List Kd} {sts : List (List Ob)}, ESteps P N ops l F σ F' σ' out ks sts → l.length = out.length ∧ F' = out.reverse ++ F ∧ ks.length = l.length ∧ sts.length = l.length ∧ (sts ++ [σ']).getD 0 [] = σ ∧
    ∀ (i : Nat) o, l[i]? = some o → ∃ x, out[i]? = some (ent N o x) ∧ dOk N o = true ∧ EAt P ops o ((out.take i).reverse ++ F) x ks[i]? ((sts ++ [σ']).getD i []) ((sts ++ [σ']).getD (i + 1) []) := by
  intro l F F' σ σ' out ks sts h
  induction h with
  | nil F σ => exact ⟨rfl, rfl, rfl, rfl, rfl, by simp⟩
  | free o l F F' σ σ' x out ks sts hd hr hD h ih =>
    obtain ⟨h1, h2, h3, h4, h0, h5⟩ := ih
    refine ⟨by simp [h1], by simp [h2], by simp [h3], by simp [h4], rfl, fun i o' hi => ?_⟩
    cases i with
    | zero => simp at hi; subst hi; exact ⟨x, rfl, hd, .inl ⟨rfl, h0, .inl ⟨by simpa using hr, by simpa using hD⟩⟩⟩
    | succ i =>
      obtain ⟨x', g1, g2, g3⟩ := h5 i o' (by simpa using hi)
      exact ⟨x', by simpa using g1, g2, by simpa using g3⟩
  | skip o l F F' σ σ' out ks sts hd hr h ih =>
    obtain ⟨h1, h2, h3, h4, h0, h5⟩ := ih
    refine ⟨by simp [h1], by simp [h2], by simp [h3], by simp [h4], rfl, fun i o' hi => ?_⟩
    cases i with
    | zero => simp at hi; subst hi; exact ⟨.s undef, rfl, hd, .inl ⟨rfl, h0, .inr ⟨by simpa using hr, rfl⟩⟩⟩
    | succ i =>
      obtain ⟨x', g1, g2, g3⟩ := h5 i o' (by simpa using hi)
      exact ⟨x', by simpa using g1, g2, by simpa using g3⟩
  | look o l F F' σ σ' x out ks sts R hd hr hD h ih =>
    obtain ⟨h1, h2, h3, h4, h0, h5⟩ := ih
    refine ⟨by simp [h1], by simp [h2], by simp [h3], by simp [h4], rfl, fun i o' hi => ?_⟩
    cases i with
    | zero => simp at hi; subst hi; exact ⟨x, rfl, hd, .inr (.inl ⟨R, rfl, h0, by simpa using hr, by simpa using hD⟩)⟩
    | succ i =>
      obtain ⟨x', g1, g2, g3⟩ := h5 i o' (by simpa using hi)
      exact ⟨x', by simpa using g1, g2, by simpa using g3⟩
  | eff o l F F' σ σ1 σ' x out ks sts W hd hr hD hW h ih =>
    obtain ⟨h1, h2, h3, h4, h0, h5⟩ := ih
    refine ⟨by simp [h1], by simp [h2], by simp [h3], by simp [h4], rfl, fun i o' hi => ?_⟩
    cases i with
    | zero =>
      simp at hi; subst hi
      have e : ((σ :: sts) ++ [σ']).getD (0 + 1) [] = σ1 := h0
      refine ⟨x, rfl, hd, .inr (.inr ⟨W, rfl, by simpa using hr, ?_, ?_⟩)⟩
      · rw [e]; simpa using hD
      · rw [e]; exact hW
    | succ i =>
      obtain ⟨x', g1, g2, g3⟩ := h5 i o' (by simpa using hi)
      exact ⟨x', by simpa using g1, g2, by simpa using g3⟩
theorem fr_rep {G : Cx} {v : Value} {t : Nat} {sel : Nat → Bool} : ∀ (out : List (Nat × AV)) (k : Nat) (F : Frm), Rep G v (F.get t) → (∀ p ∈ out, p.1 = t → Rep G v p.2) → Rep G v ((fr sel k out F).get t)
  | [], k, F, h, _ => h
  | p :: out, k, F, h, hp => by
    refine fr_rep out (k + 1) _ ?_ (fun q hq => hp q (by simp [hq]))
    cases sel k with
    | false => exact h
    | true =>
      obtain ⟨d, x⟩ := p
      simp only [cond_true, Frm.get]
      cases e : Nat.beq d t with
      | true => exact hp (d, x) (by simp) (Nat.eq_of_beq_eq_true e)
      | false => exact h

def EDraw (P : Program) (N : Nat) (l : List Oper) (F : Frm) (σ : List Ob) (Q : Exit → Frm → List Ob → Prop) : Prop :=
  ∀ G a, S8 N G a F σ → wpAny P .any l.toArray (liftE N G Q) l.length (Array.replicate l.length false) a G.w
section
variable {P : Program} {N : Nat} {l : List Oper} {F F' : Frm} {σ : List Ob} {out : List (Nat × AV)} {Q : Exit → Frm → List Ob → Prop}

theorem egen_any {σ' : List Ob} {ks : List Kd} {sts : List (List Ob)} (hq : eOk l N ks = true) (hs : ESteps P N l.toArray l F σ F' σ' out ks sts) (hQ : Q .normal F' σ') (G0 : Cx) :
    ∀ (fuel : Nat) (L : Array Bool) (G : Cx) (a : Act) (m : Nat), G0.Ext G → L.size = l.length → left L.toList = fuel → Closed l (fun j => L.getD j false = true) → m ≤ l.length → (∀ j W, ks[j]? = some (.eff W) → (L.getD j false = true ↔ j < m)) → Rep G (a.tmps.getD N undef) (F.get N) → S8 N G a (fr (fun j => L.getD j false) 0 out F) ((sts ++ [σ']).getD m []) → wpAny P .any l.toArray (liftE N G0 Q) fuel L a G.w := by
  obtain ⟨hlen, hF', hkl, hsl, _, hat⟩ := esteps_at hs
  unfold eOk sOk at hq
  simp only [Bool.and_eq_true] at hq
  obtain ⟨⟨hq, hlk⟩, hkp⟩ := hq
  obtain ⟨_, hkp⟩ := kPairs_of _ _ _ _ hkp
  have hq2 : ∀ (i j : Nat) a b, i < j → ks[i]? = some a → ks[j]? = some b → kdClash a b = true → ((masks l []).getD j 0).testBit i = true := fun i j a b h1 h2 h3 h4 => by
    have := hkp i j a b h1 h2 h3 h4
    simpa using this
  have hlk' : ∀ (i : Nat) o, l[i]? = some o → ∀ t ∈ o.looksAt l.toArray, t < N := fun i o ho t ht => by
    have h1 := List.all_eq_true.1 hlk o (List.mem_of_getElem? ho)
    have h2 := List.all_eq_true.1 h1 t ht
    simpa [Nat.blt_eq] using h2
  unfold qOk at hq
  have hq' : ∀ j oj, l[j]? = some oj → (∀ e ∈ oj.after.toList, Region.binds .any e = true → e.on < j) ∧ ∀ i oi, i < j → l[i]? = some oi → clash l.toArray oi oj = true → ((masks l []).getD j 0).testBit i = true := by
    intro j oj hj
    have h1 := List.all_eq_true.1 hq j (by simpa using (List.getElem?_eq_some_iff.1 hj).1)
    rw [hj] at h1
    simp only [Bool.and_eq_true, List.all_eq_true] at h1
    refine ⟨fun e he hb => ?_, fun i oi hij hi hc => ?_⟩
    · have := h1.1 e he
      rw [hb] at this
      simpa [Nat.blt_eq] using this
    · have := h1.2 i (by simpa using hij)
      rw [hi] at this
      simpa [hc] using this
  have hsound : ∀ (D : Nat → Prop), Closed l D → ∀ j i, ((masks l []).getD j 0).testBit i = true → D j → D i := fun D hD => masks_sound hD l [] (fun j o h => by simpa using h) (fun j i h => by simp at h)
  have hnone : ∀ (L : Array Bool), L.size = l.length → Region.ready .any l.toArray L = [] → ∀ j, j < l.length → L.getD j false = true := by
    intro L hL hr j
    induction j using Nat.strongRecOn with
    | _ j ih =>
      intro hj
      cases hc : L.getD j false with
      | true => rfl
      | false =>
        exfalso
        obtain ⟨o, ho⟩ : ∃ o, l[j]? = some o := ⟨_, List.getElem?_eq_getElem hj⟩
        have hm : j ∈ Region.ready .any l.toArray L := by
          refine mem_ready.2 ⟨?_, o, by simpa using ho, fun e he hb => ?_⟩
          · have hlt : j < L.size := by omega
            simp [Array.getD_eq_getD_getElem?, hlt] at hc ⊢
            exact hc
          · have hon := (hq' j o ho).1 e (by simpa using he) hb
            exact ih e.on hon (by omega)
        rw [hr] at hm
        cases hm
  have hstepS : ∀ (j id : Nat), j < l.length → (∀ W, ks[j]? = some (.eff W) → id ∉ W) → ((sts ++ [σ']).getD (j + 1) [])[id]? = ((sts ++ [σ']).getD j [])[id]? := by
    intro j id hj hW
    obtain ⟨x, _, _, hc⟩ := hat j _ (List.getElem?_eq_getElem hj)
    rcases hc with ⟨_, g2, _⟩ | ⟨R, _, g2, _⟩ | ⟨W, g1, _, _, g4⟩
    · rw [g2]
    · rw [g2]
    · exact g4 id (hW W g1)
  have hstepN : ∀ (j : Nat), j < l.length → (∀ W, ks[j]? ≠ some (.eff W)) → (sts ++ [σ']).getD (j + 1) [] = (sts ++ [σ']).getD j [] := by
    intro j hj hW
    obtain ⟨x, _, _, hc⟩ := hat j _ (List.getElem?_eq_getElem hj)
    rcases hc with ⟨_, g2, _⟩ | ⟨R, _, g2, _⟩ | ⟨W, g1, _⟩
    · exact g2
    · exact g2
    · exact absurd g1 (hW W)
  have hlookS : ∀ (id k n : Nat), n + k ≤ l.length → (∀ j W, n ≤ j → j < n + k → ks[j]? = some (.eff W) → id ∉ W) → ((sts ++ [σ']).getD (n + k) [])[id]? = ((sts ++ [σ']).getD n [])[id]? := by
    intro id k n hnk h
    induction k with
    | zero => rfl
    | succ k ihk =>
      rw [← ihk (by omega) (fun j W h1 h2 => h j W h1 (by omega))]
      exact hstepS (n + k) id (by omega) (fun W hW => h (n + k) W (by omega) (by omega) hW)
  have hlooks : ∀ (id m n : Nat), m ≤ l.length → n ≤ l.length → (∀ j W, ks[j]? = some (.eff W) → ¬ (j < m ↔ j < n) → id ∉ W) → ((sts ++ [σ']).getD m [])[id]? = ((sts ++ [σ']).getD n [])[id]? := by
    intro id m n hm hn h
    rcases Nat.le_total m n with h1 | h1
    · obtain ⟨k, rfl⟩ := Nat.exists_eq_add_of_le h1
      exact (hlookS id k m hn (fun j W h2 h3 h4 => h j W h4 (by omega))).symm
    · obtain ⟨k, rfl⟩ := Nat.exists_eq_add_of_le h1
      exact hlookS id k n hm (fun j W h2 h3 h4 => h j W h4 (by omega))
  -- states without an effect between them are the same
  have hsame : ∀ (k n : Nat), n + k ≤ l.length → (∀ j W, n ≤ j → j < n + k → ks[j]? ≠ some (.eff W)) → (sts ++ [σ']).getD (n + k) [] = (sts ++ [σ']).getD n [] := by
    intro k n hnk h
    induction k with
    | zero => rfl
    | succ k ihk =>
      rw [← ihk (by omega) (fun j W h1 h2 => h j W h1 (by omega))]
      exact hstepN (n + k) (by omega) (fun W => h (n + k) W (by omega) (by omega))
  have hbetween : ∀ (m n : Nat), m ≤ l.length → n ≤ l.length → (∀ j W, ks[j]? = some (.eff W) → (j < m ↔ j < n)) → (sts ++ [σ']).getD m [] = (sts ++ [σ']).getD n [] := by
    intro m n hm hn h
    rcases Nat.le_total m n with h1 | h1
    · obtain ⟨k, rfl⟩ := Nat.exists_eq_add_of_le h1
      exact (hsame k m hn (fun j W h2 h3 h4 => by have := h j W h4; omega)).symm
    · obtain ⟨k, rfl⟩ := Nat.exists_eq_add_of_le h1
      exact hsame k n hm (fun j W h2 h3 h4 => by have := h j W h4; omega)
  -- when all have come up
  have hend : ∀ (L : Array Bool) (G : Cx) (a : Act) (m : Nat), G0.Ext G → L.size = l.length → Region.ready .any l.toArray L = [] → m ≤ l.length → (∀ j W, ks[j]? = some (.eff W) → (L.getD j false = true ↔ j < m)) → S8 N G a (fr (fun j => L.getD j false) 0 out F) ((sts ++ [σ']).getD m []) → liftE N G0 Q .normal a G.w := by
    intro L G a m hst hL hr hml hm h8
    have e1 : (sts ++ [σ']).getD m [] = σ' := by
      rw [hbetween m l.length hml (Nat.le_refl _) (fun j W hj => by
        have hjl : j < l.length := by rw [← hkl]; exact (List.getElem?_eq_some_iff.1 hj).1
        have := (hm j W hj).1 (hnone L hL hr j hjl)
        exact ⟨fun _ => hjl, fun _ => this⟩)]
      simp [List.getD, ← hsl]
    rw [e1] at h8
    refine ⟨G, F', σ', rfl, hst, ⟨h8.rel, fun t => ?_, h8.df, h8.nt⟩, hQ⟩
    have h1 := h8.fr t
    have h2 : (fr (fun j => L.getD j false) 0 out F).get t = (fr (fun j => decide (j < 0 + out.length)) 0 out F).get t := fr_congr out 0 F F rfl (fun j p hp _ => by
      have hj : j < out.length := (List.getElem?_eq_some_iff.1 hp).1
      simp only [Nat.zero_add]
      rw [hnone L hL hr j (by omega)]
      simp [hj])
    rw [h2, fr_pre, List.take_length, ← hF'] at h1
    exact h1
  intro fuel
  induction fuel with
  | zero =>
    intro L G a m hst hL hlf hcl hml hm _ h8
    have hr : Region.ready .any l.toArray L = [] := by
      rw [List.eq_nil_iff_forall_not_mem]
      intro i hi
      obtain ⟨h1, o, ho, _⟩ := mem_ready.1 hi
      have hlt : i < L.size := by rw [hL]; simpa using (Array.getElem?_eq_some_iff.1 ho).1
      have : 0 < left L.toList := left_pos i (by simp [Array.getD_eq_getD_getElem?, hlt] at h1 ⊢; exact h1)
      omega
    exact ⟨hr, hend L G a m hst hL hr hml hm h8⟩
  | succ fuel ih =>
    intro L G a m hst hL hlf hcl hml hm hNr h8
    refine ⟨fun hr => hend L G a m hst hL hr hml hm h8, fun i hi => ?_⟩
    obtain ⟨h1, o, ho, hall⟩ := mem_ready.1 hi
    have hli : l[i]? = some o := by simpa using ho
    have hlt : i < L.size := by rw [hL]; exact (List.getElem?_eq_some_iff.1 hli).1
    have hfalse : L.getD i false = false := by simp [Array.getD_eq_getD_getElem?, hlt] at h1 ⊢; exact h1
    obtain ⟨x, g1, g2, g4⟩ := hat i o hli
    -- the others that touch its slots: those before it have come up, those behind it have not
    have hcl' : Closed l (fun j => j = i ∨ L.getD j false = true) := by
      intro j oj hj hD e he hb
      rcases hD with rfl | hD
      · rw [hli] at hj; cases hj
        exact .inr (hall e (by simpa using he) hb)
      · exact .inr (hcl j oj hj hD e he hb)
    have hord : ∀ j oj, l[j]? = some oj → j ≠ i → (j < i → clash l.toArray oj o = true → L.getD j false = true) ∧ (i < j → clash l.toArray o oj = true → L.getD j false = false) := by
      intro j oj hj hne
      refine ⟨fun hji hc => ?_, fun hij hc => ?_⟩
      · rcases hsound _ hcl' i j ((hq' i o hli).2 j oj hji hj hc) (.inl rfl) with h | h
        · exact absurd h hne
        · exact h
      · cases hx : L.getD j false with
        | false => rfl
        | true =>
          have := hsound _ hcl j i ((hq' j oj hj).2 i o hij hli hc) hx
          rw [hfalse] at this
          cases this
    have hsel : ∀ t, t ∈ o.looksAt l.toArray → Frm.get ((out.take i).reverse ++ F) t = (fr (fun j => L.getD j false) 0 out F).get t := by
      intro t ht
      rw [← fr_pre out 0 i F]
      refine (fr_congr out 0 F F rfl (fun j p hp hpt => ?_)).symm
      simp only [Nat.zero_add]
      have hj : j < l.length := by rw [hlen]; exact (List.getElem?_eq_some_iff.1 hp).1
      obtain ⟨x', k1, _, _⟩ := hat j _ (List.getElem?_eq_getElem hj)
      rw [k1] at hp
      cases hp
      have htN := hlk' i o hli t ht
      have k2 : l[j].dst = some t := ent_at hpt htN
      by_cases hji : j = i
      · subst hji; rw [hfalse]; simp
      · rcases Nat.lt_or_gt_of_ne hji with h | h
        · rw [(hord j _ (List.getElem?_eq_getElem hj) hji).1 h (clash_of.1 k2 ht)]; simp [h]
        · rw [(hord j _ (List.getElem?_eq_getElem hj) hji).2 h (clash_of.2.2 k2 ht)]; simp; omega
    -- what is known behind it
    have hnext : ∀ (m' : Nat), m' ≤ l.length → (∀ j W, ks[j]? = some (.eff W) → ((L.setIfInBounds i true).getD j false = true ↔ j < m')) → ∀ (G' : Cx) (v : Value), G.Ext G' → Rel G' ((sts ++ [σ']).getD m' []) → Rep G' v x → wpAny P .any l.toArray (liftE N G0 Q) fuel (L.setIfInBounds i true) (a.put o.dst v) G'.w := by
      intro m' hm'l hm' G' v he hr' hv
      refine ih _ G' _ m' (hst.trans he) (by simpa using hL) ?_ ?_ hm'l hm' ?_ ⟨hr', fun t => ?_, by cases o.dst <;> exact h8.df, by cases o.dst <;> simp [Act.put, h8.nt]⟩
      · have := left_set L.toList i (by simp [Array.getD_eq_getD_getElem?, hlt] at hfalse ⊢; exact hfalse)
        rw [Array.toList_setIfInBounds]; omega
      · intro j oj hj hD e he2 hb
        have key : ∀ k, (L.setIfInBounds i true).getD k false = true ↔ (k = i ∨ L.getD k false = true) := fun k => by
          by_cases hk : i = k
          · subst hk; simp [Array.getD_eq_getD_getElem?, hlt]
          · simp [Array.getD_eq_getD_getElem?, Array.getElem?_setIfInBounds, hk, Ne.symm hk]
        rw [key] at hD ⊢
        exact hcl' j oj hj hD e he2 hb
      · cases ho2 : o.dst with
        | none => exact hNr.ext he
        | some d =>
          have hd := dOk_lt g2 ho2
          have : d ≠ N := Nat.ne_of_lt hd
          have h1 : (a.put (some d) v).tmps.getD N undef = a.tmps.getD N undef := by simp [Act.put, Array.getD_eq_getD_getElem?, Array.getElem?_setIfInBounds, this]
          rw [h1]; exact hNr.ext he
      · have hselL : ∀ k, k ≠ i → (L.setIfInBounds i true).getD k false = L.getD k false := fun k hk => by
          simp [Array.getD_eq_getD_getElem?, Array.getElem?_setIfInBounds, Ne.symm hk]
        by_cases hte : t = (ent N o x).1
        · cases ho2 : o.dst with
          | none =>
            rw [ent_none ho2] at hte
            have hte : t = N := hte
            rw [hte]
            refine fr_rep out 0 F (hNr.ext he) (fun p hp hpt => ?_)
            obtain ⟨j, hj, rfl⟩ := List.mem_iff_getElem.1 hp
            obtain ⟨x', k1, k2, _⟩ := hat j l[j] (List.getElem?_eq_getElem (by omega))
            have k3 : out[j] = ent N l[j] x' := by rw [List.getElem?_eq_getElem hj] at k1; exact Option.some.inj k1
            rw [k3] at hpt ⊢
            rw [ent_top hpt k2]
            exact .any _
          | some d =>
            rw [ent_some ho2] at hte g1
            dsimp only at hte
            subst hte
            have h2 : (fr (fun j => (L.setIfInBounds i true).getD j false) 0 out F).get t = x := fr_last out 0 F i g1 (by simp [Array.getD_eq_getD_getElem?, hlt]) (fun j p hp hij hc hpt => by
              simp only [Nat.zero_add] at hc
              rw [hselL j (by omega)] at hc
              have hj : j < l.length := by rw [hlen]; exact (List.getElem?_eq_some_iff.1 hp).1
              obtain ⟨x', k1, _, _⟩ := hat j _ (List.getElem?_eq_getElem hj)
              rw [k1] at hp
              cases hp
              have htN := dOk_lt g2 ho2
              have k2 : l[j].dst = some t := ent_at hpt htN
              have := (hord j _ (List.getElem?_eq_getElem hj) (by omega)).2 hij (clash_of.2.1 ho2 k2)
              rw [this] at hc
              cases hc)
            rw [h2]
            have : t < a.tmps.size := by rw [h8.nt]; exact dOk_lt g2 ho2
            simpa [Act.put, Array.getD_eq_getD_getElem?, this] using hv
        · have h2 : (fr (fun j => (L.setIfInBounds i true).getD j false) 0 out F).get t = (fr (fun j => L.getD j false) 0 out F).get t := fr_congr out 0 F F rfl (fun j p hp hpt => by
            simp only [Nat.zero_add]
            refine hselL j (fun e => ?_)
            subst e
            rw [g1] at hp
            cases hp
            exact hte hpt.symm)
          rw [h2]
          have h3 := (h8.fr t).ext he
          cases ho2 : o.dst with
          | none => exact h3
          | some d =>
            rw [ent_some ho2] at hte
            have hte : t ≠ d := hte
            simpa [Act.put, Array.getD_eq_getD_getElem?, Array.getElem?_setIfInBounds, Ne.symm hte] using h3
    have hset : ∀ j, j ≠ i → ((L.setIfInBounds i true).getD j false = true ↔ L.getD j false = true) := fun j hj => by
      simp [Array.getD_eq_getD_getElem?, Array.getElem?_setIfInBounds, Ne.symm hj]
    have hseti : (L.setIfInBounds i true).getD i false = true := by simp [Array.getD_eq_getD_getElem?, hlt]
    have hil : i < l.length := (List.getElem?_eq_some_iff.1 hli).1
    have hkeep : (∀ W, ks[i]? ≠ some (.eff W)) → ∀ j W, ks[j]? = some (.eff W) → ((L.setIfInBounds i true).getD j false = true ↔ j < m) := fun hne j W hj => by
      have : j ≠ i := fun e => hne W (e ▸ hj)
      rw [hset j this]; exact hm j W hj
    -- an effect that is on the other side in the list is one that it does not meet
    have hside : ∀ b, ks[i]? = some b → ∀ j W, ks[j]? = some (.eff W) → kdClash b (.eff W) = true → (j < m ↔ j < i) := fun b hb j W hj hcl2 => by
      have hjl : j < l.length := by rw [← hkl]; exact (List.getElem?_eq_some_iff.1 hj).1
      rw [← hm j W hj]
      rcases Nat.lt_trichotomy j i with h | h | h
      · have h3 := hq2 j i (.eff W) b h hj hb (by rw [kdClash_symm]; exact hcl2)
        rcases hsound _ hcl' i j h3 (.inl rfl) with h4 | h4
        · omega
        · simp [h, h4]
      · subst h; rw [hfalse]; simp
      · have h3 := hq2 i j b (.eff W) h hb hj hcl2
        constructor
        · intro h4
          have := hsound _ hcl j i h3 h4
          rw [hfalse] at this; cases this
        · intro h4; omega
    unfold wpOp
    simp only [ho]
    rcases g4 with ⟨k0, ks0, ⟨k1, k2⟩ | ⟨k1, rfl⟩⟩ | ⟨R, k0, ks0, k1, k2⟩ | ⟨W0, k0, k1, k2, _⟩
    · rw [if_pos ((k1.congr hsel).wanted h8.fr)]
      left
      refine ((k2 _).congr hsel) G a _ _ h8.rel (fun y _ => rep_eval h8.fr y) (fun v G' he hr' hv => ?_)
      exact hnext m hml (hkeep (by rw [k0]; simp)) G' v he hr' hv
    · rw [if_neg (by rw [(k1.congr hsel).wanted h8.fr]; simp)]
      exact hnext m hml (hkeep (by rw [k0]; simp)) G undef (.refl G) h8.rel (.s _)
    · rw [if_pos ((k1.congr hsel).wanted h8.fr)]
      left
      have hlooked : ∀ id ∈ R, ((sts ++ [σ']).getD m [])[id]? = ((sts ++ [σ']).getD i [])[id]? := fun id hid =>
        hlooks id m i hml (Nat.le_of_lt hil) (fun j W hj hne => by
          cases hc : kdClash (.look R) (.eff W) with
          | true => exact absurd (hside _ k0 j W hj hc) hne
          | false => exact meets_of hc id hid)
      refine ((k2 _ hlooked).congr hsel) G a _ _ h8.rel (fun y _ => rep_eval h8.fr y) (fun v G' he hr' hv => ?_)
      exact hnext m hml (hkeep (by rw [k0]; simp)) G' v he hr' hv
    · rw [if_pos ((k1.congr hsel).wanted h8.fr)]
      left
      have hef : ∀ j W, ks[j]? = some (.eff W) → (j < m ↔ j < i) := fun j W hj => hside _ k0 j W hj rfl
      have e1 := hbetween m i hml (Nat.le_of_lt hil) hef
      have h8r := h8.rel
      rw [e1] at h8r
      refine (k2.congr hsel) G a _ _ h8r (fun y _ => rep_eval h8.fr y) (fun v G' he hr' hv => ?_)
      refine hnext (i + 1) hil (fun j W hj => ?_) G' v he hr' hv
      by_cases hji : j = i
      · subst hji; rw [hseti]; simp
      · rw [hset j hji, hm j W hj, hef j W hj]; omega

theorem edraw_steps {σ' : List Ob} {ks : List Kd} {sts : List (List Ob)} (hs : ESteps P N l.toArray l F σ F' σ' out ks sts) (hq : eOk l N ks = true) (hQ : Q .normal F' σ') : EDraw P N l F σ Q := fun G a h8 => by
  have hno : ∀ j, (Array.replicate l.length false).getD j false = false := fun j => by
    simp only [Array.getD_eq_getD_getElem?, Array.getElem?_replicate]
    split <;> rfl
  have h3 : ∀ (out : List (Nat × AV)) (k : Nat) (F : Frm), fr (fun j => (Array.replicate l.length false).getD j false) k out F = F := by
    intro out
    induction out with
    | nil => intro k F; rfl
    | cons p out ih =>
      intro k F
      have := hno k
      simp only [fr, this, cond_false]
      exact ih _ _
  refine egen_any hq hs hQ G l.length _ G a 0 (.refl G) (by simp) (by simp [left_rep]) ?_ (Nat.zero_le _) ?_ (h8.fr N) ?_
  · intro j o hj hD
    rw [hno] at hD
    cases hD
  · intro j W hj
    rw [hno]; simp
  · rw [h3, (esteps_at hs).2.2.2.2.1]; exact h8
theorem ew_draw {id : Nat} (hm : P.follows .mixedOrders = true) (h : EDraw P N l F σ Q) : EWp P N (.region id l.toArray true) F σ Q := fun G a hs => by
  refine wp_region_any hm ?_
  have he := drew_ext G
  have h1 := h _ a (hs.step he (drew_rel hs.rel))
  exact wpAny_mono (fun e a w q => liftE_mono he (fun _ _ _ x => x) q) _ _ _ _ (by simpa using h1)
end
/-- the sets of operations that may have come up -/
def subs : List Nat → List (List Nat)
  | [] => [[]]
  | e :: E => subs E ++ (subs E).map (e :: ·)
theorem subs_filter (p : Nat → Bool) : ∀ E : List Nat, E.filter p ∈ subs E
  | [] => by simp [subs]
  | e :: E => by
    have ih := subs_filter p E
    simp only [List.filter_cons, subs, List.mem_append, List.mem_map]
    split
    · exact .inr ⟨_, ih, rfl⟩
    · exact .inl ih
def closedB (m : List Nat) (E D : List Nat) : Bool := D.all fun j => E.all fun k => !((m.getD j 0).testBit k) || D.contains k
def readyB (m : List Nat) (E D : List Nat) (i : Nat) : Bool := !(D.contains i) && E.all (fun k => !((m.getD i 0).testBit k) || D.contains k) && D.all fun j => !((m.getD j 0).testBit i)
def insE (E D : List Nat) (i : Nat) : List Nat := E.filter fun j => D.contains j || Nat.beq j i
def TAt (P : Program) (N : Nat) (l : List Oper) (E : List Nat) (T : List Nat → List Ob) (o : Oper) (i : Nat) (F : Frm) (p : Nat × AV) : Prop :=
  (i ∉ E ∧ ((Runs l.toArray F o true ∧ ∃ x, p = ent N o x ∧ ∀ σ, Does P o F σ x σ) ∨ (Runs l.toArray F o false ∧ p = ent N o (.s undef)))) ∨
  (Runs l.toArray F o true ∧ ∀ q : Nat → Bool, closedB (masks l []) E (E.filter q) = true → readyB (masks l []) E (E.filter q) i = true → ∃ x, p = ent N o x ∧ Does P o F (T (E.filter q)) x (T (insE E (E.filter q) i)))
section
variable {P : Program} {N : Nat} {l : List Oper} {F F' : Frm} {σ : List Ob} {out : List (Nat × AV)} {Q : Exit → Frm → List Ob → Prop}
theorem etree_any {σ' : List Ob} {E : List Nat} {T : List Nat → List Ob} (hqs : sOk l N = true) (hself : ∀ i, ((masks l []).getD i 0).testBit i = true → False) (hEl : ∀ j ∈ E, j < l.length) (hlen : l.length = out.length) (hF' : F' = out.reverse ++ F) (hTE : T E = σ')
    (hat : ∀ (i : Nat) o, l[i]? = some o → dOk N o = true ∧ ∃ p, out[i]? = some p ∧ (∃ x, p = ent N o x) ∧ TAt P N l E T o i ((out.take i).reverse ++ F) p) (hQ : Q .normal F' σ') (G0 : Cx) :
    ∀ (fuel : Nat) (L : Array Bool) (G : Cx) (a : Act), G0.Ext G → L.size = l.length → left L.toList = fuel → Closed l (fun j => L.getD j false = true) → Rep G (a.tmps.getD N undef) (F.get N) → S8 N G a (fr (fun j => L.getD j false) 0 out F) (T (E.filter fun j => L.getD j false)) → wpAny P .any l.toArray (liftE N G0 Q) fuel L a G.w := by
  unfold sOk at hqs
  simp only [Bool.and_eq_true] at hqs
  obtain ⟨hq, hlk⟩ := hqs
  have hlk' : ∀ (i : Nat) o, l[i]? = some o → ∀ t ∈ o.looksAt l.toArray, t < N := fun i o ho t ht => by
    have h1 := List.all_eq_true.1 hlk o (List.mem_of_getElem? ho)
    have h2 := List.all_eq_true.1 h1 t ht
    simpa [Nat.blt_eq] using h2
  unfold qOk at hq
  have hq' : ∀ j oj, l[j]? = some oj → (∀ e ∈ oj.after.toList, Region.binds .any e = true → e.on < j) ∧ ∀ i oi, i < j → l[i]? = some oi → clash l.toArray oi oj = true → ((masks l []).getD j 0).testBit i = true := by
    intro j oj hj
    have h1 := List.all_eq_true.1 hq j (by simpa using (List.getElem?_eq_some_iff.1 hj).1)
    rw [hj] at h1
    simp only [Bool.and_eq_true, List.all_eq_true] at h1
    refine ⟨fun e he hb => ?_, fun i oi hij hi hc => ?_⟩
    · have := h1.1 e he
      rw [hb] at this
      simpa [Nat.blt_eq] using this
    · have := h1.2 i (by simpa using hij)
      rw [hi] at this
      simpa [hc] using this
  have hsound : ∀ (D : Nat → Prop), Closed l D → ∀ j i, ((masks l []).getD j 0).testBit i = true → D j → D i := fun D hD => masks_sound hD l [] (fun j o h => by simpa using h) (fun j i h => by simp at h)
  have hnone : ∀ (L : Array Bool), L.size = l.length → Region.ready .any l.toArray L = [] → ∀ j, j < l.length → L.getD j false = true := by
    intro L hL hr j
    induction j using Nat.strongRecOn with
    | _ j ih =>
      intro hj
      cases hc : L.getD j false with
      | true => rfl
      | false =>
        exfalso
        obtain ⟨o, ho⟩ : ∃ o, l[j]? = some o := ⟨_, List.getElem?_eq_getElem hj⟩
        have hm : j ∈ Region.ready .any l.toArray L := by
          refine mem_ready.2 ⟨?_, o, by simpa using ho, fun e he hb => ?_⟩
          · have hlt : j < L.size := by omega
            simp [Array.getD_eq_getD_getElem?, hlt] at hc ⊢
            exact hc
          · have hon := (hq' j o ho).1 e (by simpa using he) hb
            exact ih e.on hon (by omega)
        rw [hr] at hm
        cases hm
  -- when all have come up
  have hend : ∀ (L : Array Bool) (G : Cx) (a : Act), G0.Ext G → L.size = l.length → Region.ready .any l.toArray L = [] → S8 N G a (fr (fun j => L.getD j false) 0 out F) (T (E.filter fun j => L.getD j false)) → (∀ j ∈ E, j < l.length) → liftE N G0 Q .normal a G.w := by
    intro L G a hst hL hr h8 hEl
    have e1 : E.filter (fun j => L.getD j false) = E := List.filter_eq_self.2 fun j hj => hnone L hL hr j (hEl j hj)
    rw [e1, hTE] at h8
    refine ⟨G, F', σ', rfl, hst, ⟨h8.rel, fun t => ?_, h8.df, h8.nt⟩, hQ⟩
    have h1 := h8.fr t
    have h2 : (fr (fun j => L.getD j false) 0 out F).get t = (fr (fun j => decide (j < 0 + out.length)) 0 out F).get t := fr_congr out 0 F F rfl (fun j p hp _ => by
      have hj : j < out.length := (List.getElem?_eq_some_iff.1 hp).1
      simp only [Nat.zero_add]
      rw [hnone L hL hr j (by omega)]
      simp [hj])
    rw [h2, fr_pre, List.take_length, ← hF'] at h1
    exact h1
  intro fuel
  induction fuel with
  | zero =>
    intro L G a hst hL hlf hcl _ h8
    have hr : Region.ready .any l.toArray L = [] := by
      rw [List.eq_nil_iff_forall_not_mem]
      intro i hi
      obtain ⟨h1, o, ho, _⟩ := mem_ready.1 hi
      have hlt : i < L.size := by rw [hL]; simpa using (Array.getElem?_eq_some_iff.1 ho).1
      have : 0 < left L.toList := left_pos i (by simp [Array.getD_eq_getD_getElem?, hlt] at h1 ⊢; exact h1)
      omega
    exact ⟨hr, hend L G a hst hL hr h8 hEl⟩
  | succ fuel ih =>
    intro L G a hst hL hlf hcl hNr h8
    refine ⟨fun hr => hend L G a hst hL hr h8 hEl, fun i hi => ?_⟩
    obtain ⟨h1, o, ho, hall⟩ := mem_ready.1 hi
    have hli : l[i]? = some o := by simpa using ho
    have hlt : i < L.size := by rw [hL]; exact (List.getElem?_eq_some_iff.1 hli).1
    have hfalse : L.getD i false = false := by simp [Array.getD_eq_getD_getElem?, hlt] at h1 ⊢; exact h1
    obtain ⟨g2, p0, g1, ⟨x0, hx0⟩, g4⟩ := hat i o hli
    -- the others that touch its slots: those before it have come up, those behind it have not
    have hcl' : Closed l (fun j => j = i ∨ L.getD j false = true) := by
      intro j oj hj hD e he hb
      rcases hD with rfl | hD
      · rw [hli] at hj; cases hj
        exact .inr (hall e (by simpa using he) hb)
      · exact .inr (hcl j oj hj hD e he hb)
    have hord : ∀ j oj, l[j]? = some oj → j ≠ i → (j < i → clash l.toArray oj o = true → L.getD j false = true) ∧ (i < j → clash l.toArray o oj = true → L.getD j false = false) := by
      intro j oj hj hne
      refine ⟨fun hji hc => ?_, fun hij hc => ?_⟩
      · rcases hsound _ hcl' i j ((hq' i o hli).2 j oj hji hj hc) (.inl rfl) with h | h
        · exact absurd h hne
        · exact h
      · cases hx : L.getD j false with
        | false => rfl
        | true =>
          have := hsound _ hcl j i ((hq' j oj hj).2 i o hij hli hc) hx
          rw [hfalse] at this
          cases this
    have hsel : ∀ t, t ∈ o.looksAt l.toArray → Frm.get ((out.take i).reverse ++ F) t = (fr (fun j => L.getD j false) 0 out F).get t := by
      intro t ht
      rw [← fr_pre out 0 i F]
      refine (fr_congr out 0 F F rfl (fun j p hp hpt => ?_)).symm
      simp only [Nat.zero_add]
      have hj : j < l.length := by rw [hlen]; exact (List.getElem?_eq_some_iff.1 hp).1
      obtain ⟨_, p', k1, ⟨x', rfl⟩, _⟩ := hat j _ (List.getElem?_eq_getElem hj)
      rw [k1] at hp
      cases hp
      have htN := hlk' i o hli t ht
      have k2 : l[j].dst = some t := ent_at hpt htN
      by_cases hji : j = i
      · subst hji; rw [hfalse]; simp
      · rcases Nat.lt_or_gt_of_ne hji with h | h
        · rw [(hord j _ (List.getElem?_eq_getElem hj) hji).1 h (clash_of.1 k2 ht)]; simp [h]
        · rw [(hord j _ (List.getElem?_eq_getElem hj) hji).2 h (clash_of.2.2 k2 ht)]; simp; omega
    -- what is known behind it
    have hnext : ∀ (x : AV), p0 = ent N o x → ∀ (G' : Cx) (v : Value), G.Ext G' → Rel G' (T (E.filter fun j => (L.setIfInBounds i true).getD j false)) → Rep G' v x → wpAny P .any l.toArray (liftE N G0 Q) fuel (L.setIfInBounds i true) (a.put o.dst v) G'.w := by
      intro x hx G' v he hr' hv
      rw [hx] at g1
      refine ih _ G' _ (hst.trans he) (by simpa using hL) ?_ ?_ ?_ ⟨hr', fun t => ?_, by cases o.dst <;> exact h8.df, by cases o.dst <;> simp [Act.put, h8.nt]⟩
      · have := left_set L.toList i (by simp [Array.getD_eq_getD_getElem?, hlt] at hfalse ⊢; exact hfalse)
        rw [Array.toList_setIfInBounds]; omega
      · intro j oj hj hD e he2 hb
        have key : ∀ k, (L.setIfInBounds i true).getD k false = true ↔ (k = i ∨ L.getD k false = true) := fun k => by
          by_cases hk : i = k
          · subst hk; simp [Array.getD_eq_getD_getElem?, hlt]
          · simp [Array.getD_eq_getD_getElem?, Array.getElem?_setIfInBounds, hk, Ne.symm hk]
        rw [key] at hD ⊢
        exact hcl' j oj hj hD e he2 hb
      · cases ho2 : o.dst with
        | none => exact hNr.ext he
        | some d =>
          have hd := dOk_lt g2 ho2
          have : d ≠ N := Nat.ne_of_lt hd
          have h1 : (a.put (some d) v).tmps.getD N undef = a.tmps.getD N undef := by simp [Act.put, Array.getD_eq_getD_getElem?, Array.getElem?_setIfInBounds, this]
          rw [h1]; exact hNr.ext he
      · have hselL : ∀ k, k ≠ i → (L.setIfInBounds i true).getD k false = L.getD k false := fun k hk => by
          simp [Array.getD_eq_getD_getElem?, Array.getElem?_setIfInBounds, Ne.symm hk]
        by_cases hte : t = (ent N o x).1
        · cases ho2 : o.dst with
          | none =>
            rw [ent_none ho2] at hte
            have hte : t = N := hte
            rw [hte]
            refine fr_rep out 0 F (hNr.ext he) (fun p hp hpt => ?_)
            obtain ⟨j, hj, rfl⟩ := List.mem_iff_getElem.1 hp
            obtain ⟨k2, p', k1, ⟨x', hx'⟩, _⟩ := hat j l[j] (List.getElem?_eq_getElem (by omega))
            have k3 : out[j] = ent N l[j] x' := by rw [List.getElem?_eq_getElem hj] at k1; exact (Option.some.inj k1).trans hx'
            rw [k3] at hpt ⊢
            rw [ent_top hpt k2]
            exact .any _
          | some d =>
            rw [ent_some ho2] at hte g1
            dsimp only at hte
            subst hte
            have h2 : (fr (fun j => (L.setIfInBounds i true).getD j false) 0 out F).get t = x := fr_last out 0 F i g1 (by simp [Array.getD_eq_getD_getElem?, hlt]) (fun j p hp hij hc hpt => by
              simp only [Nat.zero_add] at hc
              rw [hselL j (by omega)] at hc
              have hj : j < l.length := by rw [hlen]; exact (List.getElem?_eq_some_iff.1 hp).1
              obtain ⟨_, p', k1, ⟨x', rfl⟩, _⟩ := hat j _ (List.getElem?_eq_getElem hj)
              rw [k1] at hp
              cases hp
              have htN := dOk_lt g2 ho2
              have k2 : l[j].dst = some t := ent_at hpt htN
              have := (hord j _ (List.getElem?_eq_getElem hj) (by omega)).2 hij (clash_of.2.1 ho2 k2)
              rw [this] at hc
              cases hc)
            rw [h2]
            have : t < a.tmps.size := by rw [h8.nt]; exact dOk_lt g2 ho2
            simpa [Act.put, Array.getD_eq_getD_getElem?, this] using hv
        · have h2 : (fr (fun j => (L.setIfInBounds i true).getD j false) 0 out F).get t = (fr (fun j => L.getD j false) 0 out F).get t := fr_congr out 0 F F rfl (fun j p hp hpt => by
            simp only [Nat.zero_add]
            refine hselL j (fun e => ?_)
            subst e
            rw [g1] at hp
            cases hp
            exact hte hpt.symm)
          rw [h2]
          have h3 := (h8.fr t).ext he
          cases ho2 : o.dst with
          | none => exact h3
          | some d =>
            rw [ent_some ho2] at hte
            have hte : t ≠ d := hte
            simpa [Act.put, Array.getD_eq_getD_getElem?, Array.getElem?_setIfInBounds, Ne.symm hte] using h3
    have hset : ∀ j, (L.setIfInBounds i true).getD j false = (L.getD j false || Nat.beq j i) := fun j => by
      by_cases hj : j = i
      · subst hj; simp [Array.getD_eq_getD_getElem?, hlt]
      · have hb : Nat.beq j i = false := by
          cases hh : Nat.beq j i with
          | false => rfl
          | true => exact absurd (Nat.eq_of_beq_eq_true hh) hj
        simp [Array.getD_eq_getD_getElem?, Array.getElem?_setIfInBounds, Ne.symm hj, hb]
    have hdn : E.filter (fun j => (L.setIfInBounds i true).getD j false) = insE E (E.filter fun j => L.getD j false) i := by
      unfold insE
      refine List.filter_congr fun j hj => ?_
      rw [hset]
      congr 1
      rw [Bool.eq_iff_iff]
      simp [hj]
    have hmem : ∀ j, (E.filter fun j => L.getD j false).contains j = true ↔ j ∈ E ∧ L.getD j false = true := fun j => by simp
    have hclD : closedB (masks l []) E (E.filter fun j => L.getD j false) = true := by
      refine List.all_eq_true.2 fun j hj => List.all_eq_true.2 fun k hk => ?_
      obtain ⟨hj1, hj2⟩ := List.mem_filter.1 hj
      cases hb : ((masks l []).getD j 0).testBit k with
      | false => rfl
      | true =>
        rw [Bool.not_true, Bool.false_or]
        exact (hmem k).2 ⟨hk, hsound _ hcl j k hb hj2⟩
    have hrdD : readyB (masks l []) E (E.filter fun j => L.getD j false) i = true := by
      unfold readyB
      simp only [Bool.and_eq_true]
      refine ⟨⟨?_, List.all_eq_true.2 fun k hk => ?_⟩, List.all_eq_true.2 fun j hj => ?_⟩
      · cases hb : (E.filter fun j => L.getD j false).contains i with
        | false => rfl
        | true => have := ((hmem i).1 hb).2; rw [hfalse] at this; cases this
      · cases hb : ((masks l []).getD i 0).testBit k with
        | false => rfl
        | true =>
          rw [Bool.not_true, Bool.false_or]
          rcases hsound _ hcl' i k hb (.inl rfl) with h | h
          · exfalso
            subst h
            -- an operation does not wait for itself
            exact hself k hb
          · exact (hmem k).2 ⟨hk, h⟩
      · cases hb : ((masks l []).getD j 0).testBit i with
        | false => rfl
        | true =>
          have := hsound _ hcl j i hb (List.mem_filter.1 hj).2
          rw [hfalse] at this; cases this
    unfold wpOp
    simp only [ho]
    rcases g4 with ⟨hiE, ⟨k1, x, hx, k2⟩ | ⟨k1, hx⟩⟩ | ⟨k1, k2⟩
    · rw [if_pos ((k1.congr hsel).wanted h8.fr)]
      left
      refine ((k2 _).congr hsel) G a _ _ h8.rel (fun y _ => rep_eval h8.fr y) (fun v G' he hr' hv => ?_)
      refine hnext x hx G' v he ?_ hv
      have e : E.filter (fun j => (L.setIfInBounds i true).getD j false) = E.filter fun j => L.getD j false := List.filter_congr fun j hj => by
        rw [hset]
        have : Nat.beq j i = false := by
          cases hh : Nat.beq j i with
          | false => rfl
          | true => exact absurd (Nat.eq_of_beq_eq_true hh ▸ hj) hiE
        rw [this, Bool.or_false]
      rw [e]; exact hr'
    · rw [if_neg (by rw [(k1.congr hsel).wanted h8.fr]; simp)]
      refine hnext _ hx G undef (.refl G) ?_ (.s _)
      have e : E.filter (fun j => (L.setIfInBounds i true).getD j false) = E.filter fun j => L.getD j false := List.filter_congr fun j hj => by
        rw [hset]
        have : Nat.beq j i = false := by
          cases hh : Nat.beq j i with
          | false => rfl
          | true => exact absurd (Nat.eq_of_beq_eq_true hh ▸ hj) hiE
        rw [this, Bool.or_false]
      rw [e]; exact h8.rel
    · rw [if_pos ((k1.congr hsel).wanted h8.fr)]
      left
      obtain ⟨x, hx, k3⟩ := k2 _ hclD hrdD
      refine (k3.congr hsel) G a _ _ h8.rel (fun y _ => rep_eval h8.fr y) (fun v G' he hr' hv => ?_)
      refine hnext x hx G' v he ?_ hv
      rw [hdn]; exact hr'
theorem edraw_tree {σ' : List Ob} {E : List Nat} {T : List Nat → List Ob} (hqs : sOk l N = true) (hself : ∀ i, ((masks l []).getD i 0).testBit i = true → False) (hEl : ∀ j ∈ E, j < l.length) (hlen : l.length = out.length) (hF' : F' = out.reverse ++ F) (hT0 : T [] = σ) (hTE : T E = σ')
    (hat : ∀ (i : Nat) o, l[i]? = some o → dOk N o = true ∧ ∃ p, out[i]? = some p ∧ (∃ x, p = ent N o x) ∧ TAt P N l E T o i ((out.take i).reverse ++ F) p) (hQ : Q .normal F' σ') : EDraw P N l F σ Q := fun G a h8 => by
  have hno : ∀ j, (Array.replicate l.length false).getD j false = false := fun j => by
    simp only [Array.getD_eq_getD_getElem?, Array.getElem?_replicate]
    split <;> rfl
  have h3 : ∀ (out : List (Nat × AV)) (k : Nat) (F : Frm), fr (fun j => (Array.replicate l.length false).getD j false) k out F = F := by
    intro out
    induction out with
    | nil => intro k F; rfl
    | cons p out ih =>
      intro k F
      have := hno k
      simp only [fr, this, cond_false]
      exact ih _ _
  have h4 : E.filter (fun j => (Array.replicate l.length false).getD j false) = [] := by
    rw [List.filter_eq_nil_iff]
    intro j _
    rw [hno]; simp
  refine etree_any hqs hself hEl hlen hF' hTE hat hQ G l.length _ G a (.refl G) (by simp) (by simp [left_rep]) ?_ (h8.fr N) ?_
  · intro j o hj hD
    rw [hno] at hD
    cases hD
  · rw [h3, h4, hT0]; exact h8
end
end Go.Proofs.YtanfaepjamkbjaaGreat.Aw
end
