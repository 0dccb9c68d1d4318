/-
  Texts joined: EvH, EvI, EvF, Orc, EvG, SxD, MkB. Conditions: none.
-/
import Derived.Test.YtanfaepjamkbjaaGreatJC7
import Derived.Test.YtanfaepjamkbjaaGreatJC6
import Derived.Test.YtanfaepjamkbjaaGreatJC9
section
namespace Go.Proofs.YtanfaepjamkbjaaGreat.Aw
set_option linter.unusedSimpArgs false
set_option linter.unusedVariables false
set_option linter.unusedSectionVars false
open Go.RowKit

/-- names only these -/
inductive Nm (q : Nat → Prop) : AV → Prop
  | any : Nm q .any
  | s (v : Value) : Nm q (.s v)
  | agg (cs : List AV) (h : ∀ c ∈ cs, Nm q c) : Nm q (.agg cs)
  | emp : Nm q .emp
  | sl (l : List AV) (h : ∀ c ∈ l, Nm q c) : Nm q (.sl l)
  | ref (cs : List AV) (h : ∀ c ∈ cs, Nm q c) : Nm q (.ref cs)
  | own (id sz n : Nat) (h : q id) : Nm q (.own id sz n)
  | ptr (id sz i j : Nat) (h : q id) : Nm q (.ptr id sz i j)
  | fn (f : FuncId) (cs : List AV) (h : ∀ c ∈ cs, Nm q c) : Nm q (.fn f cs)
  | tup (l : List AV) (h : ∀ c ∈ l, Nm q c) : Nm q (.tup l)
  | mp (id : Nat) (h : q id) : Nm q (.mp id)
  | sub (id sz o n : Nat) (h : q id) : Nm q (.sub id sz o n)
theorem Nm.cells {q : Nat → Prop} {x : AV} (h : Nm q x) : ∀ c ∈ x.cells, Nm q c := by
  cases h with
  | agg cs h => exact h
  | any => intro c hc; simp [AV.cells] at hc; subst hc; exact .any
  | s v => intro c hc; simp [AV.cells] at hc; subst hc; exact .s v
  | emp => intro c hc; simp [AV.cells] at hc; subst hc; exact .emp
  | sl l h => intro c hc; simp [AV.cells] at hc; subst hc; exact .sl l h
  | ref l h => intro c hc; simp [AV.cells] at hc; subst hc; exact .ref l h
  | own a b c h => intro c hc; simp [AV.cells] at hc; subst hc; exact .own _ _ _ h
  | ptr a b c d h => intro c hc; simp [AV.cells] at hc; subst hc; exact .ptr _ _ _ _ h
  | fn f l h => intro c hc; simp [AV.cells] at hc; subst hc; exact .fn f l h
  | tup l h => intro c hc; simp [AV.cells] at hc; subst hc; exact .tup l h
  | mp a h => intro c hc; simp [AV.cells] at hc; subst hc; exact .mp _ h
  | sub a b c d h => intro c hc; simp [AV.cells] at hc; subst hc; exact .sub _ _ _ _ h
def sameBut (G G' : Cx) : Prop := G'.base = G.base ∧ G'.w0 = G.w0 ∧ G'.w = G.w ∧ G'.St = G.St
theorem Rep.nm {G G' : Cx} {q : Nat → Prop} {v : Value} {x : AV} (h : Rep G v x) (hx : Nm q x) (hs : sameBut G G') (hmu : ∀ id y, q id → G.mu id = some y → G'.mu id = some y) : Rep G' v x := by
  obtain ⟨_, _, hw, hst⟩ := hs
  induction h with
  | any v => exact .any v
  | s v => exact .s v
  | agg vs cs hl h1 _ ih => cases hx with | agg _ hx => exact .agg vs cs hl h1 (fun j v c a b => ih j v c a b (hx c (List.mem_of_getElem? b)))
  | emp A hA => exact .emp A hA
  | slnil A cap => exact .slnil A cap
  | sl b o cap sz l val hcp hm h1 h2 _ ih => cases hx with | sl _ hx => exact .sl b o cap sz l val hcp hm h1 (fun k x j c hk hj => by rw [hst, hw]; exact h2 k x j c hk hj) (fun k x j c hk hj => ih k x j c hk hj ((hx x (List.mem_of_getElem? hk)).cells c (List.mem_of_getElem? hj)))
  | ref b o cs val h1 h2 _ ih => cases hx with | ref _ hx => exact .ref b o cs val h1 (fun j c hj => by rw [hst, hw]; exact h2 j c hj) (fun j c hj => ih j c hj (hx c (List.mem_of_getElem? hj)))
  | own0 id sz A hA hm => cases hx with | own _ _ _ hx => exact .own0 id sz A hA (hmu _ _ hx hm)
  | own id sz n b cap hm hn hcp hb => cases hx with | own _ _ _ hx => exact .own id sz n b cap (hmu _ _ hx hm) hn hcp (by rw [hw]; exact hb)
  | ptr id sz i j b hm => cases hx with | ptr _ _ _ _ hx => exact .ptr id sz i j b (hmu _ _ hx hm)
  | fn f vs cs hl _ ih => cases hx with | fn _ _ hx => exact .fn f vs cs hl (fun j v c a b => ih j v c a b (hx c (List.mem_of_getElem? b)))
  | tup vs l hl _ ih => cases hx with | tup _ hx => exact .tup vs l hl (fun j v c a b => ih j v c a b (hx c (List.mem_of_getElem? b)))
  | mp id b hm => cases hx with | mp _ hx => exact .mp id b (hmu _ _ hx hm)
  | sub id sz o n b cap A hm hA hc => cases hx with | sub _ _ _ _ hx => exact .sub id sz o n b cap A (hmu _ _ hx hm) hA (by rw [hw]; exact hc)
def ObNm (q : Nat → Prop) : Ob → Prop
  | .row _ cs | .fz _ cs => ∀ c ∈ cs, Nm q c
  | .mp _ => False
  | _ => True
/-- the same world under other names -/
theorem hole_rel {G G' : Cx} {τ σ : List Ob} {q : Nat → Prop} (π : Nat → Nat) (hr : Rel G τ) (hs : sameBut G G') (hmu : ∀ id y, q id → G.mu id = some y → G'.mu id = some y)
    (hob : ∀ id ob, σ[id]? = some ob → (ob = .dead ∧ G'.mu id = none) ∨ (τ[π id]? = some ob ∧ G'.mu id = G.mu (π id) ∧ ObNm q ob))
    (hπ : ∀ i j, alive σ i → alive σ j → π i = π j → i = j) (hf : ∀ id, σ.length ≤ id → G'.mu id = none) : Rel G' σ := by
  obtain ⟨e1, e2, e3, e4⟩ := hs
  have al : ∀ i, alive σ i → alive τ (π i) ∧ G'.mu i = G.mu (π i) := by
    rintro i ⟨sz, cs, h⟩
    rcases hob i _ h with ⟨h1, _⟩ | ⟨h1, h2, _⟩
    · cases h1
    · exact ⟨⟨sz, cs, h1⟩, h2⟩
  refine ⟨by rw [e1, e2, e3]; exact hr.below, by rw [e1, e2]; exact hr.le, by rw [e3, e4]; exact hr.st, fun id ob ho => ?_, fun i j b hi hj hmi hmj => ?_, hf⟩
  · rcases hob id ob ho with ⟨rfl, h1⟩ | ⟨h1, h2, h3⟩
    · intro b hb
      rw [h1] at hb; cases hb
    · have h4 := hr.obs _ ob h1
      have row : ∀ b sz cs fr, (∀ c ∈ cs, Nm q c) → RowAt G b sz cs fr → RowAt G' b sz cs fr := by
        rintro b sz cs fr hlo ⟨cur, t, f, g2, g3, g4, g5⟩
        refine ⟨cur, t, f, by rw [e3]; exact g2, g3, g4, fun i x hx => ⟨(g5 i x hx).1, (g5 i x hx).2.1, fun j c hc => ?_⟩⟩
        obtain ⟨v, g6, g7⟩ := (g5 i x hx).2.2 j c hc
        exact ⟨v, g6, g7.nm ((hlo x (List.mem_of_getElem? hx)).cells c (List.mem_of_getElem? hc)) ⟨e1, e2, e3, e4⟩ hmu⟩
      cases ob with
      | dead => intro b hb; rw [e3]; exact h4 b (by rw [← h2]; exact hb)
      | row sz cs =>
        have hlo : ∀ c ∈ cs, Nm q c := h3
        simp only [ObOk] at h4 ⊢
        rw [h2]
        cases hx : G.mu (π id) with
        | none => rw [hx] at h4; exact h4
        | some x =>
          rw [hx] at h4
          cases x with
          | none => exact h4
          | some b => exact ⟨row b sz cs _ hlo h4.1, by rw [e1]; exact h4.2.1, by rw [e4]; exact h4.2.2⟩
      | fz sz cs =>
        have hlo : ∀ c ∈ cs, Nm q c := h3
        simp only [ObOk] at h4 ⊢
        rw [h2]
        cases hx : G.mu (π id) with
        | none => rw [hx] at h4; exact h4
        | some x =>
          rw [hx] at h4
          cases x with
          | none => exact h4
          | some b => exact ⟨row b sz cs _ hlo h4.1, by rw [e4]; exact h4.2⟩
      | mp X => exact h3.elim
  · obtain ⟨a1, m1⟩ := al i hi
    obtain ⟨a2, m2⟩ := al j hj
    exact hπ i j hi hj (hr.inj _ _ b a1 a2 (by rw [← m1]; exact hmi) (by rw [← m2]; exact hmj))
/-- the holes have no block -/
def Hol (hs : List Nat) (G : Cx) : Prop := ∀ id ∈ hs, G.mu id = none
def DoesH (P : Program) (o : Oper) (F : Frm) (σ : List Ob) (hs : List Nat) (x : AV) (σ' : List Ob) (hs' : List Nat) : Prop :=
  ∀ (G : Cx) (a : Act) (next : Act → World → Prop) (Q : Exit → Act → World → Prop), Rel G σ → Hol hs G → (∀ y ∈ o.op.operands, Rep G (a.eval y) (F.eval y)) →
    (∀ v G', G.Ext G' → Rel G' σ' → Hol hs' G' → Rep G' v x → next (a.put o.dst v) G'.w) → o.wp P a G.w next Q
section
variable {P : Program} {o : Oper} {F : Frm} {σ σ' : List Ob} {hs : List Nat} {x x' : AV}
theorem DoesH.congr {F' : Frm} {ops : Array Oper} {hs' : List Nat} (h : DoesH P o F σ hs x σ' hs') (he : ∀ t ∈ o.looksAt ops, F.get t = F'.get t) : DoesH P o F' σ hs x σ' hs' := fun G a next Q hr hh hop hn =>
  h G a next Q hr hh (fun y hy => by rw [eval_congr he y hy]; exact hop y hy) hn
/-- an operation that makes nothing -/
theorem doesH_keep (h : Does P o F σ x σ') (hx : Nm (· ∉ hs) x) (ho : ∀ id ob, σ'[id]? = some ob → (id ∈ hs → ob = .dead) ∧ (id ∉ hs → ObNm (· ∉ hs) ob)) : DoesH P o F σ hs x σ' hs := fun G a next Q hr hh hop hn =>
  h G a next Q hr hop fun v G' he hr' hv => by
    let G2 : Cx := { G' with mu := fun i => if i ∈ hs then none else G'.mu i }
    have hmu : ∀ id y, id ∉ hs → G'.mu id = some y → G2.mu id = some y := fun id y h1 h2 => by
      show (if id ∈ hs then none else G'.mu id) = some y
      rw [if_neg h1]; exact h2
    refine hn v G2 ⟨he.base, he.w0, he.st, he.cell, fun id y hy => ?_, he.size, he.rows, he.stN⟩ (hole_rel (fun i => i) hr' ⟨rfl, rfl, rfl, rfl⟩ hmu (fun id ob hob => ?_) (fun i j _ _ e => e) (fun id hid => ?_)) (fun id hid => if_pos hid) (hv.nm hx ⟨rfl, rfl, rfl, rfl⟩ hmu)
    · refine hmu id y (fun hid => ?_) (he.mu id y hy)
      rw [hh id hid] at hy; cases hy
    · by_cases hid : id ∈ hs
      · exact .inl ⟨(ho id ob hob).1 hid, if_pos hid⟩
      · exact .inr ⟨hob, if_neg hid, (ho id ob hob).2 hid⟩
    · show (if id ∈ hs then none else G'.mu id) = none
      rw [hr'.fresh id hid]; split <;> rfl
theorem nm_of_cells {q : Nat → Prop} {x : AV} (h : ∀ c ∈ x.cells, Nm q c) : Nm q x := by
  by_cases hx : ∃ cs, x = .agg cs
  · obtain ⟨cs, rfl⟩ := hx; exact .agg cs h
  · have : x.cells = [x] := by cases x <;> first | rfl | (exact absurd ⟨_, rfl⟩ hx)
    exact h x (by rw [this]; simp)
/-- what stands for a value names no hole -/
theorem rep_nmq {G : Cx} {q : Nat → Prop} (key : ∀ id b, G.mu id = some b → q id) {v : Value} {x : AV} (h : Rep G v x) : Nm q x := by
  induction h with
  | any v => exact .any
  | s v => exact .s v
  | agg vs cs hl h1 _ ih =>
    refine .agg cs fun c hc => ?_
    obtain ⟨j, hj, rfl⟩ := List.mem_iff_getElem.1 hc
    exact ih j _ _ (Array.getElem?_eq_getElem (by omega)) (List.getElem?_eq_getElem hj)
  | emp A hA => exact .emp
  | slnil A cap => exact .sl [] (by simp)
  | sl b o cap sz l val hc hm h1 h2 _ ih =>
    refine .sl l fun e he => nm_of_cells fun c hcc => ?_
    obtain ⟨i, hi, rfl⟩ := List.mem_iff_getElem.1 he
    obtain ⟨j, hj, rfl⟩ := List.mem_iff_getElem.1 hcc
    exact ih i _ j _ (List.getElem?_eq_getElem hi) (List.getElem?_eq_getElem hj)
  | ref b o cs val h1 h2 _ ih =>
    refine .ref cs fun c hc => ?_
    obtain ⟨j, hj, rfl⟩ := List.mem_iff_getElem.1 hc
    exact ih j _ (List.getElem?_eq_getElem hj)
  | own0 id sz A hA hm => exact .own _ _ _ (key _ _ hm)
  | own id sz n b cap hm hn hc hb => exact .own _ _ _ (key _ _ hm)
  | ptr id sz k j b hm => exact .ptr _ _ _ _ (key _ _ hm)
  | fn f vs cs hl _ ih =>
    refine .fn f cs fun c hc => ?_
    obtain ⟨j, hj, rfl⟩ := List.mem_iff_getElem.1 hc
    exact ih j _ _ (Array.getElem?_eq_getElem (by omega)) (List.getElem?_eq_getElem hj)
  | tup vs cs hl _ ih =>
    refine .tup cs fun c hc => ?_
    obtain ⟨j, hj, rfl⟩ := List.mem_iff_getElem.1 hc
    exact ih j _ _ (Array.getElem?_eq_getElem (by omega)) (List.getElem?_eq_getElem hj)
  | mp id b hm => exact .mp _ (key _ _ hm)
  | sub id sz o n b cap A hm hA _ => exact .sub _ _ _ _ (key _ _ hm)
def isMp : Ob → Bool
  | .mp _ => true
  | _ => false
theorem rel_nmq {G : Cx} {q : Nat → Prop} (hr : Rel G σ) (key : ∀ id b, G.mu id = some b → q id) {id : Nat} {ob : Ob} (hob : σ[id]? = some ob) (hm : isMp ob = false) : ObNm q ob := by
  have h1 := hr.obs id ob hob
  have row : ∀ b sz cs fr, RowAt G b sz cs fr → ∀ c ∈ cs, Nm q c := by
    rintro b sz cs fr ⟨cur, t, q', h2, h3, h4, h5⟩ e he
    obtain ⟨i, hi, rfl⟩ := List.mem_iff_getElem.1 he
    obtain ⟨_, _, h6⟩ := h5 i _ (List.getElem?_eq_getElem hi)
    refine nm_of_cells fun c hc => ?_
    obtain ⟨j, hj, rfl⟩ := List.mem_iff_getElem.1 hc
    obtain ⟨v, _, h7⟩ := h6 j _ (List.getElem?_eq_getElem hj)
    exact rep_nmq key h7
  cases ob with
  | row sz cs =>
    simp only [ObOk] at h1
    cases hx : G.mu id with
    | none => rw [hx] at h1; exact h1.elim
    | some x =>
      rw [hx] at h1
      cases x with
      | none => simp only at h1; subst h1; intro c hc; simp at hc
      | some b => exact row b sz cs _ h1.1
  | fz sz cs =>
    simp only [ObOk] at h1
    cases hx : G.mu id with
    | none => rw [hx] at h1; exact h1.elim
    | some x =>
      rw [hx] at h1
      cases x with
      | none => simp only at h1; subst h1; intro c hc; simp at hc
      | some b => exact row b sz cs _ h1.1
  | dead => trivial
  | mp X => cases hm
theorem Hol.key {G : Cx} (hh : Hol hs G) : ∀ id b, G.mu id = some b → id ∉ hs := fun id b hb hid => by rw [hh id hid] at hb; cases hb
theorem rel_hol {G : Cx} (hr : Rel G σ) (hh : Hol hs G) {id : Nat} {ob : Ob} (hob : σ[id]? = some ob) (hm : isMp ob = false) : ObNm (· ∉ hs) ob := rel_nmq hr hh.key hob hm
/-- the same, where only what it changes is looked at -/
theorem doesH_keep2 (h : Does P o F σ x σ') (hx : Nm (· ∉ hs) x) (W : List Nat) (hW : ∀ id, id ∉ W → σ'[id]? = σ[id]?) (hd : ∀ id ∈ hs, σ[id]? = some .dead) (hWd : ∀ id ∈ W, id ∉ hs)
    (hWo : ∀ id ∈ W, ∀ ob : Ob, σ'[id]? = some ob → ObNm (· ∉ hs) ob) (hmp : ∀ (id : Nat) (ob : Ob), σ[id]? = some ob → isMp ob = false) : DoesH P o F σ hs x σ' hs := fun G a next Q hr hh hop hn =>
by
  have ho : ∀ (id : Nat) (ob : Ob), σ'[id]? = some ob → (id ∈ hs → ob = .dead) ∧ (id ∉ hs → ObNm (· ∉ hs) ob) := fun id ob hob => by
    refine ⟨fun hid => ?_, fun hid => ?_⟩
    · rw [hW id (fun hw => hWd id hw hid), hd id hid] at hob
      exact (Option.some.inj hob).symm
    · by_cases hw : id ∈ W
      · exact hWo id hw ob hob
      · rw [hW id hw] at hob
        exact rel_hol hr hh hob (hmp id ob hob)
  exact doesH_keep h hx ho G a next Q hr hh hop hn
/-- the name is another one -/
inductive RnTo (l h : Nat) : AV → AV → Prop
  | ptr (sz k j : Nat) : RnTo l h (.ptr l sz k j) (.ptr h sz k j)
  | own (sz n : Nat) : RnTo l h (.own l sz n) (.own h sz n)
/-- an operation that makes one object, which takes the name of a hole -/
theorem doesH_push {ob : Ob} {h : Nat} (hd : Does P o F σ x (σ ++ [ob])) (hh0 : h ∈ hs) (hlt : h < σ.length) (hsd : ∀ id ∈ hs, σ[id]? = some .dead) (hx : RnTo σ.length h x x') (hob : ObNm (fun i => i ∉ hs ∧ i < σ.length) ob)
    (ho : ∀ id ob, σ[id]? = some ob → id ∉ hs → ObNm (fun i => i ∉ hs ∧ i < σ.length) ob) : DoesH P o F σ hs x' (σ.set h ob) (hs.filter fun i => !Nat.beq i h) := fun G a next Q hr hh hop hn =>
  hd G a next Q hr hop fun v G' he hr' hv => by
    let G2 : Cx := { G' with mu := fun i => if i = h then G'.mu σ.length else if i ∈ hs ∨ σ.length ≤ i then none else G'.mu i }
    have g0 : G2.mu h = G'.mu σ.length := if_pos rfl
    have g1 : ∀ id, id ≠ h → (id ∈ hs ∨ σ.length ≤ id) → G2.mu id = none := fun id h1 h2 => by
      show (if id = h then G'.mu σ.length else if id ∈ hs ∨ σ.length ≤ id then none else G'.mu id) = none
      rw [if_neg h1, if_pos h2]
    have g2 : ∀ id, id ∉ hs → id < σ.length → G2.mu id = G'.mu id := fun id h1 h2 => by
      show (if id = h then G'.mu σ.length else if id ∈ hs ∨ σ.length ≤ id then none else G'.mu id) = G'.mu id
      have h4 : id ≠ h := fun e => h1 (by rw [e]; exact hh0)
      have h5 : ¬ (id ∈ hs ∨ σ.length ≤ id) := by rintro (h3 | h3); exact h1 h3; omega
      rw [if_neg h4, if_neg h5]
    have hmu : ∀ id y, (id ∉ hs ∧ id < σ.length) → G'.mu id = some y → G2.mu id = some y := fun id y h1 h2 => (g2 id h1.1 h1.2).trans h2
    have hset : ∀ i, i ≠ h → (σ.set h ob)[i]? = σ[i]? := fun i hi => List.getElem?_set_ne (Ne.symm hi)
    refine hn v G2 ⟨he.base, he.w0, he.st, he.cell, fun id y hy => ?_, he.size, he.rows, he.stN⟩ (hole_rel (fun i => if i = h then σ.length else i) hr' ⟨rfl, rfl, rfl, rfl⟩ hmu (fun id ob' hob' => ?_) (fun i j hi hj e => ?_) (fun id hid => ?_)) (fun id hid => ?_) ?_
    · refine hmu id y ⟨fun hid => ?_, ?_⟩ (he.mu id y hy)
      · rw [hh id hid] at hy; cases hy
      · rcases Nat.lt_or_ge id σ.length with h1 | h1
        · exact h1
        · rw [hr.fresh id h1] at hy; cases hy
    · by_cases hid : id = h
      · subst hid
        rw [List.getElem?_set_self hlt] at hob'
        cases hob'
        right
        rw [if_pos rfl]
        exact ⟨by simp, g0, hob⟩
      · rw [hset id hid] at hob'
        have hl : id < σ.length := (List.getElem?_eq_some_iff.1 hob').1
        by_cases h2 : id ∈ hs
        · left
          rw [hsd id h2] at hob'
          exact ⟨(Option.some.inj hob').symm, g1 id hid (.inl h2)⟩
        · right
          rw [if_neg hid]
          exact ⟨by rw [List.getElem?_append_left hl]; exact hob', g2 id h2 hl, ho id ob' hob' h2⟩
    · have hl : ∀ i, alive (σ.set h ob) i → i < σ.length := by
        rintro i ⟨sz, cs, h1⟩
        have := (List.getElem?_eq_some_iff.1 h1).1
        simpa using this
      have a1 := hl i hi
      have a2 := hl j hj
      by_cases h1 : i = h
      · by_cases h2 : j = h
        · rw [h1, h2]
        · rw [if_pos h1, if_neg h2] at e; omega
      · by_cases h2 : j = h
        · rw [if_neg h1, if_pos h2] at e; omega
        · rw [if_neg h1, if_neg h2] at e; exact e
    · rw [List.length_set] at hid
      exact g1 id (by omega) (.inr hid)
    · rw [List.mem_filter] at hid
      refine g1 id (fun e => ?_) (.inl hid.1)
      subst e
      have := hid.2
      simp at this
    · cases hx with
      | ptr sz k j => cases hv with | ptr _ _ _ _ b hm => exact .ptr _ _ _ _ b (g0.trans hm)
      | own sz n =>
        cases hv with
        | own0 _ _ A hA hm => exact .own0 _ _ A hA (g0.trans hm)
        | own _ _ _ b cap hm h1 h2 h3 => exact .own _ _ _ b cap (g0.trans hm) h1 h2 h3
theorem doesH_push2 {ob : Ob} {h : Nat} (hd : Does P o F σ x (σ ++ [ob])) (hh0 : h ∈ hs) (hlt : h < σ.length) (hsd : ∀ id ∈ hs, σ[id]? = some .dead) (hx : RnTo σ.length h x x') (hob : ObNm (fun i => i ∉ hs ∧ i < σ.length) ob)
    (hmp : ∀ (id : Nat) (ob : Ob), σ[id]? = some ob → isMp ob = false) : DoesH P o F σ hs x' (σ.set h ob) (hs.filter fun i => !Nat.beq i h) := fun G a next Q hr hh hop hn => by
  have key : ∀ id b, G.mu id = some b → id ∉ hs ∧ id < σ.length := fun id b hb => ⟨hh.key id b hb, by
    rcases Nat.lt_or_ge id σ.length with h1 | h1
    · exact h1
    · rw [hr.fresh id h1] at hb; cases hb⟩
  exact doesH_push hd hh0 hlt hsd hx hob (fun id ob' h1 _ => rel_nmq hr key h1 (hmp id ob' h1)) G a next Q hr hh hop hn
theorem Nm.mono {q q' : Nat → Prop} (hq : ∀ i, q i → q' i) {x : AV} (h : Nm q x) : Nm q' x := by
  induction h with
  | any => exact .any
  | s v => exact .s v
  | agg cs _ ih => exact .agg cs ih
  | emp => exact .emp
  | sl l _ ih => exact .sl l ih
  | ref l _ ih => exact .ref l ih
  | own a b c h => exact .own _ _ _ (hq _ h)
  | ptr a b c d h => exact .ptr _ _ _ _ (hq _ h)
  | fn f l _ ih => exact .fn f l ih
  | tup l _ ih => exact .tup l ih
  | mp a h => exact .mp _ (hq _ h)
  | sub a b c d h => exact .sub _ _ _ _ (hq _ h)
theorem ObNm.mono {q q' : Nat → Prop} (hq : ∀ i, q i → q' i) {ob : Ob} (h : ObNm q ob) : ObNm q' ob := by
  cases ob with
  | row n cs => exact fun c hc => (h c hc).mono hq
  | fz n cs => exact fun c hc => (h c hc).mono hq
  | mp X => exact h
  | dead => trivial
mutual
def nmB (q : Nat → Bool) : AV → Bool
  | .any | .s _ | .emp => true
  | .agg l | .sl l | .ref l | .fn _ l | .tup l => nmsB q l
  | .own id _ _ | .ptr id _ _ _ | .mp id | .sub id _ _ _ => q id
def nmsB (q : Nat → Bool) : List AV → Bool
  | [] => true
  | x :: l => nmB q x && nmsB q l
end
mutual
theorem nmB_of {q : Nat → Bool} : ∀ (x : AV), nmB q x = true → Nm (fun i => q i = true) x
  | .any, _ => .any
  | .s v, _ => .s v
  | .emp, _ => .emp
  | .agg l, h => .agg l (nmsB_of l (by simpa [nmB] using h))
  | .sl l, h => .sl l (nmsB_of l (by simpa [nmB] using h))
  | .ref l, h => .ref l (nmsB_of l (by simpa [nmB] using h))
  | .fn f l, h => .fn f l (nmsB_of l (by simpa [nmB] using h))
  | .tup l, h => .tup l (nmsB_of l (by simpa [nmB] using h))
  | .own id a b, h => .own id a b (by simpa [nmB] using h)
  | .ptr id a b c, h => .ptr id a b c (by simpa [nmB] using h)
  | .mp id, h => .mp id (by simpa [nmB] using h)
  | .sub id a b c, h => .sub id a b c (by simpa [nmB] using h)
theorem nmsB_of {q : Nat → Bool} : ∀ (l : List AV), nmsB q l = true → ∀ c ∈ l, Nm (fun i => q i = true) c
  | [], _ => by simp
  | x :: l, h => by
    simp only [nmsB, Bool.and_eq_true] at h
    have h1 := nmB_of x h.1
    have h2 := nmsB_of l h.2
    intro c hc
    rcases List.mem_cons.1 hc with e | hc
    · rw [e]; exact h1
    · exact h2 c hc
end
def obNmB (q : Nat → Bool) : Ob → Bool
  | .row _ cs | .fz _ cs => nmsB q cs
  | .mp _ => false
  | .dead => true
theorem obNmB_of {q : Nat → Bool} {ob : Ob} (h : obNmB q ob = true) : ObNm (fun i => q i = true) ob := by
  cases ob with
  | row n cs => exact nmsB_of cs h
  | fz n cs => exact nmsB_of cs h
  | mp X => cases h
  | dead => trivial
def rnB (l h : Nat) : AV → AV → Bool
  | .ptr a b c d, .ptr a' b' c' d' => Nat.beq a l && Nat.beq a' h && Nat.beq b b' && Nat.beq c c' && Nat.beq d d'
  | .own a b c, .own a' b' c' => Nat.beq a l && Nat.beq a' h && Nat.beq b b' && Nat.beq c c'
  | _, _ => false
theorem rnB_of {l h : Nat} {x y : AV} (e : rnB l h x y = true) : RnTo l h x y := by
  unfold rnB at e
  split at e
  · simp only [Bool.and_eq_true] at e
    obtain ⟨⟨⟨⟨e1, e2⟩, e3⟩, e4⟩, e5⟩ := e
    rw [Nat.eq_of_beq_eq_true e1, Nat.eq_of_beq_eq_true e2, Nat.eq_of_beq_eq_true e3, Nat.eq_of_beq_eq_true e4, Nat.eq_of_beq_eq_true e5]
    exact .ptr _ _ _
  · simp only [Bool.and_eq_true] at e
    obtain ⟨⟨⟨e1, e2⟩, e3⟩, e4⟩ := e
    rw [Nat.eq_of_beq_eq_true e1, Nat.eq_of_beq_eq_true e2, Nat.eq_of_beq_eq_true e3, Nat.eq_of_beq_eq_true e4]
    exact .own _ _
  · cases e
end
end Go.Proofs.YtanfaepjamkbjaaGreat.Aw
end
section
namespace Go.Proofs.YtanfaepjamkbjaaGreat.Aw
set_option linter.unusedSimpArgs false
set_option linter.unusedVariables false
set_option linter.unusedSectionVars false
open Go.RowKit

def TAtH (P : Program) (N : Nat) (l : List Oper) (E : List Nat) (T : List Nat → List Ob) (H : List Nat → List Nat) (o : Oper) (i : Nat) (F : Frm) (p : Nat × AV) : Prop :=
  (i ∉ E ∧ ((Runs l.toArray F o true ∧ ∃ x, p = ent N o x ∧ ∀ q : Nat → Bool, DoesH P o F (T (E.filter q)) (H (E.filter q)) x (T (E.filter q)) (H (E.filter q))) ∨ (Runs l.toArray F o false ∧ p = ent N o (.s undef)))) ∨
  (Runs l.toArray F o true ∧ ∀ q : Nat → Bool, closedB (masks l []) E (E.filter q) = true → readyB (masks l []) E (E.filter q) i = true → ∃ x, p = ent N o x ∧ DoesH P o F (T (E.filter q)) (H (E.filter q)) x (T (insE E (E.filter q) i)) (H (insE E (E.filter q) i)))
section
variable {P : Program} {N : Nat} {l : List Oper} {F F' : Frm} {σ : List Ob} {out : List (Nat × AV)} {Q : Exit → Frm → List Ob → Prop}
theorem etree_hole {σ' : List Ob} {E : List Nat} {T : List Nat → List Ob} {H : List Nat → List Nat} (hqs : sOk l N = true) (hself : ∀ i, ((masks l []).getD i 0).testBit i = true → False) (hEl : ∀ j ∈ E, j < l.length) (hlen : l.length = out.length) (hF' : F' = out.reverse ++ F) (hTE : T E = σ')
    (hat : ∀ (i : Nat) o, l[i]? = some o → dOk N o = true ∧ ∃ p, out[i]? = some p ∧ (∃ x, p = ent N o x) ∧ TAtH P N l E T H o i ((out.take i).reverse ++ F) p) (hQ : Q .normal F' σ') (G0 : Cx) :
    ∀ (fuel : Nat) (L : Array Bool) (G : Cx) (a : Act), G0.Ext G → L.size = l.length → left L.toList = fuel → Closed l (fun j => L.getD j false = true) → Rep G (a.tmps.getD N undef) (F.get N) → Hol (H (E.filter fun j => L.getD j false)) G → S8 N G a (fr (fun j => L.getD j false) 0 out F) (T (E.filter fun j => L.getD j false)) → wpAny P .any l.toArray (liftE N G0 Q) fuel L a G.w := by
  unfold sOk at hqs
  simp only [Bool.and_eq_true] at hqs
  obtain ⟨hq, hlk⟩ := hqs
  have hlk' : ∀ (i : Nat) o, l[i]? = some o → ∀ t ∈ o.looksAt l.toArray, t < N := fun i o ho t ht => by
    have h1 := List.all_eq_true.1 hlk o (List.mem_of_getElem? ho)
    have h2 := List.all_eq_true.1 h1 t ht
    simpa [Nat.blt_eq] using h2
  unfold qOk at hq
  have hq' : ∀ j oj, l[j]? = some oj → (∀ e ∈ oj.after.toList, Region.binds .any e = true → e.on < j) ∧ ∀ i oi, i < j → l[i]? = some oi → clash l.toArray oi oj = true → ((masks l []).getD j 0).testBit i = true := by
    intro j oj hj
    have h1 := List.all_eq_true.1 hq j (by simpa using (List.getElem?_eq_some_iff.1 hj).1)
    rw [hj] at h1
    simp only [Bool.and_eq_true, List.all_eq_true] at h1
    refine ⟨fun e he hb => ?_, fun i oi hij hi hc => ?_⟩
    · have := h1.1 e he
      rw [hb] at this
      simpa [Nat.blt_eq] using this
    · have := h1.2 i (by simpa using hij)
      rw [hi] at this
      simpa [hc] using this
  have hsound : ∀ (D : Nat → Prop), Closed l D → ∀ j i, ((masks l []).getD j 0).testBit i = true → D j → D i := fun D hD => masks_sound hD l [] (fun j o h => by simpa using h) (fun j i h => by simp at h)
  have hnone : ∀ (L : Array Bool), L.size = l.length → Region.ready .any l.toArray L = [] → ∀ j, j < l.length → L.getD j false = true := by
    intro L hL hr j
    induction j using Nat.strongRecOn with
    | _ j ih =>
      intro hj
      cases hc : L.getD j false with
      | true => rfl
      | false =>
        exfalso
        obtain ⟨o, ho⟩ : ∃ o, l[j]? = some o := ⟨_, List.getElem?_eq_getElem hj⟩
        have hm : j ∈ Region.ready .any l.toArray L := by
          refine mem_ready.2 ⟨?_, o, by simpa using ho, fun e he hb => ?_⟩
          · have hlt : j < L.size := by omega
            simp [Array.getD_eq_getD_getElem?, hlt] at hc ⊢
            exact hc
          · have hon := (hq' j o ho).1 e (by simpa using he) hb
            exact ih e.on hon (by omega)
        rw [hr] at hm
        cases hm
  -- when all have come up
  have hend : ∀ (L : Array Bool) (G : Cx) (a : Act), G0.Ext G → L.size = l.length → Region.ready .any l.toArray L = [] → S8 N G a (fr (fun j => L.getD j false) 0 out F) (T (E.filter fun j => L.getD j false)) → (∀ j ∈ E, j < l.length) → liftE N G0 Q .normal a G.w := by
    intro L G a hst hL hr h8 hEl
    have e1 : E.filter (fun j => L.getD j false) = E := List.filter_eq_self.2 fun j hj => hnone L hL hr j (hEl j hj)
    rw [e1, hTE] at h8
    refine ⟨G, F', σ', rfl, hst, ⟨h8.rel, fun t => ?_, h8.df, h8.nt⟩, hQ⟩
    have h1 := h8.fr t
    have h2 : (fr (fun j => L.getD j false) 0 out F).get t = (fr (fun j => decide (j < 0 + out.length)) 0 out F).get t := fr_congr out 0 F F rfl (fun j p hp _ => by
      have hj : j < out.length := (List.getElem?_eq_some_iff.1 hp).1
      simp only [Nat.zero_add]
      rw [hnone L hL hr j (by omega)]
      simp [hj])
    rw [h2, fr_pre, List.take_length, ← hF'] at h1
    exact h1
  intro fuel
  induction fuel with
  | zero =>
    intro L G a hst hL hlf hcl _ hH h8
    have hr : Region.ready .any l.toArray L = [] := by
      rw [List.eq_nil_iff_forall_not_mem]
      intro i hi
      obtain ⟨h1, o, ho, _⟩ := mem_ready.1 hi
      have hlt : i < L.size := by rw [hL]; simpa using (Array.getElem?_eq_some_iff.1 ho).1
      have : 0 < left L.toList := left_pos i (by simp [Array.getD_eq_getD_getElem?, hlt] at h1 ⊢; exact h1)
      omega
    exact ⟨hr, hend L G a hst hL hr h8 hEl⟩
  | succ fuel ih =>
    intro L G a hst hL hlf hcl hNr hH h8
    refine ⟨fun hr => hend L G a hst hL hr h8 hEl, fun i hi => ?_⟩
    obtain ⟨h1, o, ho, hall⟩ := mem_ready.1 hi
    have hli : l[i]? = some o := by simpa using ho
    have hlt : i < L.size := by rw [hL]; exact (List.getElem?_eq_some_iff.1 hli).1
    have hfalse : L.getD i false = false := by simp [Array.getD_eq_getD_getElem?, hlt] at h1 ⊢; exact h1
    obtain ⟨g2, p0, g1, ⟨x0, hx0⟩, g4⟩ := hat i o hli
    -- the others that touch its slots: those before it have come up, those behind it have not
    have hcl' : Closed l (fun j => j = i ∨ L.getD j false = true) := by
      intro j oj hj hD e he hb
      rcases hD with rfl | hD
      · rw [hli] at hj; cases hj
        exact .inr (hall e (by simpa using he) hb)
      · exact .inr (hcl j oj hj hD e he hb)
    have hord : ∀ j oj, l[j]? = some oj → j ≠ i → (j < i → clash l.toArray oj o = true → L.getD j false = true) ∧ (i < j → clash l.toArray o oj = true → L.getD j false = false) := by
      intro j oj hj hne
      refine ⟨fun hji hc => ?_, fun hij hc => ?_⟩
      · rcases hsound _ hcl' i j ((hq' i o hli).2 j oj hji hj hc) (.inl rfl) with h | h
        · exact absurd h hne
        · exact h
      · cases hx : L.getD j false with
        | false => rfl
        | true =>
          have := hsound _ hcl j i ((hq' j oj hj).2 i o hij hli hc) hx
          rw [hfalse] at this
          cases this
    have hsel : ∀ t, t ∈ o.looksAt l.toArray → Frm.get ((out.take i).reverse ++ F) t = (fr (fun j => L.getD j false) 0 out F).get t := by
      intro t ht
      rw [← fr_pre out 0 i F]
      refine (fr_congr out 0 F F rfl (fun j p hp hpt => ?_)).symm
      simp only [Nat.zero_add]
      have hj : j < l.length := by rw [hlen]; exact (List.getElem?_eq_some_iff.1 hp).1
      obtain ⟨_, p', k1, ⟨x', rfl⟩, _⟩ := hat j _ (List.getElem?_eq_getElem hj)
      rw [k1] at hp
      cases hp
      have htN := hlk' i o hli t ht
      have k2 : l[j].dst = some t := ent_at hpt htN
      by_cases hji : j = i
      · subst hji; rw [hfalse]; simp
      · rcases Nat.lt_or_gt_of_ne hji with h | h
        · rw [(hord j _ (List.getElem?_eq_getElem hj) hji).1 h (clash_of.1 k2 ht)]; simp [h]
        · rw [(hord j _ (List.getElem?_eq_getElem hj) hji).2 h (clash_of.2.2 k2 ht)]; simp; omega
    -- what is known behind it
    have hnext : ∀ (x : AV), p0 = ent N o x → ∀ (G' : Cx) (v : Value), G.Ext G' → Rel G' (T (E.filter fun j => (L.setIfInBounds i true).getD j false)) → Hol (H (E.filter fun j => (L.setIfInBounds i true).getD j false)) G' → Rep G' v x → wpAny P .any l.toArray (liftE N G0 Q) fuel (L.setIfInBounds i true) (a.put o.dst v) G'.w := by
      intro x hx G' v he hr' hH' hv
      rw [hx] at g1
      refine ih _ G' _ (hst.trans he) (by simpa using hL) ?_ ?_ ?_ hH' ⟨hr', fun t => ?_, by cases o.dst <;> exact h8.df, by cases o.dst <;> simp [Act.put, h8.nt]⟩
      · have := left_set L.toList i (by simp [Array.getD_eq_getD_getElem?, hlt] at hfalse ⊢; exact hfalse)
        rw [Array.toList_setIfInBounds]; omega
      · intro j oj hj hD e he2 hb
        have key : ∀ k, (L.setIfInBounds i true).getD k false = true ↔ (k = i ∨ L.getD k false = true) := fun k => by
          by_cases hk : i = k
          · subst hk; simp [Array.getD_eq_getD_getElem?, hlt]
          · simp [Array.getD_eq_getD_getElem?, Array.getElem?_setIfInBounds, hk, Ne.symm hk]
        rw [key] at hD ⊢
        exact hcl' j oj hj hD e he2 hb
      · cases ho2 : o.dst with
        | none => exact hNr.ext he
        | some d =>
          have hd := dOk_lt g2 ho2
          have : d ≠ N := Nat.ne_of_lt hd
          have h1 : (a.put (some d) v).tmps.getD N undef = a.tmps.getD N undef := by simp [Act.put, Array.getD_eq_getD_getElem?, Array.getElem?_setIfInBounds, this]
          rw [h1]; exact hNr.ext he
      · have hselL : ∀ k, k ≠ i → (L.setIfInBounds i true).getD k false = L.getD k false := fun k hk => by
          simp [Array.getD_eq_getD_getElem?, Array.getElem?_setIfInBounds, Ne.symm hk]
        by_cases hte : t = (ent N o x).1
        · cases ho2 : o.dst with
          | none =>
            rw [ent_none ho2] at hte
            have hte : t = N := hte
            rw [hte]
            refine fr_rep out 0 F (hNr.ext he) (fun p hp hpt => ?_)
            obtain ⟨j, hj, rfl⟩ := List.mem_iff_getElem.1 hp
            obtain ⟨k2, p', k1, ⟨x', hx'⟩, _⟩ := hat j l[j] (List.getElem?_eq_getElem (by omega))
            have k3 : out[j] = ent N l[j] x' := by rw [List.getElem?_eq_getElem hj] at k1; exact (Option.some.inj k1).trans hx'
            rw [k3] at hpt ⊢
            rw [ent_top hpt k2]
            exact .any _
          | some d =>
            rw [ent_some ho2] at hte g1
            dsimp only at hte
            subst hte
            have h2 : (fr (fun j => (L.setIfInBounds i true).getD j false) 0 out F).get t = x := fr_last out 0 F i g1 (by simp [Array.getD_eq_getD_getElem?, hlt]) (fun j p hp hij hc hpt => by
              simp only [Nat.zero_add] at hc
              rw [hselL j (by omega)] at hc
              have hj : j < l.length := by rw [hlen]; exact (List.getElem?_eq_some_iff.1 hp).1
              obtain ⟨_, p', k1, ⟨x', rfl⟩, _⟩ := hat j _ (List.getElem?_eq_getElem hj)
              rw [k1] at hp
              cases hp
              have htN := dOk_lt g2 ho2
              have k2 : l[j].dst = some t := ent_at hpt htN
              have := (hord j _ (List.getElem?_eq_getElem hj) (by omega)).2 hij (clash_of.2.1 ho2 k2)
              rw [this] at hc
              cases hc)
            rw [h2]
            have : t < a.tmps.size := by rw [h8.nt]; exact dOk_lt g2 ho2
            simpa [Act.put, Array.getD_eq_getD_getElem?, this] using hv
        · have h2 : (fr (fun j => (L.setIfInBounds i true).getD j false) 0 out F).get t = (fr (fun j => L.getD j false) 0 out F).get t := fr_congr out 0 F F rfl (fun j p hp hpt => by
            simp only [Nat.zero_add]
            refine hselL j (fun e => ?_)
            subst e
            rw [g1] at hp
            cases hp
            exact hte hpt.symm)
          rw [h2]
          have h3 := (h8.fr t).ext he
          cases ho2 : o.dst with
          | none => exact h3
          | some d =>
            rw [ent_some ho2] at hte
            have hte : t ≠ d := hte
            simpa [Act.put, Array.getD_eq_getD_getElem?, Array.getElem?_setIfInBounds, Ne.symm hte] using h3
    have hset : ∀ j, (L.setIfInBounds i true).getD j false = (L.getD j false || Nat.beq j i) := fun j => by
      by_cases hj : j = i
      · subst hj; simp [Array.getD_eq_getD_getElem?, hlt]
      · have hb : Nat.beq j i = false := by
          cases hh : Nat.beq j i with
          | false => rfl
          | true => exact absurd (Nat.eq_of_beq_eq_true hh) hj
        simp [Array.getD_eq_getD_getElem?, Array.getElem?_setIfInBounds, Ne.symm hj, hb]
    have hdn : E.filter (fun j => (L.setIfInBounds i true).getD j false) = insE E (E.filter fun j => L.getD j false) i := by
      unfold insE
      refine List.filter_congr fun j hj => ?_
      rw [hset]
      congr 1
      rw [Bool.eq_iff_iff]
      simp [hj]
    have hmem : ∀ j, (E.filter fun j => L.getD j false).contains j = true ↔ j ∈ E ∧ L.getD j false = true := fun j => by simp
    have hclD : closedB (masks l []) E (E.filter fun j => L.getD j false) = true := by
      refine List.all_eq_true.2 fun j hj => List.all_eq_true.2 fun k hk => ?_
      obtain ⟨hj1, hj2⟩ := List.mem_filter.1 hj
      cases hb : ((masks l []).getD j 0).testBit k with
      | false => rfl
      | true =>
        rw [Bool.not_true, Bool.false_or]
        exact (hmem k).2 ⟨hk, hsound _ hcl j k hb hj2⟩
    have hrdD : readyB (masks l []) E (E.filter fun j => L.getD j false) i = true := by
      unfold readyB
      simp only [Bool.and_eq_true]
      refine ⟨⟨?_, List.all_eq_true.2 fun k hk => ?_⟩, List.all_eq_true.2 fun j hj => ?_⟩
      · cases hb : (E.filter fun j => L.getD j false).contains i with
        | false => rfl
        | true => have := ((hmem i).1 hb).2; rw [hfalse] at this; cases this
      · cases hb : ((masks l []).getD i 0).testBit k with
        | false => rfl
        | true =>
          rw [Bool.not_true, Bool.false_or]
          rcases hsound _ hcl' i k hb (.inl rfl) with h | h
          · exfalso
            subst h
            -- an operation does not wait for itself
            exact hself k hb
          · exact (hmem k).2 ⟨hk, h⟩
      · cases hb : ((masks l []).getD j 0).testBit i with
        | false => rfl
        | true =>
          have := hsound _ hcl j i hb (List.mem_filter.1 hj).2
          rw [hfalse] at this; cases this
    unfold wpOp
    simp only [ho]
    rcases g4 with ⟨hiE, ⟨k1, x, hx, k2⟩ | ⟨k1, hx⟩⟩ | ⟨k1, k2⟩
    · rw [if_pos ((k1.congr hsel).wanted h8.fr)]
      left
      refine ((k2 fun j => L.getD j false).congr hsel) G a _ _ h8.rel hH (fun y _ => rep_eval h8.fr y) (fun v G' he hr' hH' hv => ?_)
      refine hnext x hx G' v he ?_ ?_ hv <;>
      · have e : E.filter (fun j => (L.setIfInBounds i true).getD j false) = E.filter fun j => L.getD j false := List.filter_congr fun j hj => by
          rw [hset]
          have : Nat.beq j i = false := by
            cases hh : Nat.beq j i with
            | false => rfl
            | true => exact absurd (Nat.eq_of_beq_eq_true hh ▸ hj) hiE
          rw [this, Bool.or_false]
        rw [e]; assumption
    · rw [if_neg (by rw [(k1.congr hsel).wanted h8.fr]; simp)]
      refine hnext _ hx G undef (.refl G) ?_ ?_ (.s _) <;>
      · have e : E.filter (fun j => (L.setIfInBounds i true).getD j false) = E.filter fun j => L.getD j false := List.filter_congr fun j hj => by
          rw [hset]
          have : Nat.beq j i = false := by
            cases hh : Nat.beq j i with
            | false => rfl
            | true => exact absurd (Nat.eq_of_beq_eq_true hh ▸ hj) hiE
          rw [this, Bool.or_false]
        rw [e]; first | exact h8.rel | exact hH
    · rw [if_pos ((k1.congr hsel).wanted h8.fr)]
      left
      obtain ⟨x, hx, k3⟩ := k2 _ hclD hrdD
      refine (k3.congr hsel) G a _ _ h8.rel hH (fun y _ => rep_eval h8.fr y) (fun v G' he hr' hH' hv => ?_)
      refine hnext x hx G' v he ?_ ?_ hv <;> (rw [hdn]; assumption)
theorem edraw_hole {σ' : List Ob} {E : List Nat} {T : List Nat → List Ob} {H : List Nat → List Nat} (hqs : sOk l N = true) (hself : ∀ i, ((masks l []).getD i 0).testBit i = true → False) (hEl : ∀ j ∈ E, j < l.length) (hlen : l.length = out.length) (hF' : F' = out.reverse ++ F) (K : Nat) (hT0 : T [] = σ ++ List.replicate K .dead) (hH0 : ∀ id ∈ H [], σ.length ≤ id) (hTE : T E = σ')
    (hat : ∀ (i : Nat) o, l[i]? = some o → dOk N o = true ∧ ∃ p, out[i]? = some p ∧ (∃ x, p = ent N o x) ∧ TAtH P N l E T H o i ((out.take i).reverse ++ F) p) (hQ : Q .normal F' σ') : EDraw P N l F σ Q := fun G a h8 => by
  have hno : ∀ j, (Array.replicate l.length false).getD j false = false := fun j => by
    simp only [Array.getD_eq_getD_getElem?, Array.getElem?_replicate]
    split <;> rfl
  have h3 : ∀ (out : List (Nat × AV)) (k : Nat) (F : Frm), fr (fun j => (Array.replicate l.length false).getD j false) k out F = F := by
    intro out
    induction out with
    | nil => intro k F; rfl
    | cons p out ih =>
      intro k F
      have := hno k
      simp only [fr, this, cond_false]
      exact ih _ _
  have h4 : E.filter (fun j => (Array.replicate l.length false).getD j false) = [] := by
    rw [List.filter_eq_nil_iff]
    intro j _
    rw [hno]; simp
  have al : ∀ i, alive (σ ++ List.replicate K Ob.dead) i → alive σ i := by
    rintro i ⟨sz, cs, h⟩
    by_cases hl : i < σ.length
    · rw [List.getElem?_append_left hl] at h
      exact ⟨sz, cs, h⟩
    · rw [List.getElem?_append_right (by omega)] at h
      have := (List.mem_replicate.1 (List.mem_of_getElem? h)).2
      cases this
  refine etree_hole hqs hself hEl hlen hF' hTE hat hQ G l.length _ G a (.refl G) (by simp) (by simp [left_rep]) ?_ (h8.fr N) ?_ ?_
  · intro j o hj hD
    rw [hno] at hD
    cases hD
  · rw [h4]; exact fun id hid => h8.rel.fresh id (hH0 id hid)
  · rw [h3, h4, hT0]
    refine ⟨⟨h8.rel.below, h8.rel.le, h8.rel.st, fun id ob hob => ?_, fun i j b hi hj => h8.rel.inj i j b (al i hi) (al j hj), fun id hid => h8.rel.fresh id (by simp at hid; omega)⟩, h8.fr, h8.df, h8.nt⟩
    by_cases hl : id < σ.length
    · rw [List.getElem?_append_left hl] at hob
      exact h8.rel.obs id ob hob
    · rw [List.getElem?_append_right (by omega)] at hob
      have : ob = .dead := (List.mem_replicate.1 (List.mem_of_getElem? hob)).2
      subst this
      intro b hb
      rw [h8.rel.fresh id (by omega)] at hb; cases hb
end
end Go.Proofs.YtanfaepjamkbjaaGreat.Aw
end
section
namespace Go.Proofs.YtanfaepjamkbjaaGreat.Aw
set_option linter.unusedSimpArgs false
set_option linter.unusedVariables false
open Go Go.RowKit

/-- what is known of functions that are not walked: of values without memory they return values without memory -/
abbrev Orc := FuncId → List AV → Option AV
def OrcOk (P : Program) (orc : Orc) : Prop := ∀ f args r, orc f args = some r → Pure P f args r
abbrev CallF := FuncId → List AV → Sto → Option (AV × Sto × List Nat)
def CallOk (P : Program) (call : CallF) : Prop := ∀ f args s r s' W, call f args s = some (r, s', W) → CallE P f args s.abs r s'.abs ∧ Chg s s' W

def evSlice (P : Program) (t : TypeId) (ev : Operand → AV) (σ : Sto) (x : Operand) (l h : Option Operand) : Option ER := match tySlice P t with
  | none => none
  | some e => match tyInfo P e with
    | none => none
    | some (_, n, _) => match ev x, l, h with
      | .own id sz m, none, some y => match ev y with
        | .s (.int _ (.ofNat k)) => bif Nat.ble k m then some (.own id sz k, σ, .free) else none
        | _ => none
      | .sl L, none, some y => match ev y with
        | .s (.int _ (.ofNat k)) => bif Nat.ble k L.length && L.all (fun e => Nat.beq e.cells.length n) then some (.sl (L.take k), σ, .free) else none
        | _ => none
      | .sl L, some y, none => match ev y with
        | .s (.int _ (.ofNat k)) => bif Nat.ble k L.length && L.all (fun e => Nat.beq e.cells.length n) then some (.sl (L.drop k), σ, .free) else none
        | _ => none
      | .sl L, some y, some y' => match ev y, ev y' with
        | .s (.int _ (.ofNat k)), .s (.int _ (.ofNat k')) => bif Nat.ble k k' && Nat.ble k' L.length && L.all (fun e => Nat.beq e.cells.length n) then some (.sl ((L.take k').drop k), σ, .free) else none
        | _, _ => none
      | .own id sz m, some y, none => match ev y with
        | .s (.int _ (.ofNat k)) => bif Nat.beq n sz && Nat.blt 0 m && Nat.ble k m then some (.sub id sz k (m - k), σ, .free) else none
        | _ => none
      | _, _, _ => none
/-- a slice with both ends: the row is taken as finished first -/
def ovr (ev : Operand → AV) (d : Nat) (x : AV) : Operand → AV
  | .tmp t => bif Nat.beq d t then x else ev (.tmp t)
  | y => ev y
def evSliceF (P : Program) (t : TypeId) (ev : Operand → AV) (σ : Sto) (x : Operand) (l h : Option Operand) : Option ER := match x, l with
  | .tmp d, some _ => bif h.isNone then evSlice P t ev σ x l h else match ev (.tmp d) with
    | .own id sz n => match σ.get id with
      | some (.row sz' cs) => bif Nat.beq sz' sz && Nat.beq n cs.length then match evSlice P t (ovr ev d (.sl cs)) (σ.set id (.fz sz cs)) x l h with
          | some (r, σ', .free) => some (r, σ', .eff [id])
          | _ => none
        else none
      | _ => none
    | _ => evSlice P t ev σ x l h
  | _, _ => evSlice P t ev σ x l h
section
variable {P : Program} {o : Oper} {F : Frm} {s : Sto}
theorem all_len {L : List AV} {n : Nat} (h : L.all (fun e => Nat.beq e.cells.length n) = true) : ∀ e ∈ L, e.cells.length = n := fun e he => Nat.eq_of_beq_eq_true (List.all_eq_true.1 h e he)
theorem evSlice_ok {t : TypeId} {x : Operand} {l h : Option Operand} {r : ER} (ho : o.op = .slice t x l h none) (hh : evSlice P t F.eval s x l h = some r) : OpOk P o F s r := by
  unfold evSlice at hh
  split at hh
  · cases hh
  · rename_i e ht
    split at hh
    · cases hh
    · rename_i z n bt hi
      split at hh
      · rename_i id sz m y hx
        split at hh
        · rename_i kd k hy
          cases hb : Nat.ble k m with
          | false => rw [hb] at hh; cases hh
          | true => rw [hb] at hh; cases hh; exact .free _ (fun σ => does_slice_own ho ht hi hx hy rfl (Nat.le_of_ble_eq_true hb))
        · cases hh
      · rename_i L y hx
        split at hh
        · rename_i kd k hy
          generalize hb : (Nat.ble k L.length && L.all (fun e => Nat.beq e.cells.length n)) = b at hh
          cases b with
          | false => cases hh
          | true =>
            cases hh
            simp only [Bool.and_eq_true] at hb
            exact .free _ (fun σ => does_slice_h ho ht hi hx hy rfl (Nat.le_of_ble_eq_true hb.1) (all_len hb.2))
        · cases hh
      · rename_i L y hx
        split at hh
        · rename_i kd k hy
          generalize hb : (Nat.ble k L.length && L.all (fun e => Nat.beq e.cells.length n)) = b at hh
          cases b with
          | false => cases hh
          | true =>
            cases hh
            simp only [Bool.and_eq_true] at hb
            exact .free _ (fun σ => does_slice_l ho ht hi hx hy rfl (Nat.le_of_ble_eq_true hb.1) (all_len hb.2))
        · cases hh
      · rename_i L y y' hx
        split at hh
        · rename_i kd k kd' k' hy hy'
          generalize hb : (Nat.ble k k' && Nat.ble k' L.length && L.all (fun e => Nat.beq e.cells.length n)) = b at hh
          cases b with
          | false => cases hh
          | true =>
            cases hh
            simp only [Bool.and_eq_true] at hb
            exact .free _ (fun σ => does_slice_lh ho ht hi hx hy hy' rfl rfl (Nat.le_of_ble_eq_true hb.1.1) (Nat.le_of_ble_eq_true hb.1.2) (all_len hb.2))
        · cases hh
      · rename_i id sz m y hx
        split at hh
        · rename_i kd k hy
          generalize hb : (Nat.beq n sz && Nat.blt 0 m && Nat.ble k m) = b at hh
          cases b with
          | false => cases hh
          | true =>
            cases hh
            simp only [Bool.and_eq_true] at hb
            exact .free _ (fun σ => does_slice_ol ho ht hi (Nat.eq_of_beq_eq_true hb.1.1) hx (by simpa [Nat.blt_eq] using hb.1.2) hy rfl (Nat.le_of_ble_eq_true hb.2))
        · cases hh
      · cases hh
theorem evSliceF_ok {t : TypeId} {x : Operand} {l h : Option Operand} {r : ER} (ho : o.op = .slice t x l h none) (hh : evSliceF P t F.eval s x l h = some r) : OpOk P o F s r := by
  unfold evSliceF at hh
  split at hh
  · rename_i d y
    cases hn : h.isNone with
    | true => rw [hn, cond_true] at hh; exact evSlice_ok ho hh
    | false =>
    rw [hn, cond_false] at hh
    split at hh
    · rename_i id sz n hx
      split at hh
      · rename_i sz' cs hs
        generalize hb : (Nat.beq sz' sz && Nat.beq n cs.length) = b at hh
        cases b with
        | false => cases hh
        | true =>
          simp only [Bool.and_eq_true] at hb
          obtain rfl := Nat.eq_of_beq_eq_true hb.1
          rw [cond_true] at hh
          split at hh
          · rename_i r' σ' he
            cases hh
            have hov : ovr F.eval d (.sl cs) = Frm.eval ((d, .sl cs) :: F) := by
              funext y
              cases y with
              | tmp t =>
                simp only [ovr, Frm.eval, Frm.get]
              | _ => rfl
            rw [hov] at he
            have h1 := evSlice_ok ho he
            have h2 : σ' = s.set id (.fz sz' cs) := by cases h1; rfl
            have h3 := h1.does
            rw [Sto.set_abs] at h3
            refine .eff _ _ _ (does_froz hx (sto_at hs) (Nat.eq_of_beq_eq_true hb.2) h3) (fun i hi => ?_)
            rw [h2, Sto.set_abs]
            exact set_other hi
          · cases hh
      · cases hh
    · exact evSlice_ok ho hh
  · exact evSlice_ok ho hh
end

def fr1 (r : Option AV) (σ : Sto) : Option ER := match r with | some x => some (x, σ, .free) | none => none
def frV (r : Option Value) (σ : Sto) : Option ER := match r with | some x => some (.s x, σ, .free) | none => none
/-- a call: of what is known, or walked in place -/
def evValue (orc : Orc) (call : CallF) (ev : Operand → AV) (s : Sto) (fo : Operand) (ar : Array Operand) : Option ER := match ev fo with
  | .fn f caps => match orc f (ar.toList.map ev ++ caps) with
    | some r => some (r, s, .free)
    | none => match call f (ar.toList.map ev ++ caps) s with
      | some (r, s', W) => some (r, s', .eff W)
      | none => none
  | _ => none
/-- whether a literal is the second argument of an append in the same region -/
def isArg (ops : Array Oper) (o : Oper) : Bool := match o.dst with
  | none => false
  | some d => ops.toList.any fun o' => match o'.op with
    | .call c => match c.callee, c.args.toList with
      | .builtin .append, [_, .tmp t] => Nat.beq t d
      | _, _ => false
    | _ => false
/-- an operation, made ready -/
structure Ins where
  run : FT → Sto → Option ER
def mkIns (P : Program) (orc : Orc) (call : CallF) (fin : Bool) : Op → Ins
  | .move y => ⟨fun t s => some (fev t y, s, .free)⟩
  | .assign y => ⟨fun t s => some (fev t y, s, .free)⟩
  | .pick c x y => ⟨fun t s => match fev t c with
    | .s (.bool b) => some (bif b then fev t x else fev t y, s, .free)
    | _ => none⟩
  | .binOp b k x y _ => ⟨fun t s => frV (evBin P b k (fev t x) (fev t y)) s⟩
  | .unOp b _ x => ⟨fun t s => frV (evUn b (fev t x)) s⟩
  | .convert k k' x => ⟨fun t s => frV (evConv P k k' (fev t x)) s⟩
  | .fieldAddr k x f => ⟨fun t s => fr1 (evFieldAddr P k f (fev t x)) s⟩
  | .field k x f => ⟨fun t s => fr1 (evField P k f (fev t x)) s⟩
  | .index k x y => ⟨fun t s => frV (evIndexStr P k (fev t x) (fev t y)) s⟩
  | .nilCheck x => ⟨fun t s => fr1 (evNil (fev t x)) s⟩
  | .indexAddr k x y => ⟨fun t s => fr1 (evIndexAddr P k (fev t x) (fev t y)) s⟩
  | .extract x i => ⟨fun t s => fr1 (evExtract i (fev t x)) s⟩
  | .load k x => ⟨fun t s => evLoad P k s (fev t x)⟩
  | .store k p y => ⟨fun t s => evStore P k s (fev t p) (fev t y)⟩
  | .alloc e => ⟨fun _ s => evAlloc P e s⟩
  | .box _ y => ⟨fun t s => evBox s (fev t y)⟩
  | .build k parts => ⟨fun t s => fr1 (evBuild P k (parts.toList.map fun (i, x) => (i, fev t x))) s⟩
  | .buildSlice k len parts => match fin with
    | true => ⟨fun t s => evLitF P k len (parts.toList.map fun (i, x) => (i, fev t x)) s⟩
    | false => ⟨fun t s => evLit P k len (parts.toList.map fun (i, x) => (i, fev t x)) s⟩
  | .makeSlice k y y' => ⟨fun t s => evMake P k s (fev t y) (fev t y')⟩
  | .makeFunc (.func f) fi caps => bif fi.toList.isEmpty then ⟨fun t s => some (.fn f (caps.toList.map (fev t)), s, .free)⟩ else ⟨fun _ _ => none⟩
  | .slice k x l h none => ⟨fun t s => evSliceF P k (fev t) s x l h⟩
  | .call c => match c.callee, c.args.toList, c.argTypes.toList with
    | .builtin .len, [x], [k] => ⟨fun t s => frV (evLen P k (fev t x)) s⟩
    | .builtin .append, [x, y], [k, k'] => bif Nat.beq k k' then ⟨fun t s => evAppT P k s (fev t x) (fev t y)⟩ else ⟨fun _ _ => none⟩
    | .builtin .copy, [x, y], [k, k'] => bif Nat.beq k k' then ⟨fun t s => evCopy P k s (fev t x) (fev t y)⟩ else ⟨fun _ _ => none⟩
    | .builtin .max, [x, y], [_, _] => ⟨fun t s => frV (evMinMax .max (fev t x) (fev t y)) s⟩
    | .builtin .min, [x, y], [_, _] => ⟨fun t s => frV (evMinMax .min (fev t x) (fev t y)) s⟩
    | .value fo, _, _ => ⟨fun t s => evValue orc call (fev t) s fo c.args⟩
    | _, _, _ => ⟨fun _ _ => none⟩
  | _ => ⟨fun _ _ => none⟩
section
variable {P : Program} {o : Oper} {F : Frm} {s : Sto} {orc : Orc} {call : CallF}
theorem fr1_ok {r : Option AV} {e : ER} (h : fr1 r s = some e) (k : ∀ x, r = some x → ∀ σ, Does P o F σ x σ) : OpOk P o F s e := by
  unfold fr1 at h
  split at h
  · rename_i x; cases h; exact .free _ (k x rfl)
  · cases h
theorem frV_ok {r : Option Value} {e : ER} (h : frV r s = some e) (k : ∀ x, r = some x → ∀ σ, Does P o F σ (.s x) σ) : OpOk P o F s e := by
  unfold frV at h
  split at h
  · rename_i x; cases h; exact .free _ (k x rfl)
  · cases h
theorem arr_of {α : Type} {a : Array α} {l : List α} (h : a.toList = l) : a = l.toArray := by rw [← h]
theorem mkIns_ok (ho : OrcOk P orc) (hc : CallOk P call) {op : Op} {fin : Bool} (e : o.op = op) {t : FT} (hF : FEq F t) {r : ER} (h : (mkIns P orc call fin op).run t s = some r) : OpOk P o F s r := by
  have hv := hF.ev
  cases op <;> simp only [mkIns, reduceCtorEq, ← hv] at h
  case move y => cases h; exact .free _ (fun σ => does_move e rfl)
  case assign y => cases h; exact .free _ (fun σ => does_assign e rfl)
  case pick c x y =>
    split at h
    · rename_i b hb; cases h; exact .free _ (fun σ => does_pick e hb)
    · cases h
  case binOp => exact frV_ok h (fun v hv σ => evBin_ok e hv)
  case unOp => exact frV_ok h (fun v hv σ => evUn_ok e hv)
  case convert => exact frV_ok h (fun v hv σ => evConv_ok e hv)
  case fieldAddr => exact fr1_ok h (fun v hv σ => evFieldAddr_ok e hv)
  case field => exact fr1_ok h (fun v hv σ => evField_ok e hv)
  case index => exact frV_ok h (fun v hv σ => evIndexStr_ok e hv)
  case nilCheck => exact fr1_ok h (fun v hv σ => evNil_ok e hv)
  case indexAddr => exact fr1_ok h (fun v hv σ => evIndexAddr_ok e hv)
  case extract => exact fr1_ok h (fun v hv σ => evExtract_ok e hv)
  case load => exact evLoad_ok e h
  case store => exact evStore_ok e h
  case alloc => exact evAlloc_ok e h
  case box => exact evBox_ok e h
  case build => exact fr1_ok h (fun v hv σ => evBuild_ok e hv)
  case buildSlice =>
    cases fin with
    | true => simp only [← hv] at h; exact evLitF_ok e h
    | false => simp only [← hv] at h; exact evLit_ok e h
  case makeSlice => exact evMake_ok e h
  case makeFunc fn fi caps =>
    cases fn <;> simp only [mkIns, reduceCtorEq, ← hv] at h
    rename_i f
    cases hb : fi.toList.isEmpty with
    | false => rw [hb] at h; cases h
    | true =>
      rw [hb] at h; simp only [cond_true, ← hv] at h; cases h
      have : fi = #[] := arr_of (List.isEmpty_iff.1 hb)
      subst this
      exact .free _ (fun σ => does_func e rfl)
  case slice k x l hh m =>
    cases m with
    | none => simp only [mkIns, ← hv] at h; exact evSliceF_ok e h
    | some m => simp [mkIns] at h
  case call c =>
    obtain ⟨cal, ar, ts⟩ := c
    split at h
    · rename_i x k h1 h2 h3
      dsimp only at h1 h2 h3
      subst h1
      obtain rfl := arr_of h2
      obtain rfl := arr_of h3
      simp only [← hv] at h
      exact frV_ok h (fun v hv σ => evLen_ok e hv)
    · rename_i x y k k' h1 h2 h3
      dsimp only at h1 h2 h3
      subst h1
      obtain rfl := arr_of h2
      obtain rfl := arr_of h3
      cases hb : Nat.beq k k' with
      | false => rw [hb] at h; cases h
      | true =>
        rw [hb] at h
        obtain rfl := Nat.eq_of_beq_eq_true hb
        simp only [cond_true, ← hv] at h
        exact evAppT_ok e h
    · rename_i x y k k' h1 h2 h3
      dsimp only at h1 h2 h3
      subst h1
      obtain rfl := arr_of h2
      obtain rfl := arr_of h3
      cases hb : Nat.beq k k' with
      | false => rw [hb] at h; cases h
      | true =>
        rw [hb] at h
        obtain rfl := Nat.eq_of_beq_eq_true hb
        simp only [cond_true, ← hv] at h
        exact evCopy_ok e h
    · rename_i x y k k' h1 h2 h3
      dsimp only at h1 h2 h3
      subst h1
      obtain rfl := arr_of h2
      obtain rfl := arr_of h3
      simp only [← hv] at h
      exact frV_ok h (fun v hv σ => evMinMax_ok e hv)
    · rename_i x y k k' h1 h2 h3
      dsimp only at h1 h2 h3
      subst h1
      obtain rfl := arr_of h2
      obtain rfl := arr_of h3
      simp only [← hv] at h
      exact frV_ok h (fun v hv σ => evMinMax_ok e hv)
    · rename_i fo h1
      dsimp only at h1 h
      subst h1
      simp only [← hv] at h
      unfold evValue at h
      split at h
      · rename_i f caps hf
        split at h
        · rename_i r' hr; cases h; exact .free _ (fun σ => does_call e hf (ho _ _ _ hr) rfl)
        · split at h
          · rename_i r' s' W hr
            cases h
            obtain ⟨g1, g2⟩ := hc _ _ _ _ _ _ hr
            exact .eff _ _ _ (does_callE e hf g1 rfl) g2
          · cases h
      · cases h
    · cases h
def kdW : Kd → List Nat
  | .eff W => W
  | _ => []
theorem OpOk.chg {s' : Sto} {x : AV} {k : Kd} (h : OpOk P o F s (x, s', k)) : Chg s s' (kdW k) := by
  cases h with
  | free => exact .refl _
  | look => exact .refl _
  | eff _ _ W _ hW => exact hW
theorem Chg.acc {a b c : Sto} {V W : List Nat} (h : Chg a b V) (k : Chg b c W) : Chg a c (W ++ V) := fun id hid => by
  simp only [List.mem_append, not_or] at hid
  exact (k id hid.1).trans (h id hid.2)
end

/-! ## regions -/
def isUndef : Value → Bool
  | .tuple vs => vs.toList.isEmpty
  | _ => false
theorem isUndef_of {v : Value} (h : isUndef v = true) : v = undef := by
  unfold isUndef at h
  split at h
  · rw [arr_of (List.isEmpty_iff.1 h)]; rfl
  · cases h
structure GrI where
  run : FT → Option Bool
def mkG (ops : Array Oper) (o : Oper) : GrI := match o.guard with
  | none => ⟨fun _ => some true⟩
  | some (j, want) => match (ops[j]?).bind (·.dst) with
    | none => ⟨fun _ => none⟩
    | some d => ⟨fun t => match fget t d with
      | .s (.bool c) => some (c == want)
      | .s v => bif isUndef v then some false else none
      | _ => none⟩
theorem mkG_ok {ops : Array Oper} {F : Frm} {t : FT} {o : Oper} {b : Bool} (hF : FEq F t) (h : (mkG ops o).run t = some b) : Runs ops F o b := by
  unfold mkG at h
  split at h
  · rename_i hg; cases h; exact runs_none hg
  · rename_i j want hg
    split at h
    · cases h
    · rename_i d hd
      dsimp only at h
      rw [← hF d] at h
      split at h
      · rename_i c hc; cases h; exact runs_some hg hd hc
      · rename_i v _ hv
        cases hu : isUndef v with
        | false => rw [hu] at h; cases h
        | true => rw [hu] at h; cases h; exact runs_nu hg hd (by rw [hv, isUndef_of hu])
      · cases h
/-- one operation of a region: the frame, the store, what it did, its value -/
structure StI where
  run : FT → Sto → Option (FT × Sto × Kd × AV)
structure PutI where
  put : FT → AV → FT
def mkPut (N : Nat) (o : Oper) : PutI := match o.dst with
  | some d => ⟨fun t x => fset t d x⟩
  | none => ⟨fun t _ => fset t N .any⟩
theorem mkPut_ok {N : Nat} {o : Oper} {F : Frm} {t : FT} (h : FEq F t) (x : AV) : FEq (ent N o x :: F) ((mkPut N o).put t x) := by
  cases hd : o.dst with
  | some d => rw [ent_some hd]; unfold mkPut; rw [hd]; exact h.put d x
  | none => rw [ent_none hd]; unfold mkPut; rw [hd]; exact h.put N .any
structure RgI where
  run : FT → Sto → List Nat → Option (FT × Sto × List Nat)
structure DrI where
  run : FT → Sto → Option (FT × Sto × List Kd × List FT × List AV)
section
variable (P : Program) (N : Nat) (orc : Orc) (call : CallF)
def mkStep (ops : Array Oper) (o : Oper) : StI := match dOk N o, o.guard with
  | false, _ => ⟨fun _ _ => none⟩
  | true, none => ⟨fun t s => match (mkIns P orc call (isArg ops o) o.op).run t s with
    | some (x, s1, k) => some ((mkPut N o).put t x, s1, k, x)
    | none => none⟩
  | true, some _ => ⟨fun t s => match (mkG ops o).run t with
    | none => none
    | some false => some ((mkPut N o).put t (.s undef), s, .free, .s undef)
    | some true => match (mkIns P orc call (isArg ops o) o.op).run t s with
      | some (x, s1, k) => some ((mkPut N o).put t x, s1, k, x)
      | none => none⟩
def mkOps (ops : Array Oper) : List Oper → RgI
  | [] => ⟨fun t s W => some (t, s, W)⟩
  | o :: l => ⟨fun t s W => match (mkStep P N orc call ops o).run t s with
    | some (t1, s1, k, _) => (mkOps ops l).run t1 s1 (kdW k ++ W)
    | none => none⟩
def mkDraws (ops : Array Oper) : List Oper → DrI
  | [] => ⟨fun t s => some (t, s, [], [], [])⟩
  | o :: l => ⟨fun t s => match (mkStep P N orc call ops o).run t s with
    | some (t1, s1, k, x) => match (mkDraws ops l).run t1 s1 with
      | some (t2, s2, ks, ts, xs) => some (t2, s2, k :: ks, t :: ts, x :: xs)
      | none => none
    | none => none⟩
/-- the operations that change the store; those that look at it or change it -/
def effIdx (ks : List Kd) : List Nat := (List.range ks.length).filter fun i => match ks[i]? with | some (.eff _) => true | _ => false
def busyIdx (ks : List Kd) : List Nat := (List.range ks.length).filter fun i => match ks[i]? with | some .free => false | _ => true
def stepT (l : List Oper) (ts : List FT) (j : Nat) : Sto × List Nat → Sto × List Nat
  | (sa, Wa) => match l[j]?, ts[j]? with
    | some o, some t => match (mkIns P orc call (isArg l.toArray o) o.op).run t sa with
      | some (_, s1, k) => (s1, kdW k ++ Wa)
      | none => (sa, Wa)
    | _, _ => (sa, Wa)
def runT (l : List Oper) (ts : List FT) : List Nat → Sto × List Nat → Sto × List Nat
  | [], a => a
  | j :: D, a => runT l ts D (stepT P orc call l ts j a)
def chkT (l : List Oper) (ts : List FT) (xs : List AV) (s : Sto) (E D : List Nat) (i : Nat) : Bool := match l[i]?, ts[i]?, xs[i]? with
  | some o, some t, some x0 => match runT P orc call l ts D (s, []), runT P orc call l ts (insE E D i) (s, []) with
    | (sD, WD), (sI, WI) => match (mkIns P orc call (isArg l.toArray o) o.op).run t sD with
      | some (x, s1, k) => avEq (ent N o x).2 (ent N o x0).2 && eqOn ((kdW k ++ WD) ++ WI) s1 sI
      | none => false
  | _, _, _ => false
def selfB (m : List Nat) : Bool := (List.range m.length).all fun i => !((m.getD i 0).testBit i)
/-- all orders of the operations that look at the store or change it come to the same -/
def treeB (l : List Oper) (ts : List FT) (xs : List AV) (s : Sto) (ks : List Kd) : Bool :=
  sOk l N && selfB (masks l []) && (effIdx ks).all (fun j => Nat.blt j l.length) && (subs (effIdx ks)).all fun D => !(closedB (masks l []) (effIdx ks) D) || (busyIdx ks).all fun i => !(readyB (masks l []) (effIdx ks) D i) || chkT P N orc call l ts xs s (effIdx ks) D i
/-- an operation that makes one object: its name in the text's order (names from n on are new) -/
def pushId (n : Nat) : Kd → AV → Option Nat
  | .eff [id], .ptr id' _ _ _ => bif Nat.beq id id' && Nat.ble n id then some id else none
  | .eff [id], .own id' _ _ => bif Nat.beq id id' && Nat.ble n id then some id else none
  | _, _ => none
def pushN : Nat → Sto → Sto
  | 0, s => s
  | k + 1, s => pushN k (s.push .dead)
def stepH (l : List Oper) (ts : List FT) (ps : List (Option Nat)) (j : Nat) : Sto × List Nat → Sto × List Nat
  | (sa, Wa) => match l[j]?, ts[j]?, ps[j]? with
    | some o, some t, some p => match (mkIns P orc call (isArg l.toArray o) o.op).run t sa with
      | some (_, s2, k) => match p with
        | none => (s2, kdW k ++ Wa)
        | some id => match s2.get sa.len with
          | some ob => (sa.set id ob, id :: Wa)
          | none => (sa, Wa)
      | none => (sa, Wa)
    | _, _, _ => (sa, Wa)
def runH (l : List Oper) (ts : List FT) (ps : List (Option Nat)) : List Nat → Sto × List Nat → Sto × List Nat
  | [], a => a
  | j :: D, a => runH l ts ps D (stepH P orc call l ts ps j a)
def holesOf (ps : List (Option Nat)) (n K : Nat) (D : List Nat) : List Nat := ((List.range K).map (n + ·)).filter fun id => !(D.any fun j => match ps[j]? with | some (some id') => Nat.beq id id' | _ => false)
def natsEq : List Nat → List Nat → Bool
  | [], [] => true
  | a :: l, b :: m => Nat.beq a b && natsEq l m
  | _, _ => false
def isEff1 (k : Kd) (n : Nat) : Bool := match k with | .eff [m] => Nat.beq m n | _ => false
def isDead : Option Ob → Bool
  | some .dead => true
  | _ => false
def chkH (l : List Oper) (ts : List FT) (xs : List AV) (ps : List (Option Nat)) (s : Sto) (n K : Nat) (E D : List Nat) (i : Nat) : Bool := match l[i]?, ts[i]?, xs[i]?, ps[i]? with
  | some o, some t, some x0, some p => match runH P orc call l ts ps D (s, []), runH P orc call l ts ps (insE E D i) (s, []) with
    | (sD, WD), (sI, WI) => match (mkIns P orc call (isArg l.toArray o) o.op).run t sD with
      | some (x, s1, k) => (holesOf ps n K D).all (fun id => isDead (sD.get id)) && match p with
        | none => avEq (ent N o x).2 (ent N o x0).2 && nmB (fun id => !((holesOf ps n K D).contains id)) x
            && (kdW k).all (fun id => !((holesOf ps n K D).contains id) && match s1.get id with | some ob => obNmB (fun id => !((holesOf ps n K D).contains id)) ob | none => true)
            && eqOn ((kdW k ++ WD) ++ WI) s1 sI && natsEq (holesOf ps n K (insE E D i)) (holesOf ps n K D)
        | some id => match s1.get sD.len with
          | some ob => isEff1 k sD.len && Nat.beq s1.len (sD.len + 1) && rnB sD.len id x x0 && (holesOf ps n K D).contains id && Nat.blt id sD.len
              && obNmB (fun j => !((holesOf ps n K D).contains j) && Nat.blt j sD.len) ob && eqOn ((id :: WD) ++ WI) (sD.set id ob) sI && natsEq (holesOf ps n K (insE E D i)) ((holesOf ps n K D).filter fun j => !Nat.beq j id)
          | none => false
      | none => false
  | _, _, _, _ => false
def noMp (s : Sto) : Bool := (List.range s.len).all fun id => match s.get id with | some ob => !isMp ob | none => true
/-- all orders of the operations come to the same, with each object under its name in the text's order -/
def holeB (l : List Oper) (ts : List FT) (xs : List AV) (s : Sto) (ks : List Kd) (K : Nat) : Bool :=
  sOk l N && selfB (masks l []) && (effIdx ks).all (fun j => Nat.blt j l.length) && l.all (fun o => o.guard.isNone) && (subs (effIdx ks)).all fun D => !(closedB (masks l []) (effIdx ks) D) || noMp (runH P orc call l ts ((ks.zip xs).map fun p => pushId s.len p.1 p.2) D (pushN K s, [])).1 && (List.range l.length).all fun i => !(readyB (masks l []) (effIdx ks) D i) || chkH P N orc call l ts xs ((ks.zip xs).map fun p => pushId s.len p.1 p.2) (pushN K s) s.len K (effIdx ks) D i
def mkDraw (l : List Oper) : RgI := ⟨fun t s W => match (mkDraws P N orc call l.toArray l).run t s with
  | some (t', s', ks, ts, xs) => bif eOk l N ks then some (t', s', (ks.map kdW).flatten ++ W) else bif treeB P N orc call l ts xs s ks then (match runT P orc call l ts (effIdx ks) (s, []) with | (sE, WE) => some (t', sE, WE ++ W))
      else bif holeB P N orc call l ts xs s ks (s'.len - s.len) then (match runH P orc call l ts ((ks.zip xs).map fun p => pushId s.len p.1 p.2) (effIdx ks) (pushN (s'.len - s.len) s, []) with | (sE, WE) => some (t', sE, (WE ++ (List.range (s'.len - s.len)).map (s.len + ·)) ++ W)) else none
  | none => none⟩
end
section
variable {P : Program} {N : Nat} {orc : Orc} {call : CallF} {F F' : Frm} {s s' : Sto}
theorem S8.ent {σ : List Ob} {G : Cx} {a : Act} {o : Oper} {v : Value} {x : AV} (h : S8 N G a F σ) (hd : dOk N o = true) (hv : Rep G v x) : S8 N G (a.put o.dst v) (ent N o x :: F) σ := by
  cases hd2 : o.dst with
  | some d => rw [ent_some hd2]; exact h.put (dOk_lt hd hd2) hv
  | none => rw [ent_none hd2]; exact ⟨h.rel, h.fr.more (.any _), h.df, h.nt⟩
/-- one operation -/
def StepAt (P : Program) (N : Nat) (ops : Array Oper) (o : Oper) (F : Frm) (s s1 : Sto) (k : Kd) (x : AV) : Prop := dOk N o = true ∧ ((Runs ops F o false ∧ x = .s undef ∧ s1 = s ∧ k = .free) ∨ (Runs ops F o true ∧ OpOk P o F s (x, s1, k)))
theorem StepAt.chg {ops : Array Oper} {o : Oper} {s1 : Sto} {k : Kd} {x : AV} (h : StepAt P N ops o F s s1 k x) : Chg s s1 (kdW k) := by
  rcases h.2 with ⟨_, _, rfl, rfl⟩ | ⟨_, h⟩
  · exact .refl _
  · exact h.chg
theorem mkStep_ok (ho : OrcOk P orc) (hc : CallOk P call) {ops : Array Oper} {o : Oper} {t t1 : FT} {s1 : Sto} {k : Kd} {x : AV} (hF : FEq F t) (h : (mkStep P N orc call ops o).run t s = some (t1, s1, k, x)) : StepAt P N ops o F s s1 k x ∧ t1 = (mkPut N o).put t x := by
  unfold mkStep at h
  split at h
  · cases h
  · rename_i hd hg
    dsimp only at h
    split at h
    · rename_i x' s' k' hx
      cases h
      exact ⟨⟨hd, .inr ⟨runs_none hg, mkIns_ok ho hc rfl hF hx⟩⟩, rfl⟩
    · cases h
  · rename_i hd hg
    dsimp only at h
    split at h
    · cases h
    · rename_i hr
      cases h
      exact ⟨⟨hd, .inl ⟨mkG_ok hF hr, rfl, rfl, rfl⟩⟩, rfl⟩
    · rename_i hr
      split at h
      · rename_i x' s' k' hx
        cases h
        exact ⟨⟨hd, .inr ⟨mkG_ok hF hr, mkIns_ok ho hc rfl hF hx⟩⟩, rfl⟩
      · cases h
/-- how a piece of code ends -/
abbrev XR := Exit × FT × Sto × List Nat
def Is (r : XR) : Exit → Frm → List Ob → Prop := fun e F σ => e = r.1 ∧ FEq F r.2.1 ∧ σ = r.2.2.1.abs
theorem mkOps_ok (ho : OrcOk P orc) (hc : CallOk P call) {ops : Array Oper} : ∀ (l : List Oper) (F : Frm) (t : FT) (s : Sto) (W : List Nat) (t' : FT) (s' : Sto) (W' : List Nat), FEq F t → (mkOps P N orc call ops l).run t s W = some (t', s', W') →
    EOps P N ops l F s.abs (Is (.normal, t', s', W')) ∧ (∀ s0, Chg s0 s W → Chg s0 s' W') ∧ ∃ F', FEq F' t'
  | [], F, t, s, W, t', s', W', hF, h => by cases h; exact ⟨eops_nil ⟨rfl, hF, rfl⟩, fun _ h => h, F, hF⟩
  | o :: l, F, t, s, W, t', s', W', hF, h => by
    unfold mkOps at h
    dsimp only at h
    split at h
    · rename_i t1 s1 k x hx
      obtain ⟨hst, rfl⟩ := mkStep_ok ho hc hF hx
      obtain ⟨ih1, ih2, ih3⟩ := mkOps_ok ho hc l _ _ _ _ _ _ _ (mkPut_ok hF x) h
      refine ⟨?_, fun s0 h0 => ih2 s0 (h0.acc hst.chg), ih3⟩
      obtain ⟨hd, ⟨hr, rfl, rfl, rfl⟩ | ⟨hr, hop⟩⟩ := hst
      · intro G a hs
        unfold wpList
        rw [if_neg (by rw [hr.wanted hs.fr]; simp)]
        exact ih1 G _ (hs.ent hd (.s _))
      · intro G a hs
        unfold wpList
        rw [if_pos (hr.wanted hs.fr)]
        left
        refine hop.does G a _ _ hs.rel (fun y _ => rep_eval hs.fr y) (fun v G' e r hv => ?_)
        exact wpList_mono (fun e' a w q => liftE_mono e (fun _ _ _ x => x) q) _ _ _ (ih1 G' _ ((hs.step e r).ent hd hv))
    · cases h
theorem mkDraws_ok (ho : OrcOk P orc) (hc : CallOk P call) {ops : Array Oper} : ∀ (l : List Oper) (F : Frm) (t : FT) (s : Sto) (t' : FT) (s' : Sto) (ks : List Kd) (ts : List FT) (xs : List AV), FEq F t → (mkDraws P N orc call ops l).run t s = some (t', s', ks, ts, xs) →
    ∃ F' out sts, ESteps P N ops l F s.abs F' s'.abs out ks sts ∧ FEq F' t' ∧ Chg s s' (ks.map kdW).flatten ∧ ∀ (j : Nat) o, l[j]? = some o → ∃ tj xj, ts[j]? = some tj ∧ xs[j]? = some xj ∧ FEq ((out.take j).reverse ++ F) tj ∧ out[j]? = some (ent N o xj)
  | [], F, t, s, t', s', ks, ts, xs, hF, h => by cases h; exact ⟨F, [], [], .nil F _, hF, .refl _, by simp⟩
  | o :: l, F, t, s, t', s', ks, ts, xs, hF, h => by
    unfold mkDraws at h
    dsimp only at h
    split at h
    · rename_i t1 s1 k x hx
      obtain ⟨hst, rfl⟩ := mkStep_ok ho hc hF hx
      split at h
      · rename_i t2 s2 ks2 ts2 xs2 he
        cases h
        obtain ⟨F', out, sts, ih1, ih2, ih3, ih4⟩ := mkDraws_ok ho hc l _ _ _ _ _ _ _ _ (mkPut_ok hF x) he
        have hat : ∀ (j : Nat) o', (o :: l)[j]? = some o' → ∃ tj xj, (t :: ts2)[j]? = some tj ∧ (x :: xs2)[j]? = some xj ∧ FEq (((ent N o x :: out).take j).reverse ++ F) tj ∧ (ent N o x :: out)[j]? = some (ent N o' xj) := fun j o' hj => by
          cases j with
          | zero => simp at hj; subst hj; exact ⟨t, x, rfl, rfl, by simpa using hF, rfl⟩
          | succ j =>
            obtain ⟨tj, xj, g1, g2, g3, g4⟩ := ih4 j o' (by simpa using hj)
            exact ⟨tj, xj, by simpa using g1, by simpa using g2, by simpa using g3, by simpa using g4⟩
        have hch : Chg s s' ((k :: ks2).map kdW).flatten := hst.chg.trans ih3
        obtain ⟨hd, ⟨hr, rfl, rfl, rfl⟩ | ⟨hr, hop⟩⟩ := hst
        · exact ⟨F', _, _, .skip o l F _ _ _ out _ sts hd hr ih1, ih2, hch, hat⟩
        · cases hop with
          | free _ h1 => exact ⟨F', _, _, .free o l F _ _ _ x out _ sts hd hr h1 ih1, ih2, hch, hat⟩
          | look _ R h1 => exact ⟨F', _, _, .look o l F _ _ _ x out _ sts R hd hr h1 ih1, ih2, hch, hat⟩
          | eff _ _ W h1 h2 => exact ⟨F', _, _, .eff o l F _ _ _ _ x out _ sts W hd hr h1 h2 ih1, ih2, hch, hat⟩
      · cases h
    · cases h
theorem pushN_abs : ∀ (k : Nat) (s : Sto), (pushN k s).abs = s.abs ++ List.replicate k .dead
  | 0, s => by simp [pushN]
  | k + 1, s => by
    rw [pushN, pushN_abs k, Sto.push_abs, List.append_assoc]
    rfl
theorem natsEq_of : ∀ (l m : List Nat), natsEq l m = true → l = m
  | [], [], _ => rfl
  | [], _ :: _, h => by cases h
  | _ :: _, [], h => by cases h
  | a :: l, b :: m, h => by
    simp only [natsEq, Bool.and_eq_true] at h
    rw [Nat.eq_of_beq_eq_true h.1, natsEq_of l m h.2]
theorem runH_chg (ho : OrcOk P orc) (hc : CallOk P call) {l : List Oper} {ts : List FT} {ps : List (Option Nat)} {Fi : Nat → Frm} (htx : ∀ i o, l[i]? = some o → ∃ ti, ts[i]? = some ti ∧ FEq (Fi i) ti) {s : Sto} :
    ∀ (D : List Nat) (a : Sto × List Nat), Chg s a.1 a.2 → Chg s (runH P orc call l ts ps D a).1 (runH P orc call l ts ps D a).2 := by
  intro D
  induction D with
  | nil => intro a ha; exact ha
  | cons j D ih =>
    intro a ha
    refine ih _ ?_
    obtain ⟨sa, Wa⟩ := a
    have key : ∀ a', stepH P orc call l ts ps j (sa, Wa) = a' → Chg s a'.1 a'.2 := by
      intro a' e
      unfold stepH at e
      dsimp only at e
      split at e
      · rename_i o tj p ho' htj hp
        split at e
        · rename_i x s2 k hx
          obtain ⟨tj', g1, g3⟩ := htx j o ho'
          rw [htj] at g1
          cases g1
          split at e
          · subst e
            exact Chg.acc ha (mkIns_ok ho hc (o := o) rfl g3 hx).chg
          · rename_i id
            split at e
            · rename_i ob hob
              subst e
              have hk : Chg sa (sa.set id ob) [id] := fun i hi => by rw [Sto.set_abs]; exact set_other hi
              exact Chg.acc (W := [id]) ha hk
            · subst e; exact ha
        · subst e; exact ha
      · subst e; exact ha
    exact key _ rfl
theorem hole_ok (ho : OrcOk P orc) (hc : CallOk P call) {l : List Oper} {ts : List FT} {xs : List AV} {ks : List Kd} {K : Nat} {s : Sto} {F F' : Frm} {out : List (Nat × AV)} {Q : Exit → Frm → List Ob → Prop}
    (hB : holeB P N orc call l ts xs s ks K = true) (hlen : l.length = out.length) (hF' : F' = out.reverse ++ F)
    (htx : ∀ i o, l[i]? = some o → dOk N o = true ∧ ∃ ti xi, ts[i]? = some ti ∧ xs[i]? = some xi ∧ FEq ((out.take i).reverse ++ F) ti ∧ out[i]? = some (ent N o xi))
    (hQ : Q .normal F' (runH P orc call l ts ((ks.zip xs).map fun p => pushId s.len p.1 p.2) (effIdx ks) (pushN K s, [])).1.abs) : EDraw P N l F s.abs Q := by
  unfold holeB at hB
  generalize hps : ((ks.zip xs).map fun p => pushId s.len p.1 p.2) = ps at hB hQ
  simp only [Bool.and_eq_true] at hB
  obtain ⟨⟨⟨⟨hso, hself⟩, hEl⟩, hg⟩, hall⟩ := hB
  have hrun : ∀ D : List Nat, Chg (pushN K s) (runH P orc call l ts ps D (pushN K s, [])).1 (runH P orc call l ts ps D (pushN K s, [])).2 := fun D =>
    runH_chg ho hc (Fi := fun i => (out.take i).reverse ++ F) (fun i o hi => by
      obtain ⟨_, ti, _, g1, _, g3, _⟩ := htx i o hi
      exact ⟨ti, g1, g3⟩) D _ (.refl _)
  refine edraw_hole (E := effIdx ks) (T := fun D => (runH P orc call l ts ps D (pushN K s, [])).1.abs) (H := holesOf ps s.len K) (out := out) hso (fun i hi => ?_) (fun j hj => ?_) hlen hF' K (pushN_abs K s) (fun id hid => ?_) rfl (fun i o hi => ?_) hQ
  · by_cases hlt : i < (masks l []).length
    · have := List.all_eq_true.1 hself i (by simpa using hlt)
      rw [hi] at this; cases this
    · rw [List.getD_eq_getElem?_getD, List.getElem?_eq_none (by omega)] at hi
      simp at hi
  · have := List.all_eq_true.1 hEl j hj
    simpa [Nat.blt_eq] using this
  · unfold holesOf at hid
    obtain ⟨h1, _⟩ := List.mem_filter.1 hid
    obtain ⟨k, _, rfl⟩ := List.mem_map.1 h1
    rw [Sto.abs_len]; omega
  · obtain ⟨hd, ti, xi, g1, g2, g3, g4⟩ := htx i o hi
    have hgn : o.guard = none := by
      have := List.all_eq_true.1 hg o (List.mem_of_getElem? hi)
      simpa using this
    refine ⟨hd, _, g4, ⟨xi, rfl⟩, .inr ⟨runs_none hgn, fun q h1 h2 => ?_⟩⟩
    dsimp only
    have h3 := List.all_eq_true.1 hall _ (subs_filter q (effIdx ks))
    rw [h1, Bool.not_true, Bool.false_or, Bool.and_eq_true] at h3
    have hnm := h3.1
    have h4 := List.all_eq_true.1 h3.2 i (by simpa using (List.getElem?_eq_some_iff.1 hi).1)
    rw [h2, Bool.not_true, Bool.false_or] at h4
    have hr1 := hrun ((effIdx ks).filter q)
    have hr2 := hrun (insE (effIdx ks) ((effIdx ks).filter q) i)
    unfold chkH at h4
    rw [hi, g1, g2] at h4
    generalize runH P orc call l ts ps ((effIdx ks).filter q) (pushN K s, []) = rD at *
    generalize runH P orc call l ts ps (insE (effIdx ks) ((effIdx ks).filter q) i) (pushN K s, []) = rI at *
    generalize holesOf ps s.len K ((effIdx ks).filter q) = hs at *
    generalize holesOf ps s.len K (insE (effIdx ks) ((effIdx ks).filter q) i) = hs' at *
    obtain ⟨sD, WD⟩ := rD
    obtain ⟨sI, WI⟩ := rI
    dsimp only at h4 hnm hr1 hr2 ⊢
    have hmp : ∀ (id : Nat) (ob : Ob), sD.abs[id]? = some ob → isMp ob = false := fun id ob hob => by
      unfold noMp at hnm
      have hl : id < sD.len := by rw [← Sto.abs_len]; exact (List.getElem?_eq_some_iff.1 hob).1
      have := List.all_eq_true.1 hnm id (by simpa using hl)
      rw [Sto.get_abs, hob] at this
      simpa using this
    split at h4
    · rename_i o' t' x0' p e1 e2 e3 hp
      cases e1; cases e2; cases e3
      split at h4
      · rename_i x s1 k hx
        have hop := mkIns_ok ho hc (o := o) rfl g3 hx
        have hD := hop.does
        simp only [Bool.and_eq_true] at h4
        obtain ⟨hdead, h4⟩ := h4
        have hsd : ∀ id ∈ hs, sD.abs[id]? = some .dead := fun id hid => by
          have := List.all_eq_true.1 hdead id hid
          rw [Sto.get_abs] at this
          unfold isDead at this
          split at this
          · assumption
          · cases this
        split at h4
        · simp only [Bool.and_eq_true] at h4
          obtain ⟨⟨⟨⟨q1, q2⟩, q3⟩, q4⟩, q5⟩ := h4
          have e2 := eqOn_of (hr1.acc hop.chg) hr2 q4
          have e3 := natsEq_of _ _ q5
          have e4 := avEq_of _ _ q1
          refine ⟨x, ?_, ?_⟩
          · cases hdst : o.dst with
            | none => rw [ent_none hdst, ent_none hdst]
            | some d => rw [ent_some hdst] at e4 ⊢; rw [ent_some hdst] at e4 ⊢; rw [show x = xi from e4]
          · rw [e3, ← e2]
            have hq : ∀ i, (!(hs.contains i)) = true → i ∉ hs := fun i h => by simpa using h
            refine doesH_keep2 hD ((nmB_of _ q2).mono hq) (kdW k) hop.chg hsd (fun id hid => ?_) (fun id hid ob hob => ?_) hmp
            · have := List.all_eq_true.1 q3 id hid
              simp only [Bool.and_eq_true] at this
              exact hq id this.1
            · have := List.all_eq_true.1 q3 id hid
              simp only [Bool.and_eq_true] at this
              have h6 := this.2
              rw [Sto.get_abs, hob] at h6
              exact (obNmB_of h6).mono hq
        · rename_i id
          split at h4
          · rename_i ob hob
            simp only [Bool.and_eq_true] at h4
            obtain ⟨⟨⟨⟨⟨⟨⟨q1, q2⟩, q3⟩, q4⟩, q5⟩, q6⟩, q7⟩, q8⟩ := h4
            have hk : Chg sD (sD.set id ob) [id] := fun i hi => by rw [Sto.set_abs]; exact set_other hi
            have e2 := eqOn_of (Chg.acc (W := [id]) hr1 hk) hr2 q7
            have e3 := natsEq_of _ _ q8
            have hk1 : kdW k = [sD.len] := by
              unfold isEff1 at q1
              split at q1
              · rename_i m; rw [Nat.eq_of_beq_eq_true q1]; rfl
              · cases q1
            have hc1 := hop.chg
            rw [hk1] at hc1
            have hl1 : s1.abs.length = sD.abs.length + 1 := by rw [Sto.abs_len, Sto.abs_len]; exact Nat.eq_of_beq_eq_true q2
            have e5 : s1.abs = sD.abs ++ [ob] := by
              refine List.ext_getElem? fun i => ?_
              rcases Nat.lt_trichotomy i sD.abs.length with h | h | h
              · rw [List.getElem?_append_left h]
                exact hc1 i (by rw [← Sto.abs_len]; simp; omega)
              · subst h
                rw [Sto.abs_len, ← Sto.get_abs, hob, ← Sto.abs_len]; simp
              · rw [List.getElem?_eq_none (by omega), List.getElem?_eq_none (by simp; omega)]
            rw [e5] at hD
            refine ⟨xi, rfl, ?_⟩
            rw [e3, ← e2, Sto.set_abs]
            refine doesH_push2 hD (by simpa using q4) (by rw [Sto.abs_len]; simpa [Nat.blt_eq] using q5) hsd (by rw [Sto.abs_len]; exact rnB_of q3) ((obNmB_of q6).mono fun i h => ?_) hmp
            simp only [Bool.and_eq_true] at h
            exact ⟨by simpa using h.1, by rw [Sto.abs_len]; simpa [Nat.blt_eq] using h.2⟩
          · cases h4
      · cases h4
    · cases h4
theorem mkDraw_ok (ho : OrcOk P orc) (hc : CallOk P call) {l : List Oper} {t t' : FT} {W W' : List Nat} (hF : FEq F t) (h : (mkDraw P N orc call l).run t s W = some (t', s', W')) : EDraw P N l F s.abs (Is (.normal, t', s', W')) ∧ (∀ s0, Chg s0 s W → Chg s0 s' W') ∧ ∃ F', FEq F' t' := by
  unfold mkDraw at h
  dsimp only at h
  split at h
  · rename_i t1 s1 ks ts xs he
    obtain ⟨F1, out, sts, hs, hF1, hch, htx⟩ := mkDraws_ok ho hc l _ _ _ _ _ _ _ _ hF he
    cases hb : eOk l N ks with
    | true =>
      rw [hb] at h; cases h
      exact ⟨edraw_steps hs hb ⟨rfl, hF1, rfl⟩, fun s0 h0 => h0.acc hch, F1, hF1⟩
    | false =>
      rw [hb, cond_false] at h
      generalize ht : treeB P N orc call l ts xs s ks = b at h
      cases b with
      | false =>
        rw [cond_false] at h
        generalize hh : holeB P N orc call l ts xs s ks (s1.len - s.len) = b2 at h
        cases b2 with
        | false => cases h
        | true =>
          rw [cond_true] at h
          obtain ⟨hlen, hF', hkl, hsl, _, hat⟩ := esteps_at hs
          generalize hK : s1.len - s.len = K at h hh
          have hdat : ∀ i o, l[i]? = some o → dOk N o = true ∧ ∃ ti xi, ts[i]? = some ti ∧ xs[i]? = some xi ∧ FEq ((out.take i).reverse ++ F) ti ∧ out[i]? = some (ent N o xi) := fun i o hi => by
            obtain ⟨x, _, g2, _⟩ := hat i o hi
            exact ⟨g2, htx i o hi⟩
          have hc2 : Chg s (pushN K s) ((List.range K).map (s.len + ·)) := fun id hid => by
            rw [pushN_abs]
            by_cases hl : id < s.abs.length
            · rw [List.getElem?_append_left hl]
            · rw [List.getElem?_eq_none (by simp; rw [Sto.abs_len] at hl ⊢; rcases Nat.lt_or_ge id (s.len + K) with h1 | h1; exact absurd (List.mem_map.2 ⟨id - s.len, by simp; omega, by omega⟩) hid; exact h1), List.getElem?_eq_none (by omega)]
          have hc3 := runH_chg ho hc (ps := (ks.zip xs).map fun p => pushId s.len p.1 p.2) (Fi := fun i => (out.take i).reverse ++ F) (fun i o hi => by
            obtain ⟨_, ti, _, g1, _, g3, _⟩ := hdat i o hi
            exact ⟨ti, g1, g3⟩) (effIdx ks) (pushN K s, []) (Chg.refl _)
          have hq := fun Q => hole_ok ho hc (Q := Q) hh hlen hF' hdat
          generalize runH P orc call l ts ((ks.zip xs).map fun p => pushId s.len p.1 p.2) (effIdx ks) (pushN K s, []) = r at h hc3 hq
          obtain ⟨sE, WE⟩ := r
          dsimp only at h hc3 hq
          cases h
          exact ⟨hq _ ⟨rfl, hF1, rfl⟩, fun s0 h0 => h0.acc (Chg.acc hc2 hc3), F1, hF1⟩
      | true =>
        rw [cond_true] at h
        obtain ⟨hlen, hF', hkl, hsl, _, hat⟩ := esteps_at hs
        unfold treeB at ht
        simp only [Bool.and_eq_true] at ht
        obtain ⟨⟨⟨hso, hself⟩, hEl⟩, hall⟩ := ht
        have hmE : ∀ i, i ∈ effIdx ks ↔ ∃ W, ks[i]? = some (.eff W) := fun i => by
          unfold effIdx
          simp only [List.mem_filter, List.mem_range]
          constructor
          · rintro ⟨h1, h2⟩
            split at h2
            · rename_i W hW; exact ⟨W, hW⟩
            · cases h2
          · rintro ⟨W, hW⟩
            exact ⟨(List.getElem?_eq_some_iff.1 hW).1, by rw [hW]⟩
        have hmB : ∀ i k, ks[i]? = some k → k ≠ .free → i ∈ busyIdx ks := fun i k hk hne => by
          unfold busyIdx
          simp only [List.mem_filter, List.mem_range]
          refine ⟨(List.getElem?_eq_some_iff.1 hk).1, ?_⟩
          rw [hk]
          cases k with
          | free => exact absurd rfl hne
          | _ => rfl
        -- what the runs of some operations change
        have hrun : ∀ D : List Nat, Chg s (runT P orc call l ts D (s, [])).1 (runT P orc call l ts D (s, [])).2 := by
          have gen : ∀ (D : List Nat) (a : Sto × List Nat), Chg s a.1 a.2 → Chg s (runT P orc call l ts D a).1 (runT P orc call l ts D a).2 := by
            intro D
            induction D with
            | nil => intro a ha; exact ha
            | cons j D ih =>
              intro a ha
              refine ih _ ?_
              obtain ⟨sa, Wa⟩ := a
              have key : ∀ a', stepT P orc call l ts j (sa, Wa) = a' → Chg s a'.1 a'.2 := by
                intro a' e
                unfold stepT at e
                dsimp only at e
                split at e
                · rename_i o tj ho' htj
                  split at e
                  · rename_i x s2 k hx
                    obtain ⟨tj', xj, g1, _, g3, _⟩ := htx j o ho'
                    rw [htj] at g1
                    cases g1
                    subst e
                    exact Chg.acc ha (mkIns_ok ho hc (o := o) rfl g3 hx).chg
                  · subst e; exact ha
                · subst e; exact ha
              exact key _ rfl
          exact fun D => gen D (s, []) (.refl s)
        have hchk : ∀ i o, l[i]? = some o → i ∈ busyIdx ks → ∀ q : Nat → Bool, closedB (masks l []) (effIdx ks) ((effIdx ks).filter q) = true → readyB (masks l []) (effIdx ks) ((effIdx ks).filter q) i = true → ∃ x, out[i]? = some (ent N o x) ∧ Does P o ((out.take i).reverse ++ F) (runT P orc call l ts ((effIdx ks).filter q) (s, [])).1.abs x (runT P orc call l ts (insE (effIdx ks) ((effIdx ks).filter q) i) (s, [])).1.abs := by
          intro i o hi hB q h1 h2
          have h3 := List.all_eq_true.1 hall _ (subs_filter q (effIdx ks))
          rw [h1, Bool.not_true, Bool.false_or] at h3
          have h4 := List.all_eq_true.1 h3 i hB
          rw [h2, Bool.not_true, Bool.false_or] at h4
          obtain ⟨ti, xi, g1, g2, g3, g4⟩ := htx i o hi
          unfold chkT at h4
          rw [hi, g1, g2] at h4
          dsimp only at h4
          split at h4
          · rename_i x s2 k hx
            simp only [Bool.and_eq_true] at h4
            have hop := mkIns_ok ho hc (o := o) rfl g3 hx
            have hD := hop.does
            have e2 := eqOn_of ((hrun _).acc hop.chg) (hrun _) h4.2
            rw [e2] at hD
            refine ⟨x, ?_, hD⟩
            rw [g4]
            congr 1
            have e3 := avEq_of _ _ h4.1
            cases hdst : o.dst with
            | none => rw [ent_none hdst, ent_none hdst]
            | some d => rw [ent_some hdst] at e3 ⊢; rw [ent_some hdst] at e3 ⊢; rw [show x = xi from e3]
          · cases h4
        have e1 : t1 = t' := by injection h with h; injection h with h1 h2
        have e2 : (runT P orc call l ts (effIdx ks) (s, [])).1 = s' := by injection h with h; injection h with h1 h2; injection h2 with h3 h4
        have e3 : (runT P orc call l ts (effIdx ks) (s, [])).2 ++ W = W' := by injection h with h; injection h with h1 h2; injection h2 with h3 h4
        subst e1 e2 e3
        refine ⟨edraw_tree (E := effIdx ks) (T := fun D => (runT P orc call l ts D (s, [])).1.abs) (out := out) hso (fun i hi => ?_) (fun j hj => ?_) hlen hF' rfl rfl (fun i o hi => ?_) ⟨rfl, hF1, rfl⟩, fun s0 h0 => h0.acc (hrun _), F1, hF1⟩
        · by_cases hlt : i < (masks l []).length
          · have := List.all_eq_true.1 hself i (by simpa using hlt)
            rw [hi] at this; cases this
          · rw [List.getD_eq_getElem?_getD, List.getElem?_eq_none (by omega)] at hi
            simp at hi
        · have := List.all_eq_true.1 hEl j hj
          simpa [Nat.blt_eq] using this
        · obtain ⟨x, g1, g2, g3⟩ := hat i o hi
          refine ⟨g2, _, g1, ⟨x, rfl⟩, ?_⟩
          rcases g3 with ⟨k0, _, h5⟩ | ⟨R, k0, _, h5, _⟩ | ⟨W, k0, h5, _⟩
          · left
            refine ⟨fun hE => ?_, ?_⟩
            · obtain ⟨W, hW⟩ := (hmE i).1 hE
              rw [k0] at hW; cases hW
            · rcases h5 with ⟨h6, h7⟩ | ⟨h6, rfl⟩
              · exact .inl ⟨h6, x, rfl, h7⟩
              · exact .inr ⟨h6, rfl⟩
          · right
            refine ⟨h5, fun q h1 h2 => ?_⟩
            obtain ⟨x', h6, h7⟩ := hchk i o hi (hmB i _ k0 (by simp)) q h1 h2
            rw [g1] at h6
            exact ⟨x', Option.some.inj h6, h7⟩
          · right
            refine ⟨h5, fun q h1 h2 => ?_⟩
            obtain ⟨x', h6, h7⟩ := hchk i o hi (hmB i _ k0 (by simp)) q h1 h2
            rw [g1] at h6
            exact ⟨x', Option.some.inj h6, h7⟩
  · cases h
end

/-! ## code -/
abbrev RunF := Nat → FT → Sto → List Nat → Option XR
structure CoI where
  run : RunF
def loopR (run : RunF) : RunF
  | 0, _, _, _ => none
  | n + 1, t, s, W => match run n t s W with
    | some (.normal, t1, s1, W1) => loopR run n t1 s1 W1
    | r => r
section
variable (P : Program) (orc : Orc) (call : CallF) (N : Nat)
def mkCode : Code → CoI
  | .skip => ⟨fun _ t s W => some (.normal, t, s, W)⟩
  | .region _ ops draw => match draw with
    | true => ⟨fun _ t s W => match (mkDraw P N orc call ops.toList).run t s W with
      | some (t', s', W') => some (.normal, t', s', W')
      | none => none⟩
    | false => ⟨fun _ t s W => match (mkOps P N orc call ops ops.toList).run t s W with
      | some (t', s', W') => some (.normal, t', s', W')
      | none => none⟩
  | .seq a b => ⟨fun n t s W => match (mkCode a).run n t s W with
    | some (.normal, t1, s1, W1) => (mkCode b).run n t1 s1 W1
    | r => r⟩
  | .cond x a b => ⟨fun n t s W => match fev t x with
    | .s (.bool true) => (mkCode a).run n t s W
    | .s (.bool false) => (mkCode b).run n t s W
    | _ => none⟩
  | .block id b => ⟨fun n t s W => match (mkCode b).run n t s W with
    | some (.exit i, t1, s1, W1) => bif Nat.beq i id then some (.normal, t1, s1, W1) else some (.exit i, t1, s1, W1)
    | r => r⟩
  | .loop b => ⟨loopR (mkCode b).run⟩
  | .exit id => ⟨fun _ t s W => some (.exit id, t, s, W)⟩
  | .ret => ⟨fun _ t s W => some (.ret, t, s, W)⟩
  | _ => ⟨fun _ _ _ _ => none⟩
end
theorem S8.get {N : Nat} {G : Cx} {a : Act} {F F' : Frm} {σ : List Ob} (h : S8 N G a F σ) (e : ∀ t, F'.get t = F.get t) : S8 N G a F' σ := ⟨h.rel, fun d => by rw [e]; exact h.fr d, h.df, h.nt⟩
section
variable {P : Program} {N : Nat} {orc : Orc} {call : CallF}
/-- a run is right -/
def RunOk (P : Program) (N : Nat) (c : Code) (run : RunF) : Prop := ∀ n F t s W r, FEq F t → run n t s W = some r → EWp P N c F s.abs (Is r) ∧ (∀ s0, Chg s0 s W → Chg s0 r.2.2.1 r.2.2.2) ∧ ∃ F', FEq F' r.2.1
theorem RunOk.wp {c : Code} {run : RunF} (h : RunOk P N c run) {n : Nat} {F : Frm} {t : FT} {s : Sto} {W : List Nat} {r : XR} (hF : FEq F t) (hr : run n t s W = some r) : EWp P N c F s.abs (Is r) := (h n F t s W r hF hr).1
theorem loopR_ok {b : Code} {run : RunF} (h : RunOk P N b run) : RunOk P N (.loop b) (loopR run) := by
  have chg : ∀ n t s W r F, FEq F t → loopR run n t s W = some r → (∀ s0, Chg s0 s W → Chg s0 r.2.2.1 r.2.2.2) ∧ ∃ F', FEq F' r.2.1 := by
    intro n
    induction n with
    | zero => intro t s W r F hF hr; cases hr
    | succ n ih =>
      intro t s W r F hF hr
      unfold loopR at hr
      split at hr
      · rename_i t1 s1 W1 he
        obtain ⟨_, h1, F1, hF1⟩ := h n F t s W _ hF he
        obtain ⟨h2, h3⟩ := ih t1 s1 W1 r F1 hF1 hr
        exact ⟨fun s0 h0 => h2 s0 (h1 s0 h0), h3⟩
      · obtain ⟨_, h1, h2⟩ := h n F t s W _ hF hr
        exact ⟨h1, h2⟩
  intro n F t s W r hF hr
  refine ⟨?_, chg n t s W r F hF hr⟩
  refine ew_loop (fun k F1 σ1 => ∃ t1 s1 W1, FEq F1 t1 ∧ σ1 = s1.abs ∧ loopR run k t1 s1 W1 = some r) n ⟨t, s, W, hF, rfl, hr⟩ ?_
  rintro k F1 σ1 ⟨t1, s1, W1, hF1, rfl, hk⟩
  cases k with
  | zero => cases hk
  | succ k =>
    unfold loopR at hk
    split at hk
    · rename_i t2 s2 W2 he
      refine ew_mono (h.wp hF1 he) ?_
      rintro e F3 σ3 ⟨rfl, hF3, rfl⟩
      exact ⟨k, Nat.lt_succ_self _, t2, s2, W2, hF3, rfl, hk⟩
    · rename_i x hx
      refine ew_mono (h.wp hF1 hk) ?_
      rintro e F3 σ3 ⟨rfl, hF3, rfl⟩
      obtain ⟨e, t4, s4, W4⟩ := r
      cases e
      case normal => exact absurd hk (hx _ _ _)
      all_goals exact ⟨rfl, hF3, rfl⟩
theorem mkCode_ok (hm : P.follows .mixedOrders = true) (ho : OrcOk P orc) (hc : CallOk P call) : ∀ c : Code, RunOk P N c (mkCode P orc call N c).run
  | .skip => fun n F t s W r hF h => by
    unfold mkCode at h; cases h; exact ⟨ew_skip ⟨rfl, hF, rfl⟩, fun _ h => h, F, hF⟩
  | .region id ops draw => fun n F t s W r hF h => by
    have hops : ops = ops.toList.toArray := rfl
    unfold mkCode at h
    cases draw with
    | true =>
      dsimp only at h
      split at h
      · rename_i t' s' W' he
        cases h
        obtain ⟨h1, h2, h3⟩ := mkDraw_ok ho hc hF he
        rw [hops]
        exact ⟨ew_draw hm h1, h2, h3⟩
      · cases h
    | false =>
      dsimp only at h
      split at h
      · rename_i t' s' W' he
        cases h
        obtain ⟨h1, h2, h3⟩ := mkOps_ok ho hc ops.toList F t s W _ _ _ hF he
        rw [hops]
        exact ⟨ew_region h1, h2, h3⟩
      · cases h
  | .seq a b => fun n F t s W r hF h => by
    have iha := mkCode_ok hm ho hc a
    have ihb := mkCode_ok hm ho hc b
    unfold mkCode at h
    dsimp only at h
    split at h
    · rename_i t1 s1 W1 he
      obtain ⟨h1, h2, F1, hF1⟩ := iha n F t s W _ hF he
      obtain ⟨_, h4, h5⟩ := ihb n F1 t1 s1 W1 _ hF1 h
      refine ⟨ew_seq (ew_mono h1 ?_), fun s0 h0 => h4 s0 (h2 s0 h0), h5⟩
      rintro e F2 σ2 ⟨rfl, hF2, rfl⟩
      exact ihb.wp hF2 h
    · rename_i x hx
      obtain ⟨h1, h2, h3⟩ := iha n F t s W _ hF h
      refine ⟨ew_seq (ew_mono h1 ?_), h2, h3⟩
      rintro e F2 σ2 ⟨rfl, hF2, rfl⟩
      obtain ⟨e, t4, s4, W4⟩ := r
      cases e
      case normal => exact absurd h (hx _ _ _)
      all_goals exact ⟨rfl, hF2, rfl⟩
  | .cond x a b => fun n F t s W r hF h => by
    have iha := mkCode_ok hm ho hc a
    have ihb := mkCode_ok hm ho hc b
    unfold mkCode at h
    dsimp only at h
    rw [← hF.ev] at h
    split at h
    · rename_i hx; obtain ⟨h1, h2⟩ := iha n F t s W _ hF h; exact ⟨ew_true hx h1, h2⟩
    · rename_i hx; obtain ⟨h1, h2⟩ := ihb n F t s W _ hF h; exact ⟨ew_false hx h1, h2⟩
    · cases h
  | .block id b => fun n F t s W r hF h => by
    have ihb := mkCode_ok hm ho hc b
    unfold mkCode at h
    dsimp only at h
    split at h
    · rename_i i t1 s1 W1 he
      obtain ⟨h1, h2, F1, hF1⟩ := ihb n F t s W _ hF he
      have hr : r = (if i = id then (.normal, t1, s1, W1) else (.exit i, t1, s1, W1)) := by
        by_cases e : i = id
        · rw [if_pos e, Tri.beq_t e] at *; cases h; rfl
        · rw [if_neg e]; rw [Tri.beq_f e] at h; cases h; rfl
      refine ⟨ew_block (ew_mono h1 ?_), ?_, ?_⟩
      · rintro e F2 σ2 ⟨rfl, hF2, rfl⟩
        simp only [ABlk]
        by_cases e : i = id
        · rw [if_pos e]; rw [hr, if_pos e]; exact ⟨rfl, hF2, rfl⟩
        · rw [if_neg e]; rw [hr, if_neg e]; exact ⟨rfl, hF2, rfl⟩
      · intro s0 h0
        have := h2 s0 h0
        rw [hr]; split <;> exact this
      · rw [hr]; split <;> exact ⟨F1, hF1⟩
    · rename_i x hx
      obtain ⟨h1, h2, h3⟩ := ihb n F t s W _ hF h
      refine ⟨ew_block (ew_mono h1 ?_), h2, h3⟩
      rintro e F2 σ2 ⟨rfl, hF2, rfl⟩
      obtain ⟨e, t4, s4, W4⟩ := r
      cases e
      case exit => exact absurd h (hx _ _ _ _)
      all_goals exact ⟨rfl, hF2, rfl⟩
  | .loop b => by
    have ihb := mkCode_ok hm ho hc b
    unfold mkCode
    exact loopR_ok ihb
  | .exit id => fun n F t s W r hF h => by
    unfold mkCode at h; cases h; exact ⟨ew_exit ⟨rfl, hF, rfl⟩, fun _ h => h, F, hF⟩
  | .ret => fun n F t s W r hF h => by
    unfold mkCode at h; cases h; exact ⟨ew_ret ⟨rfl, hF, rfl⟩, fun _ h => h, F, hF⟩
  | .rangeFunc .. => fun n F t s W r hF h => by unfold mkCode at h; cases h
  | .scope _ => fun n F t s W r hF h => by unfold mkCode at h; cases h
  | .label _ => fun n F t s W r hF h => by unfold mkCode at h; cases h
  | .goto _ => fun n F t s W r hF h => by unfold mkCode at h; cases h
  | .refuse _ => fun n F t s W r hF h => by unfold mkCode at h; cases h
end

/-! ## functions -/
def argT : Nat → List AV → FT
  | _, [] => .nil
  | k, x :: l => fset (argT (k + 1) l) k x
theorem argT_ok : ∀ (l : List AV) (k : Nat), FEq (argF k l) (argT k l)
  | [], k => fun d => rfl
  | x :: l, k => (argT_ok l (k + 1)).put k x
section
variable (P : Program) (orc : Orc)
def evRes (t : FT) (s : Sto) : ResultVar → Option AV
  | .tmp d => some (fget t d)
  | .cell a k => match tyAgg P k, fget t a with
    | some false, .ptr id sz i j => match cellsAt s id sz i with
      | some l => l[j]?
      | none => none
    | some true, .ptr id sz i 0 => match tyInfo P k, cellsAt s id sz i with
      | some (_, n, _), some l => bif Nat.beq l.length n then some (.agg l) else none
      | _, _ => none
    | _, _ => none
def evResL (t : FT) (s : Sto) : List ResultVar → Option (List AV)
  | [] => some []
  | r :: rs => match evRes P t s r, evResL t s rs with
    | some x, some xs => some (x :: xs)
    | _, _ => none
/-- what of a list lies below k, with what lies from k to n -/
def below (k n : Nat) (W : List Nat) : List Nat := W.filter (fun i => Nat.blt i k) ++ (List.range (n - k)).map (k + ·)
def cutOr (k : Nat) (r : AV) (s' : Sto) (W : List Nat) : AV × Sto × List Nat :=
  bif Nat.ble k s'.len && loB k r && W.all (fun i => !(Nat.blt i k) || obLo k (s'.at_ i)) then (r, s'.take k, W.filter (fun i => Nat.blt i k)) else (r, s', W)
/-- a result that is one new row: all else that is new is forgotten -/
def keepOr (k : Nat) (r : AV) (s' : Sto) (W : List Nat) : AV × Sto × List Nat := match r with
  | .own m sz n => match s'.get m with
    | some ob => bif Nat.ble k m && obLo k ob && W.all (fun i => !(Nat.blt i k) || obLo k (s'.at_ i)) then (.own k sz n, (s'.take k).push ob, k :: W.filter (fun i => Nat.blt i k)) else cutOr k r s' W
    | none => cutOr k r s' W
  | _ => cutOr k r s' W
def retOf (k : Nat) (rs : List ResultVar) (t : FT) (s' : Sto) (W : List Nat) : Option (AV × Sto × List Nat) := match evResL P t s' rs with
  | some xs => some (keepOr k (oneOf xs) s' W)
  | none => none
def evCall : Nat → CallF
  | 0 => fun _ _ _ => none
  | n + 1 => fun f args s => match P.funcs[f]? with
    | none => none
    | some fn => match fn.body with
      | none => none
      | some c => bif (fn.name == "runtime.NumGoroutine") || !(Nat.ble args.length fn.ntmps) then none else match (mkCode P orc (evCall n) fn.ntmps c).run n (argT 0 args) s [] with
        | some (.normal, t, s', W) => retOf P s.len fn.results.toList t s' W
        | some (.ret, t, s', W) => retOf P s.len fn.results.toList t s' W
        | _ => none
end
section
variable {P : Program} {orc : Orc} {F : Frm} {s : Sto}
theorem evRes_ok {t : FT} (hF : FEq F t) {r : ResultVar} {x : AV} (h : evRes P t s r = some x) : ResA P F s.abs r x := by
  unfold evRes at h
  split at h
  · cases h; exact .tmp _ _ (hF _)
  · split at h
    · rename_i ha hp
      split at h
      · rename_i l hl
        unfold cellsAt at hl
        rw [Sto.get_abs] at hl
        obtain ⟨ob, cs, e, g1, g2, g3, g4⟩ := cellsO_of hl
        exact .cell _ _ _ _ _ _ ob cs e x ha ((hF _).trans hp) g1 g2 g3 (by rw [g4]; exact h)
      · cases h
    · rename_i ha hp
      split at h
      · rename_i z n bt l hi hl
        cases hb : Nat.beq l.length n with
        | false => rw [hb] at h; cases h
        | true =>
          rw [hb] at h; cases h
          unfold cellsAt at hl
          rw [Sto.get_abs] at hl
          obtain ⟨ob, cs, e, g1, g2, g3, g4⟩ := cellsO_of hl
          subst g4
          exact .cells _ _ _ _ _ n bt z ob cs e ha hi ((hF _).trans hp) g1 g2 g3 (Nat.eq_of_beq_eq_true hb)
      · cases h
    · cases h
theorem evResL_ok {t : FT} (hF : FEq F t) : ∀ {rs : List ResultVar} {xs : List AV}, evResL P t s rs = some xs → ResL P F s.abs rs xs
  | [], xs, h => by cases h; exact .nil
  | r :: rs, xs, h => by
    unfold evResL at h
    split at h
    · rename_i x xs' h1 h2; cases h; exact .cons _ _ _ _ (evRes_ok hF h1) (evResL_ok hF h2)
    · cases h
theorem cutOr_ok {f : FuncId} {args : List AV} {r r1 : AV} {s' s1 : Sto} {W W1 : List Nat} (h : CallE P f args s.abs r s'.abs) (hW : Chg s s' W) (e : cutOr s.len r s' W = (r1, s1, W1)) : CallE P f args s.abs r1 s1.abs ∧ Chg s s1 W1 := by
  unfold cutOr at e
  generalize hb : (Nat.ble s.len s'.len && loB s.len r && W.all (fun i => !(Nat.blt i s.len) || obLo s.len (s'.at_ i))) = b at e
  cases b with
  | false => cases e; exact ⟨h, hW⟩
  | true =>
    simp only [Bool.and_eq_true] at hb
    have hk := Nat.le_of_ble_eq_true hb.1.1
    injection e with e1 e2
    injection e2 with e2 e3
    subst e1 e2 e3
    have hlen : s.abs.length = s.len := Sto.abs_len s
    constructor
    · rw [Sto.take_abs, ← hlen]
      refine h.cut (W := W) (by rw [Sto.abs_len, Sto.abs_len]; exact hk) hW (fun id hid hlt ob hob => ?_) (by rw [hlen]; exact loB_of _ hb.1.2)
      rw [hlen] at hlt ⊢
      have h1 := List.all_eq_true.1 hb.2 id hid
      have h2 : Nat.blt id s.len = true := by rw [Nat.blt_eq]; exact hlt
      rw [h2, Bool.not_true, Bool.false_or] at h1
      have h3 : s'.get id = some (s'.at_ id) := by
        unfold Sto.get
        have : Nat.blt id s'.len = true := by rw [Nat.blt_eq]; omega
        rw [this]; rfl
      rw [← Sto.get_abs, h3] at hob
      cases hob
      exact obLo_of h1
    · intro id hid
      rw [Sto.take_abs, List.getElem?_take]
      split
      · rename_i hlt
        refine hW id (fun hm => hid ?_)
        refine List.mem_filter.2 ⟨hm, ?_⟩
        rw [Nat.blt_eq]; exact hlt
      · rename_i hge
        rw [List.getElem?_eq_none (by rw [hlen]; omega)]
theorem keepOr_ok {f : FuncId} {args : List AV} {r r1 : AV} {s' s1 : Sto} {W W1 : List Nat} (h : CallE P f args s.abs r s'.abs) (hW : Chg s s' W) (e : keepOr s.len r s' W = (r1, s1, W1)) : CallE P f args s.abs r1 s1.abs ∧ Chg s s1 W1 := by
  unfold keepOr at e
  split at e
  · rename_i m sz n
    split at e
    · rename_i ob hob
      generalize hb : (Nat.ble s.len m && obLo s.len ob && W.all (fun i => !(Nat.blt i s.len) || obLo s.len (s'.at_ i))) = b at e
      cases b with
      | false => exact cutOr_ok h hW e
      | true =>
        simp only [Bool.and_eq_true] at hb
        have hk := Nat.le_of_ble_eq_true hb.1.1
        injection e with e1 e2
        injection e2 with e2 e3
        subst e1 e2 e3
        have hlen : s.abs.length = s.len := Sto.abs_len s
        rw [Sto.get_abs] at hob
        have hmlt : m < s'.len := by rw [← Sto.abs_len]; exact (List.getElem?_eq_some_iff.1 hob).1
        constructor
        · rw [Sto.push_abs, Sto.take_abs, ← hlen]
          refine h.keep (W := W) (by rw [hlen]; exact hk) hob hW (fun id hid hlt ob1 hob1 => ?_) (by rw [hlen]; exact obLo_of hb.1.2)
          rw [hlen] at hlt ⊢
          have h1 := List.all_eq_true.1 hb.2 id hid
          have h2 : Nat.blt id s.len = true := by rw [Nat.blt_eq]; exact hlt
          rw [h2, Bool.not_true, Bool.false_or] at h1
          have h3 : s'.get id = some (s'.at_ id) := by
            unfold Sto.get
            have : Nat.blt id s'.len = true := by rw [Nat.blt_eq]; omega
            rw [this]; rfl
          rw [← Sto.get_abs, h3] at hob1
          cases hob1
          exact obLo_of h1
        · intro id hid
          have htk : (s'.abs.take s.len).length = s.len := by rw [List.length_take, Sto.abs_len]; omega
          rw [Sto.push_abs, Sto.take_abs]
          have hne : id ≠ s.len := fun e => hid (by rw [e]; exact List.mem_cons_self)
          rcases Nat.lt_or_ge id s.len with hlt | hge
          · rw [List.getElem?_append_left (by omega), List.getElem?_take, if_pos hlt]
            refine hW id (fun hm => hid (List.mem_cons_of_mem _ ?_))
            refine List.mem_filter.2 ⟨hm, ?_⟩
            rw [Nat.blt_eq]; exact hlt
          · rw [List.getElem?_eq_none (by rw [List.length_append, htk]; simp; omega), List.getElem?_eq_none (by rw [hlen]; omega)]
    · exact cutOr_ok h hW e
  · exact cutOr_ok h hW e
theorem evCall_ok (hm : P.follows .mixedOrders = true) (ho : OrcOk P orc) : ∀ n, CallOk P (evCall P orc n)
  | 0 => fun f args s r s' W h => by cases h
  | n + 1 => fun f args s r s' W h => by
    have ih := evCall_ok hm ho n
    unfold evCall at h
    split at h
    · cases h
    · rename_i fn hf
      split at h
      · cases h
      · rename_i c hb
        generalize hg : ((fn.name == "runtime.NumGoroutine") || !(Nat.ble args.length fn.ntmps)) = g at h
        cases g with
        | true => cases h
        | false =>
          rw [cond_false] at h
          simp only [Bool.or_eq_false_iff, Bool.not_eq_false'] at hg
          have hcode := mkCode_ok (N := fn.ntmps) hm ho ih c
          have main : ∀ e t s1 W1, (e = .normal ∨ e = .ret) → (mkCode P orc (evCall P orc n) fn.ntmps c).run n (argT 0 args) s [] = some (e, t, s1, W1) → retOf P s.len fn.results.toList t s1 W1 = some (r, s', W) → CallE P f args s.abs r s'.abs ∧ Chg s s' W := by
            intro e t s1 W1 he hrun hret
            obtain ⟨h1, h2, _⟩ := hcode n (argF 0 args) (argT 0 args) s [] _ (argT_ok args 0) hrun
            unfold retOf at hret
            split at hret
            · rename_i xs hx
              have hret := Option.some.inj hret
              refine keepOr_ok (callE_fn hf hg.1 hb (Nat.le_of_ble_eq_true hg.2) (ew_mono h1 ?_)) (h2 s (.refl s)) hret
              rintro e F2 σ2 ⟨rfl, hF2, rfl⟩
              exact ⟨he, rfl, xs, evResL_ok hF2 hx, rfl⟩
            · cases hret
          split at h
          · rename_i t s1 W1 he; exact main _ _ _ _ (.inl rfl) he h
          · rename_i t s1 W1 he; exact main _ _ _ _ (.inr rfl) he h
          · cases h
/-- a call without arguments that comes to true -/
def evTrue (P : Program) (orc : Orc) (n : Nat) (f : FuncId) : Bool := match evCall P orc n f [] Sto.nil with
  | some (.s (.bool b), _) => b
  | _ => false
theorem evTrue_ok (hm : P.follows .mixedOrders = true) (ho : OrcOk P orc) {n : Nat} {f : FuncId} (h : evTrue P orc n f = true) : Pure P f [] (.s (.bool true)) := by
  unfold evTrue at h
  split at h
  · rename_i b s' W he
    subst h
    have h1 := (evCall_ok hm ho n f [] _ _ _ _ he).1
    refine ⟨h1.ent, .s _, fun G vargs hst hsz hrep => ?_⟩
    let G0 : Cx := { base := G.w.heap.size, w0 := G.w, w := G.w, mu := fun _ => none, St := G.St }
    have hrel : Rel G0 Sto.nil.abs := ⟨Below.refl _ _, Nat.le_refl _, hst, by simp [Sto.abs_nil], by rintro i j b ⟨_, _, h⟩; simp [Sto.abs_nil] at h, fun _ _ => rfl⟩
    refine (h1.call G0 vargs hrel hsz (fun j v x hv hx => by simp at hx)).mono ?_
    rintro e w' ⟨v, G', rfl, rfl, he, hr', hv⟩
    have hbase : G'.base = G.w.heap.size := he.base
    have hbel : Below G.w.heap.size G.w G'.w := by have := hr'.below; rw [hbase, he.w0] at this; exact this
    exact ⟨v, G', rfl, rfl, hbel, he.st, fun b o h => he.stN b o h, hr'.st, hv⟩
  · cases h
end
end Go.Proofs.YtanfaepjamkbjaaGreat.Aw
end
section
namespace Go.Proofs.YtanfaepjamkbjaaGreat.Aw
set_option linter.unusedSimpArgs false
set_option linter.unusedVariables false
open Go Go.RowKit Go.Proofs
variable {P : Program} [IsP P]

def unF : AV → Option Fr
  | .agg [.s (.int .i64 a), .s (.int .i64 b)] => some ⟨a, b⟩
  | _ => none
theorem unF_of {x : AV} {a : Fr} (h : unF x = some a) : x = eF a := by
  unfold unF at h
  split at h
  · cases h; rfl
  · cases h
/-- functions of two fractions -/
def orc2 (f : Nat) (a b : Fr) : Option AV :=
  bif Nat.beq f 75 then some (eFE (mulE a b)) else
  bif Nat.beq f 51 then some (eFE (subE a b)) else
  bif Nat.beq f 74 then some (eFE (divE a b)) else
  bif Nat.beq f 48 then some (eFE (addE a b)) else none
def orcF : Orc := fun f args => match args with
  | [x] => bif Nat.beq f 66 then match unF x with
      | some a => some (eB a.okB)
      | none => none
    else none
  | [x, y] => match unF x with
    | none => none
    | some a => match unF y with
      | none => none
      | some b => orc2 f a b
  | _ => none
theorem orcF_ok : OrcOk P orcF := by
  intro f args r h
  unfold orcF at h
  split at h
  · rename_i x
    cases hb : Nat.beq f 66 with
    | false => rw [hb] at h; cases h
    | true =>
      rw [hb, cond_true] at h
      split at h
      · rename_i a ha; cases h; rw [Nat.eq_of_beq_eq_true hb, unF_of ha]; exact fValid_pf a
      · cases h
  · rename_i x y
    split at h
    · cases h
    · rename_i a ha
      split at h
      · cases h
      · rename_i b hb
        rw [unF_of ha, unF_of hb]
        unfold orc2 at h
        cases h1 : Nat.beq f 75 with
        | true => rw [h1] at h; cases h; rw [Nat.eq_of_beq_eq_true h1]; exact fMul_pf a b
        | false =>
        rw [h1, cond_false] at h
        cases h1 : Nat.beq f 51 with
        | true => rw [h1] at h; cases h; rw [Nat.eq_of_beq_eq_true h1]; exact fSub_pf a b
        | false =>
        rw [h1, cond_false] at h
        cases h1 : Nat.beq f 74 with
        | true => rw [h1] at h; cases h; rw [Nat.eq_of_beq_eq_true h1]; exact fDiv_pf a b
        | false =>
        rw [h1, cond_false] at h
        cases h1 : Nat.beq f 48 with
        | true => rw [h1] at h; cases h; rw [Nat.eq_of_beq_eq_true h1]; exact fAdd_pf a b
        | false => rw [h1, cond_false] at h; cases h
  · cases h
end Go.Proofs.YtanfaepjamkbjaaGreat.Aw
end
section
namespace Go.Proofs.YtanfaepjamkbjaaGreat.Aw
set_option linter.unusedSimpArgs false
set_option linter.unusedVariables false
open Go Go.RowKit

end Go.Proofs.YtanfaepjamkbjaaGreat.Aw
end
section
namespace Go.Proofs.YtanfaepjamkbjaaGreat.Aw
set_option linter.unusedSimpArgs false
set_option linter.unusedVariables false
set_option linter.unusedSectionVars false
open Go.RowKit Go.Proofs
variable {P : Program} [IsP P]

/-- one result, a struct in a variable -/
theorem post_c {N : Nat} {F : Frm} {σ : List Ob} {ad : Nat} {ty : TypeId} {id sz k n bt : Nat} {z : Option Value} {ob : Ob} {cs : List AV} {e1 r : AV} {e : Exit} (he : e = .normal ∨ e = .ret) (ha : tyAgg P ty = some true) (hi : tyInfo P ty = some (z, n, bt)) (hp : F.get ad = .ptr id sz k 0) (hs : σ[id]? = some ob) (ho : rowOf ob = some (sz, cs)) (hk : cs[k]? = some e1) (hn : e1.cells.length = n) (hr : AV.agg e1.cells = r) : APost P [.cell ad ty] r e F σ :=
  ⟨he, [.agg e1.cells], .cons _ _ _ _ (.cells ad ty id sz k n bt z ob cs e1 ha hi hp hs ho hk hn) .nil, hr ▸ .refl _⟩
end Go.Proofs.YtanfaepjamkbjaaGreat.Aw
end
section
namespace Go.Proofs.YtanfaepjamkbjaaGreat.Aw
set_option linter.unusedSimpArgs false
set_option linter.unusedVariables false
set_option linter.unusedSectionVars false
open Go.RowKit Go.Proofs
variable {P : Program} [IsP P]

def posB (a : Fr) : Bool := a.okB && !negB a
theorem one_pf : Pure P 44 [] (eF (Fr.of 1)) := by
  refine aw_fn (by rw [IsP.eq (P := P)]; exact Tryz.func44) rfl rfl rfl rfl rfl (by repeat' (first | exact Lo.s _ | exact Lo.emp | exact Lo.any | exact lo_nil | exact lo_nilE | refine lo_cons ?_ ?_ | refine lo_consE ?_ ?_ | refine lo_map ?_ | refine lo_mapE ?_ | refine Lo.cells ?_ | refine Lo.agg _ ?_ | refine Lo.ref _ ?_ | refine Lo.tup _ ?_ | refine Lo.fn _ _ ?_ | refine Lo.sl _ ?_ | intro _)) (by repeat' (first | exact Lo.s _ | exact Lo.emp | exact Lo.any | exact lo_nil | exact lo_nilE | refine lo_cons ?_ ?_ | refine lo_consE ?_ ?_ | refine lo_map ?_ | refine lo_mapE ?_ | refine Lo.cells ?_ | refine Lo.agg _ ?_ | refine Lo.ref _ ?_ | refine Lo.tup _ ?_ | refine Lo.fn _ _ ?_ | refine Lo.sl _ ?_ | intro _)) (by simp only [argF]; rfl) ?_
  repeat (first | refine aw_seq ?_ | refine ath_n ?_ | refine aw_skip ?_ | refine abl_n ?_ | refine aw_block ?_)
  refine aw_region ?_
  refine ops_op rfl rfl (runs_none rfl) (does_alloc rfl ti44 rfl rfl) ?_
  refine ops_nil ?_
  repeat (first | refine aw_seq ?_ | refine ath_n ?_ | refine aw_skip ?_ | refine abl_n ?_ | refine aw_block ?_)
  refine aw_region ?_
  refine ops_op rfl rfl (runs_none rfl) (does_build rfl ti44 tp44 rfl rfl) ?_
  refine ops_eff rfl (runs_none rfl) (does_store rfl ti44 rfl rfl rfl rfl rfl rfl (by decide) (by decide)) ?_
  refine ops_nil ?_
  repeat (first | refine aw_seq ?_ | refine ath_n ?_ | refine aw_skip ?_ | refine abl_n ?_ | refine aw_block ?_)
  (refine aw_ret ?_; repeat (first | refine ath_r ?_ | refine abl_r ?_))
  exact post_c (N := 0) (.inr rfl) ta44 ti44 rfl rfl rfl rfl rfl rfl
theorem dist1_pf (a : Fr) : Pure P 65 [eF a] (eB (!posB a)) := by
  refine aw_fn (by rw [IsP.eq (P := P)]; exact Tryz.func65) rfl rfl rfl rfl rfl (by repeat' (first | exact Lo.s _ | exact Lo.emp | exact Lo.any | exact lo_nil | exact lo_nilE | refine lo_cons ?_ ?_ | refine lo_consE ?_ ?_ | refine lo_map ?_ | refine lo_mapE ?_ | refine Lo.cells ?_ | refine Lo.agg _ ?_ | refine Lo.ref _ ?_ | refine Lo.tup _ ?_ | refine Lo.fn _ _ ?_ | refine Lo.sl _ ?_ | intro _)) (by repeat' (first | exact Lo.s _ | exact Lo.emp | exact Lo.any | exact lo_nil | exact lo_nilE | refine lo_cons ?_ ?_ | refine lo_consE ?_ ?_ | refine lo_map ?_ | refine lo_mapE ?_ | refine Lo.cells ?_ | refine Lo.agg _ ?_ | refine Lo.ref _ ?_ | refine Lo.tup _ ?_ | refine Lo.fn _ _ ?_ | refine Lo.sl _ ?_ | intro _)) (by simp only [argF]; rfl) ?_
  repeat (first | refine aw_seq ?_ | refine ath_n ?_ | refine aw_skip ?_ | refine abl_n ?_ | refine aw_block ?_)
  refine aw_region ?_
  refine ops_op rfl rfl (runs_none rfl) (does_box rfl rfl rfl rfl) ?_
  refine aops_weak (wk_froz (id := 0) rfl) (aops_weak (wk_ref (d := 1) rfl rfl rfl) ?_)
  refine ops_op rfl rfl (runs_none rfl) (mv_s (.inr rfl) rfl) ?_
  refine ops_nil ?_
  repeat (first | refine aw_seq ?_ | refine ath_n ?_ | refine aw_skip ?_ | refine abl_n ?_ | refine aw_block ?_)
  all_goals refine aw_region ?_
  all_goals (first | refine ops_op rfl rfl (runs_none rfl) (does_load_refw rfl ta44 ti44 rfl rfl) ?_ | refine ops_op rfl rfl (runs_none rfl) (does_load_whole rfl ta44 ti44 rfl rfl rfl rfl rfl) ?_ | refine ops_op rfl rfl (runs_none rfl) (does_load_refs rfl ta44 ti44 rfl (Nat.le_of_ble_eq_true rfl)) ?_ | refine ops_op rfl rfl (runs_none rfl) (does_load_ptrs rfl ta44 ti44 rfl rfl rfl rfl (Nat.le_of_ble_eq_true rfl)) ?_)
  all_goals (first | refine ops_opP rfl rfl (runs_none rfl) (does_call rfl rfl (fValid_pf _) (evc_cons rfl evc_nil)) (fun h4 => ?_) (fun h4 => ?_) | refine ops_opB rfl rfl (runs_none rfl) (does_call rfl rfl (fValid_pf _) (evc_cons rfl evc_nil)) (fun h4 => ?_) (fun h4 => ?_))
  all_goals (first | refine ops_op rfl rfl (runs_none rfl) (does_notp rfl rfl) ?_ | refine ops_op rfl rfl (runs_none rfl) (does_not rfl rfl) ?_)
  all_goals refine ops_op rfl rfl (runs_none rfl) (mv_s (.inl rfl) rfl) ?_
  all_goals (first | refine ops_op rfl rfl (runs_y rfl rfl rfl) (does_fieldAddr_ptr rfl tf44_0 (by decide) rfl) ?_ | refine ops_op rfl rfl (runs_y rfl rfl rfl) (does_fieldAddr_ref rfl tf44_0 (by decide) rfl) ?_ | refine ops_skip rfl rfl (runs_nf rfl rfl rfl) ?_ | refine ops_skip rfl rfl (runs_nu rfl rfl rfl) ?_)
  all_goals (first | refine ops_op rfl rfl (runs_y rfl rfl rfl) (does_load_ref rfl ta3 rfl) ?_ | refine ops_op rfl rfl (runs_y rfl rfl rfl) (does_load_ptr rfl ta3 rfl rfl rfl rfl rfl) ?_ | refine ops_skip rfl rfl (runs_nf rfl rfl rfl) ?_ | refine ops_skip rfl rfl (runs_nu rfl rfl rfl) ?_)
  all_goals (first | refine ops_opP rfl rfl (runs_y rfl rfl rfl) (does_lss rfl rfl rfl) (fun h9 => ?_) (fun h9 => ?_) | refine ops_opB rfl rfl (runs_y rfl rfl rfl) (does_lss rfl rfl rfl) (fun h9 => ?_) (fun h9 => ?_) | refine ops_skip rfl rfl (runs_nf rfl rfl rfl) ?_ | refine ops_skip rfl rfl (runs_nu rfl rfl rfl) ?_)
  all_goals (first | refine ops_op rfl rfl (runs_none rfl) (pickT_s rfl rfl rfl) ?_ | refine ops_op rfl rfl (runs_none rfl) (pickF_s rfl rfl rfl) ?_ | refine ops_op rfl rfl (runs_none rfl) (does_pickT rfl rfl rfl) ?_ | refine ops_op rfl rfl (runs_none rfl) (does_pickF rfl rfl rfl) ?_)
  all_goals refine ops_op rfl rfl (runs_none rfl) (mv_s (.inr rfl) rfl) ?_
  all_goals refine ops_nil ?_
  all_goals (repeat (first | refine aw_seq ?_ | refine ath_n ?_ | refine aw_skip ?_ | refine abl_n ?_ | refine aw_block ?_))
  all_goals (refine aw_ret ?_; repeat (first | refine ath_r ?_ | refine abl_r ?_))
  all_goals exact post1 (.inr rfl) rfl (congrArg eB (by unfold posB negB; first | (rw [Fr.okB_of h4, decide_eq_true h9]; rfl) | (rw [Fr.okB_of h4, decide_eq_false h9]; rfl) | (rw [Fr.okB_not h4]; rfl)))
def sumOk (l : List Fr) : Bool := decide ((sumsE l).e = 0) && decide ((sumsE l).n = 1 ∧ (sumsE l).d = 1)
def distB (l : List Fr) (n : Int) : Bool := (decide ((l.length : Int) = n) && l.all posB) && sumOk l
theorem frEqB {a b c d : Int} : @decide ([Value.int .i64 a, Value.int .i64 b] = [Value.int .i64 c, Value.int .i64 d]) (Classical.propDecidable _) = decide (a = c ∧ b = d) := by
  rw [decide_eq_decide]
  constructor
  · intro h; cases h; exact ⟨rfl, rfl⟩
  · rintro ⟨rfl, rfl⟩; rfl
theorem all_not {l : List Fr} {b : Bool} (h : l.any (fun a => !posB a) = b) : l.all posB = !b := by
  rw [← h]; simp [List.all_eq_not_any_not]
set_option maxHeartbeats 1000000 in
theorem dist_pf (l : List Fr) (n : Int) : Pure P 38 [eL eF l, eI n] (eB (distB l n)) := by
  have hc := containsFF_pf (P := P) 65 [] (fun a => !posB a) l lo_F (.fn _ _ (by simp)) (fun a _ => dist1_pf a)
  have ho := one_pf (P := P)
  have hs := fSum_pf (P := P) l
  have hd : distB l n = ((decide ((l.length : Int) = n) && l.all posB) && (decide ((sumsE l).e = 0) && decide ((sumsE l).n = 1 ∧ (sumsE l).d = 1))) := rfl
  generalize distB l n = R at hd ⊢
  generalize sumsE l = s at hs hd
  refine aw_fn (by rw [IsP.eq (P := P)]; exact Tryz.func38) rfl rfl rfl rfl rfl (by repeat' (first | exact Lo.s _ | exact Lo.emp | exact Lo.any | exact lo_nil | exact lo_nilE | refine lo_cons ?_ ?_ | refine lo_consE ?_ ?_ | refine lo_map ?_ | refine lo_mapE ?_ | refine Lo.cells ?_ | refine Lo.agg _ ?_ | refine Lo.ref _ ?_ | refine Lo.tup _ ?_ | refine Lo.fn _ _ ?_ | refine Lo.sl _ ?_ | intro _)) (by repeat' (first | exact Lo.s _ | exact Lo.emp | exact Lo.any | exact lo_nil | exact lo_nilE | refine lo_cons ?_ ?_ | refine lo_consE ?_ ?_ | refine lo_map ?_ | refine lo_mapE ?_ | refine Lo.cells ?_ | refine Lo.agg _ ?_ | refine Lo.ref _ ?_ | refine Lo.tup _ ?_ | refine Lo.fn _ _ ?_ | refine Lo.sl _ ?_ | intro _)) (by simp only [argF]; rfl) ?_
  repeat (first | refine aw_seq ?_ | refine ath_n ?_ | refine aw_skip ?_ | refine abl_n ?_ | refine aw_block ?_)
  refine aw_region ?_
  refine ops_op rfl rfl (runs_none rfl) (mv_s (.inr rfl) rfl) ?_
  refine ops_nil ?_
  repeat (first | refine aw_seq ?_ | refine ath_n ?_ | refine aw_skip ?_ | refine abl_n ?_ | refine aw_block ?_)
  all_goals refine aw_region ?_
  all_goals (first | refine ops_op rfl rfl (runs_none rfl) (mv_own (.inl rfl) rfl) ?_ | refine ops_op rfl rfl (runs_none rfl) (mv_sl (.inl rfl) rfl) ?_ | refine ops_op rfl rfl (runs_none rfl) (mv_s (.inl rfl) rfl) ?_ | refine ops_op rfl rfl (runs_none rfl) (mv_emp (.inl rfl) rfl) ?_ | refine ops_op rfl rfl (runs_none rfl) (mv_sub (.inl rfl) rfl) ?_)
  all_goals (first | refine ops_op rfl rfl (runs_none rfl) (does_len_map rfl ts46 rfl) ?_ | refine ops_op rfl rfl (runs_none rfl) (does_len_sl rfl ts46 rfl) ?_ | refine ops_op rfl rfl (runs_none rfl) (does_len_own rfl ts46 rfl) ?_ | refine ops_op rfl rfl (runs_none rfl) (does_len_s rfl ts46 rfl) ?_ | refine ops_op rfl rfl (runs_none rfl) (does_len_emp rfl ts46 rfl) ?_ | refine ops_op rfl rfl (runs_none rfl) (does_len_sub rfl ts46 rfl) ?_)
  all_goals refine ops_op rfl rfl (runs_none rfl) (mv_s (.inl rfl) rfl) ?_
  all_goals (first | refine ops_opP rfl rfl (runs_none rfl) (does_neq rfl rfl rfl) (fun h10 => ?_) (fun h10 => ?_) | refine ops_opB rfl rfl (runs_none rfl) (does_neq rfl rfl rfl) (fun h10 => ?_) (fun h10 => ?_))
  all_goals refine ops_op rfl rfl (runs_none rfl) (mv_s (.inl rfl) rfl) ?_
  all_goals (first | refine ops_op rfl rfl (runs_y rfl rfl rfl) (mv_own (.inl rfl) rfl) ?_ | refine ops_op rfl rfl (runs_y rfl rfl rfl) (mv_sl (.inl rfl) rfl) ?_ | refine ops_op rfl rfl (runs_y rfl rfl rfl) (mv_s (.inl rfl) rfl) ?_ | refine ops_op rfl rfl (runs_y rfl rfl rfl) (mv_emp (.inl rfl) rfl) ?_ | refine ops_op rfl rfl (runs_y rfl rfl rfl) (mv_sub (.inl rfl) rfl) ?_ | refine ops_skip rfl rfl (runs_nf rfl rfl rfl) ?_ | refine ops_skip rfl rfl (runs_nu rfl rfl rfl) ?_)
  all_goals (first | refine ops_opP rfl rfl (runs_y rfl rfl rfl) (does_call rfl rfl (hc) (evc_cons rfl (evc_cons rfl evc_nil))) (fun h13 => ?_) (fun h13 => ?_) | refine ops_opB rfl rfl (runs_y rfl rfl rfl) (does_call rfl rfl (hc) (evc_cons rfl (evc_cons rfl evc_nil))) (fun h13 => ?_) (fun h13 => ?_) | refine ops_skip rfl rfl (runs_nf rfl rfl rfl) ?_ | refine ops_skip rfl rfl (runs_nu rfl rfl rfl) ?_)
  all_goals (first | refine ops_op rfl rfl (runs_none rfl) (pickT_s rfl rfl rfl) ?_ | refine ops_op rfl rfl (runs_none rfl) (pickF_s rfl rfl rfl) ?_ | refine ops_op rfl rfl (runs_none rfl) (does_pickT rfl rfl rfl) ?_ | refine ops_op rfl rfl (runs_none rfl) (does_pickF rfl rfl rfl) ?_)
  all_goals refine ops_nil ?_
  all_goals (repeat (first | refine aw_seq ?_ | refine ath_n ?_ | refine aw_skip ?_ | refine abl_n ?_ | refine aw_block ?_))
  all_goals (first | refine aw_true rfl ?_ | refine aw_false rfl ?_)
  all_goals (repeat (first | refine aw_seq ?_ | refine ath_n ?_ | refine aw_skip ?_ | refine abl_n ?_ | refine aw_block ?_))
  all_goals first
    | skip
      refine aw_region ?_
      refine ops_op rfl rfl (runs_none rfl) (mv_s (.inr rfl) rfl) ?_
      refine ops_nil ?_
      repeat (first | refine aw_seq ?_ | refine ath_n ?_ | refine aw_skip ?_ | refine abl_n ?_ | refine aw_block ?_)
      (refine aw_ret ?_; repeat (first | refine ath_r ?_ | refine abl_r ?_))
      exact post1 (.inr rfl) rfl (congrArg eB (by
        rw [hd]
        first
        | rw [all_not h13]; simp; done
        | rw [decide_eq_false (by omega)]; simp; done))
    | skip
  have ha := all_not h13
  rw [ha, decide_eq_true (show (l.length : Int) = n by omega)] at hd
  refine aw_region ?_
  first | refine ops_op rfl rfl (runs_none rfl) (mv_own (.inl rfl) rfl) ?_ | refine ops_op rfl rfl (runs_none rfl) (mv_sl (.inl rfl) rfl) ?_ | refine ops_op rfl rfl (runs_none rfl) (mv_s (.inl rfl) rfl) ?_ | refine ops_op rfl rfl (runs_none rfl) (mv_emp (.inl rfl) rfl) ?_ | refine ops_op rfl rfl (runs_none rfl) (mv_sub (.inl rfl) rfl) ?_
  refine ops_op rfl rfl (runs_none rfl) (does_call rfl rfl (hs) (evc_cons rfl evc_nil)) ?_
  first | refine ops_op rfl rfl (runs_none rfl) (mv_tup (.inl rfl) rfl) ?_ | refine ops_op rfl rfl (runs_none rfl) (mv_s (.inl rfl) rfl) ?_
  refine ops_op rfl rfl (runs_none rfl) (does_extract rfl rfl rfl) ?_
  refine ops_op rfl rfl (runs_none rfl) (does_extract rfl rfl rfl) ?_
  refine ops_op rfl rfl (runs_none rfl) (does_alloc rfl ti44 rfl rfl) ?_
  refine ops_eff rfl (runs_none rfl) (does_store rfl ti44 rfl rfl rfl rfl rfl rfl (by decide) (by decide)) ?_
  refine ops_op rfl rfl (runs_none rfl) (mv_s (.inr rfl) rfl) ?_
  refine ops_nil ?_
  repeat (first | refine aw_seq ?_ | refine ath_n ?_ | refine aw_skip ?_ | refine abl_n ?_ | refine aw_block ?_)
  by_cases he : s.e = 0
  · skip
    refine aw_draw hmix ?_
    refine adraw_quiet (by kernel_rfl) ?_
    refine qx_op rfl rfl (runs_none rfl) (mv_s (.inl rfl) rfl) ?_
    refine qx_op rfl rfl (runs_none rfl) (dec_t he (does_eql rfl rfl rfl)) ?_
    refine qx_op rfl rfl (runs_none rfl) (mv_s (.inl rfl) rfl) ?_
    first | refine qx_op rfl rfl (runs_y rfl rfl rfl) (does_load_refw rfl ta44 ti44 rfl rfl) ?_ | refine qx_op rfl rfl (runs_y rfl rfl rfl) (does_load_whole rfl ta44 ti44 rfl rfl rfl rfl rfl) ?_ | refine qx_op rfl rfl (runs_y rfl rfl rfl) (does_load_refs rfl ta44 ti44 rfl (Nat.le_of_ble_eq_true rfl)) ?_ | refine qx_op rfl rfl (runs_y rfl rfl rfl) (does_load_ptrs rfl ta44 ti44 rfl rfl rfl rfl (Nat.le_of_ble_eq_true rfl)) ?_ | refine qx_skip rfl rfl (runs_nt rfl rfl rfl) ?_ | refine qx_skip rfl rfl (runs_nu rfl rfl rfl) ?_
    first | refine qx_op rfl rfl (runs_y rfl rfl rfl) (does_call rfl rfl (ho) evc_nil) ?_ | refine qx_skip rfl rfl (runs_nt rfl rfl rfl) ?_ | refine qx_skip rfl rfl (runs_nu rfl rfl rfl) ?_
    first | refine qx_op rfl rfl (runs_y rfl rfl rfl) (does_eqa rfl rfl rfl te44 rfl rfl rfl) ?_ | refine qx_skip rfl rfl (runs_nt rfl rfl rfl) ?_ | refine qx_skip rfl rfl (runs_nu rfl rfl rfl) ?_
    first | refine qx_op rfl rfl (runs_none rfl) (pickT_s rfl rfl rfl) ?_ | refine qx_op rfl rfl (runs_none rfl) (pickF_s rfl rfl rfl) ?_ | refine qx_op rfl rfl (runs_none rfl) (does_pickT rfl rfl rfl) ?_ | refine qx_op rfl rfl (runs_none rfl) (does_pickF rfl rfl rfl) ?_
    refine qx_op rfl rfl (runs_none rfl) (mv_s (.inr rfl) rfl) ?_
    refine qx_nil ?_
    repeat (first | refine aw_seq ?_ | refine ath_n ?_ | refine aw_skip ?_ | refine abl_n ?_ | refine aw_block ?_)
    (refine aw_ret ?_; repeat (first | refine ath_r ?_ | refine abl_r ?_))
    exact post1 (.inr rfl) rfl (congrArg eB (by
      rw [hd, decide_eq_true he]
      simp only [Bool.true_and, Bool.not_false]
      exact frEqB (a := s.n) (b := s.d) (c := 1) (d := 1)))
  · skip
    refine aw_draw hmix ?_
    refine adraw_quiet (by kernel_rfl) ?_
    refine qx_op rfl rfl (runs_none rfl) (mv_s (.inl rfl) rfl) ?_
    refine qx_op rfl rfl (runs_none rfl) (dec_f he (does_eql rfl rfl rfl)) ?_
    refine qx_op rfl rfl (runs_none rfl) (mv_s (.inl rfl) rfl) ?_
    first | refine qx_op rfl rfl (runs_y rfl rfl rfl) (does_load_refw rfl ta44 ti44 rfl rfl) ?_ | refine qx_op rfl rfl (runs_y rfl rfl rfl) (does_load_whole rfl ta44 ti44 rfl rfl rfl rfl rfl) ?_ | refine qx_op rfl rfl (runs_y rfl rfl rfl) (does_load_refs rfl ta44 ti44 rfl (Nat.le_of_ble_eq_true rfl)) ?_ | refine qx_op rfl rfl (runs_y rfl rfl rfl) (does_load_ptrs rfl ta44 ti44 rfl rfl rfl rfl (Nat.le_of_ble_eq_true rfl)) ?_ | refine qx_skip rfl rfl (runs_nt rfl rfl rfl) ?_ | refine qx_skip rfl rfl (runs_nu rfl rfl rfl) ?_
    first | refine qx_op rfl rfl (runs_y rfl rfl rfl) (does_call rfl rfl (by assumption) evc_nil) ?_ | refine qx_skip rfl rfl (runs_nt rfl rfl rfl) ?_ | refine qx_skip rfl rfl (runs_nu rfl rfl rfl) ?_
    first | refine qx_op rfl rfl (runs_y rfl rfl rfl) (does_eqa rfl rfl rfl te44 rfl rfl rfl) ?_ | refine qx_skip rfl rfl (runs_nt rfl rfl rfl) ?_ | refine qx_skip rfl rfl (runs_nu rfl rfl rfl) ?_
    first | refine qx_op rfl rfl (runs_none rfl) (pickT_s rfl rfl rfl) ?_ | refine qx_op rfl rfl (runs_none rfl) (pickF_s rfl rfl rfl) ?_ | refine qx_op rfl rfl (runs_none rfl) (does_pickT rfl rfl rfl) ?_ | refine qx_op rfl rfl (runs_none rfl) (does_pickF rfl rfl rfl) ?_
    refine qx_op rfl rfl (runs_none rfl) (mv_s (.inr rfl) rfl) ?_
    refine qx_nil ?_
    repeat (first | refine aw_seq ?_ | refine ath_n ?_ | refine aw_skip ?_ | refine abl_n ?_ | refine aw_block ?_)
    (refine aw_ret ?_; repeat (first | refine ath_r ?_ | refine abl_r ?_))
    exact post1 (.inr rfl) rfl (congrArg eB (by rw [hd, decide_eq_false he]; simp))
end Go.Proofs.YtanfaepjamkbjaaGreat.Aw
end
