/-
  Texts joined: AwA, Base, Tail, AwB. Conditions: none.
-/
import Derived.WalkKit
import Derived.Laws.AppendOwn
import Derived.Orders
import Derived.Test.YtmhbfoaecebobaaProg
import Derived.WalkSpells
import Derived.WalkLawsBesides
import Derived.Deep.QuietTactic
import Derived.BigQuiet
import Derived.Lib.Hide
import Derived.Deep.RegionHeld3
import Derived.Deep.LoopGhost
import Derived.Deep.DeepCutAuto
section
namespace Go.Proofs.Ytmhbfoaecebobaa.Aw
set_option linter.unusedSimpArgs false
set_option linter.unusedVariables false
open Go.RowKit

/-- what is known of a value -/
inductive AV where
  | any
  | s (v : Value)
  | agg (cs : List AV)
  | sl (l : List AV)
  | emp
  | ref (cs : List AV)
  | own (id sz n : Nat)
  | ptr (id sz k j : Nat)
  | fn (f : FuncId) (cs : List AV)
  | tup (l : List AV)

def AV.cells : AV → List AV
  | .agg cs => cs
  | x => [x]
def AV.one : AV → Bool
  | .s v => v.oneCell'
  | .any | .agg _ | .tup _ => false
  | _ => true

/-- a thing of the call's own -/
inductive Ob where
  | dead
  | row (sz : Nat) (cs : List AV)
  | fz (sz : Nat) (cs : List AV)

/-- where things are -/
structure Cx where
  base : Nat
  w0 : World
  w : World
  mu : Nat → Option (Option Nat)
  St : Nat → Nat → Prop

inductive Rep (G : Cx) : Value → AV → Prop
  | any (v : Value) : Rep G v .any
  | s (v : Value) : Rep G v (.s v)
  | agg (vs : Array Value) (cs : List AV) (hl : vs.size = cs.length) (h1 : ∀ c ∈ cs, c.one = true)
      (h : ∀ (j : Nat) v c, vs[j]? = some v → cs[j]? = some c → Rep G v c) : Rep G (.agg vs) (.agg cs)
  | emp (A : Option Addr) (hA : ∀ a, A = some a → a.spot = none) : Rep G (.slice A 0 0) .emp
  | slnil (A : Option Addr) (cap : Nat) : Rep G (.slice A 0 cap) (.sl [])
  | sl (b o cap sz : Nat) (l : List AV) (val : Nat → Nat → Value) (hc : l.length ≤ cap) (hm : l.length ≤ maxLen)
      (h1 : ∀ (k : Nat) e, l[k]? = some e → e.cells.length = sz ∧ ∀ c ∈ e.cells, c.one = true)
      (h2 : ∀ (k : Nat) e (j : Nat) c, l[k]? = some e → e.cells[j]? = some c → G.St b (o + k * sz + j) ∧ G.w.cell? ⟨b, o + k * sz + j, none⟩ = some (val k j))
      (h : ∀ (k : Nat) e (j : Nat) c, l[k]? = some e → e.cells[j]? = some c → Rep G (val k j) c) : Rep G (.slice (some ⟨b, o, none⟩) l.length cap) (.sl l)
  | ref (b o : Nat) (cs : List AV) (val : Nat → Value) (h1 : ∀ c ∈ cs, c.one = true)
      (h2 : ∀ (j : Nat) c, cs[j]? = some c → G.St b (o + j) ∧ G.w.cell? ⟨b, o + j, none⟩ = some (val j))
      (h : ∀ (j : Nat) c, cs[j]? = some c → Rep G (val j) c) : Rep G (.pointer (some ⟨b, o, none⟩)) (.ref cs)
  | own0 (id sz : Nat) (A : Option Addr) (hA : ∀ a, A = some a → a.spot = none) (hm : G.mu id = some none) : Rep G (.slice A 0 0) (.own id sz 0)
  | own (id sz n b cap : Nat) (hm : G.mu id = some (some b)) (hn : n ≤ cap) (hc : cap ≤ maxLen)
      (hb : ∃ (cur : Array Value) (e : TypeId) (f : Nat × Nat), G.w.heap[b]? = some (Obj.cells cur e f) ∧ cur.size = cap * sz) : Rep G (.slice (some ⟨b, 0, none⟩) n cap) (.own id sz n)
  | ptr (id sz k j b : Nat) (hm : G.mu id = some (some b)) : Rep G (.pointer (some ⟨b, k * sz + j, none⟩)) (.ptr id sz k j)
  | fn (f : FuncId) (vs : Array Value) (cs : List AV) (hl : vs.size = cs.length) (h : ∀ (j : Nat) v c, vs[j]? = some v → cs[j]? = some c → Rep G v c) : Rep G (.func (.func f) #[] vs) (.fn f cs)
  | tup (vs : Array Value) (l : List AV) (hl : vs.size = l.length) (h : ∀ (j : Nat) v c, vs[j]? = some v → l[j]? = some c → Rep G v c) : Rep G (.tuple vs) (.tup l)

theorem Rep.one {G : Cx} {v : Value} {x : AV} (h : Rep G v x) (hx : x.one = true) : v.oneCell' = true := by
  cases h with
  | s => exact hx
  | any => simp [AV.one] at hx
  | agg => simp [AV.one] at hx
  | tup => simp [AV.one] at hx
  | _ => rfl

/-- rows of cells stay as long as they are -/
def RowsKept (w w' : World) : Prop := ∀ (b : Nat) (cur : Array Value) (e : TypeId) (f : Nat × Nat), w.heap[b]? = some (Obj.cells cur e f) → ∃ cur' : Array Value, w'.heap[b]? = some (Obj.cells cur' e f) ∧ cur'.size = cur.size
theorem RowsKept.refl (w : World) : RowsKept w w := fun _ cur _ _ h => ⟨cur, h, rfl⟩
theorem RowsKept.trans {a b c : World} (h : RowsKept a b) (k : RowsKept b c) : RowsKept a c := fun i cur e f x => by
  obtain ⟨c1, h1, s1⟩ := h i cur e f x
  obtain ⟨c2, h2, s2⟩ := k i c1 e f h1
  exact ⟨c2, h2, s2.trans s1⟩

/-- the world goes on: what is finished stays, what is named stays -/
structure Cx.Ext (G G' : Cx) : Prop where
  base : G'.base = G.base
  w0 : G'.w0 = G.w0
  st : ∀ b o, G.St b o → G'.St b o
  cell : ∀ b o, G.St b o → G'.w.cell? ⟨b, o, none⟩ = G.w.cell? ⟨b, o, none⟩
  mu : ∀ id x, G.mu id = some x → G'.mu id = some x
  size : G.w.heap.size ≤ G'.w.heap.size
  rows : RowsKept G.w G'.w
  stN : ∀ b o, G'.St b o → G.St b o ∨ G.base ≤ b

theorem Cx.Ext.refl (G : Cx) : G.Ext G := ⟨rfl, rfl, fun _ _ h => h, fun _ _ _ => rfl, fun _ _ h => h, Nat.le_refl _, RowsKept.refl _, fun _ _ h => .inl h⟩
theorem Cx.Ext.trans {G H K : Cx} (h : G.Ext H) (k : H.Ext K) : G.Ext K :=
  ⟨k.base.trans h.base, k.w0.trans h.w0, fun b o x => k.st b o (h.st b o x), fun b o x => (k.cell b o (h.st b o x)).trans (h.cell b o x), fun id x e => k.mu id x (h.mu id x e), Nat.le_trans h.size k.size,
    h.rows.trans k.rows, fun b o x => by
    rcases k.stN b o x with h1 | h1
    · exact h.stN b o h1
    · right; rw [← h.base]; exact h1⟩

theorem Rep.ext {G G' : Cx} {v : Value} {x : AV} (h : Rep G v x) (e : G.Ext G') : Rep G' v x := by
  induction h with
  | any v => exact .any v
  | s v => exact .s v
  | agg vs cs hl h1 _ ih => exact .agg vs cs hl h1 ih
  | emp A hA => exact .emp A hA
  | slnil A cap => exact .slnil A cap
  | sl b o cap sz l val hc hm h1 h2 _ ih => exact .sl b o cap sz l val hc hm h1 (fun k x j c hk hj => ⟨e.st _ _ (h2 k x j c hk hj).1, (e.cell _ _ (h2 k x j c hk hj).1).trans (h2 k x j c hk hj).2⟩) ih
  | ref b o cs val h1 h2 _ ih => exact .ref b o cs val h1 (fun j c hj => ⟨e.st _ _ (h2 j c hj).1, (e.cell _ _ (h2 j c hj).1).trans (h2 j c hj).2⟩) ih
  | own0 id sz A hA hm => exact .own0 id sz A hA (e.mu _ _ hm)
  | own id sz n b cap hm hn hc hb =>
    obtain ⟨cur, t, f, h1, h2⟩ := hb
    obtain ⟨cur', h3, h4⟩ := e.rows _ _ _ _ h1
    exact .own id sz n b cap (e.mu _ _ hm) hn hc ⟨cur', t, f, h3, h4.trans h2⟩
  | ptr id sz k j b hm => exact .ptr id sz k j b (e.mu _ _ hm)
  | fn f vs cs hl _ ih => exact .fn f vs cs hl ih
  | tup vs l hl _ ih => exact .tup vs l hl ih

/-- nothing of the call's own from id k on is named -/
inductive Lo (k : Nat) : AV → Prop
  | any : Lo k .any
  | s (v : Value) : Lo k (.s v)
  | agg (cs : List AV) (h : ∀ c ∈ cs, Lo k c) : Lo k (.agg cs)
  | emp : Lo k .emp
  | sl (l : List AV) (h : ∀ c ∈ l, Lo k c) : Lo k (.sl l)
  | ref (cs : List AV) (h : ∀ c ∈ cs, Lo k c) : Lo k (.ref cs)
  | own (id sz n : Nat) (h : id < k) : Lo k (.own id sz n)
  | ptr (id sz i j : Nat) (h : id < k) : Lo k (.ptr id sz i j)
  | fn (f : FuncId) (cs : List AV) (h : ∀ c ∈ cs, Lo k c) : Lo k (.fn f cs)
  | tup (l : List AV) (h : ∀ c ∈ l, Lo k c) : Lo k (.tup l)

theorem Lo.cells {k : Nat} {x : AV} (h : Lo k x) : ∀ c ∈ x.cells, Lo k c := by
  cases h with
  | agg cs h => exact h
  | any => intro c hc; simp [AV.cells] at hc; subst hc; exact .any
  | s v => intro c hc; simp [AV.cells] at hc; subst hc; exact .s v
  | emp => intro c hc; simp [AV.cells] at hc; subst hc; exact .emp
  | sl l h => intro c hc; simp [AV.cells] at hc; subst hc; exact .sl l h
  | ref l h => intro c hc; simp [AV.cells] at hc; subst hc; exact .ref l h
  | own id sz n h => intro c hc; simp [AV.cells] at hc; subst hc; exact .own id sz n h
  | ptr id sz i j h => intro c hc; simp [AV.cells] at hc; subst hc; exact .ptr id sz i j h
  | fn f l h => intro c hc; simp [AV.cells] at hc; subst hc; exact .fn f l h
  | tup l h => intro c hc; simp [AV.cells] at hc; subst hc; exact .tup l h

/-- the same without the names from k on -/
theorem Rep.low {G G' : Cx} {k : Nat} {v : Value} {x : AV} (h : Rep G v x) (hx : Lo k x) (hst : ∀ b o, G.St b o → G'.St b o) (hc : ∀ b o, G.St b o → G'.w.cell? ⟨b, o, none⟩ = G.w.cell? ⟨b, o, none⟩)
    (hmu : ∀ id y, id < k → G.mu id = some y → G'.mu id = some y) (hr : 0 < k → RowsKept G.w G'.w) : Rep G' v x := by
  induction h with
  | any v => exact .any v
  | s v => exact .s v
  | agg vs cs hl h1 _ ih => cases hx with | agg _ hx => exact .agg vs cs hl h1 (fun j v c a b => ih j v c a b (hx c (List.mem_of_getElem? b)))
  | emp A hA => exact .emp A hA
  | slnil A cap => exact .slnil A cap
  | sl b o cap sz l val hcp hm h1 h2 _ ih => cases hx with | sl _ hx => exact .sl b o cap sz l val hcp hm h1 (fun k x j c hk hj => ⟨hst _ _ (h2 k x j c hk hj).1, (hc _ _ (h2 k x j c hk hj).1).trans (h2 k x j c hk hj).2⟩) (fun k x j c hk hj => ih k x j c hk hj ((hx x (List.mem_of_getElem? hk)).cells c (List.mem_of_getElem? hj)))
  | ref b o cs val h1 h2 _ ih => cases hx with | ref _ hx => exact .ref b o cs val h1 (fun j c hj => ⟨hst _ _ (h2 j c hj).1, (hc _ _ (h2 j c hj).1).trans (h2 j c hj).2⟩) (fun j c hj => ih j c hj (hx c (List.mem_of_getElem? hj)))
  | own0 id sz A hA hm => cases hx with | own _ _ _ hx => exact .own0 id sz A hA (hmu _ _ hx hm)
  | own id sz n b cap hm hn hcp hb =>
    cases hx with
    | own _ _ _ hx =>
      obtain ⟨cur, t, f, h1, h2⟩ := hb
      obtain ⟨cur', h3, h4⟩ := hr (by omega) _ _ _ _ h1
      exact .own id sz n b cap (hmu _ _ hx hm) hn hcp ⟨cur', t, f, h3, h4.trans h2⟩
  | ptr id sz i j b hm => cases hx with | ptr _ _ _ _ hx => exact .ptr id sz i j b (hmu _ _ hx hm)
  | fn f vs cs hl _ ih => cases hx with | fn _ _ hx => exact .fn f vs cs hl (fun j v c a b => ih j v c a b (hx c (List.mem_of_getElem? b)))
  | tup vs l hl _ ih => cases hx with | tup _ hx => exact .tup vs l hl (fun j v c a b => ih j v c a b (hx c (List.mem_of_getElem? b)))

/-- block b holds these elements, in cells that may be written -/
def RowAt (G : Cx) (b sz : Nat) (cs : List AV) (f : Nat × Nat → Prop) : Prop :=
  ∃ (cur : Array Value) (e : TypeId) (fr : Nat × Nat), G.w.heap[b]? = some (Obj.cells cur e fr) ∧ f fr ∧ cs.length * sz ≤ cur.size ∧
    ∀ (k : Nat) e, cs[k]? = some e → e.cells.length = sz ∧ (∀ c ∈ e.cells, c.one = true) ∧ ∀ (j : Nat) c, e.cells[j]? = some c → ∃ v, cur[k * sz + j]? = some v ∧ Rep G v c

def ObOk (G : Cx) (id : Nat) : Ob → Prop
  | .dead => True
  | .row sz cs => match G.mu id with
    | none => False
    | some none => cs = []
    | some (some b) => RowAt G b sz cs (· = (0, 0)) ∧ G.base ≤ b ∧ ∀ o, ¬ G.St b o
  | .fz sz cs => match G.mu id with
    | none => False
    | some none => cs = []
    | some (some b) => RowAt G b sz cs (fun _ => True) ∧ ∀ (k : Nat) e (j : Nat), cs[k]? = some e → j < e.cells.length → G.St b (k * sz + j)

def alive (σ : List Ob) (i : Nat) : Prop := ∃ sz cs, σ[i]? = some (.row sz cs)

structure Rel (G : Cx) (σ : List Ob) : Prop where
  below : Below G.base G.w0 G.w
  le : G.base ≤ G.w0.heap.size
  st : ∀ b o, G.St b o → b < G.w.heap.size
  obs : ∀ id ob, σ[id]? = some ob → ObOk G id ob
  inj : ∀ i j b, alive σ i → alive σ j → G.mu i = some (some b) → G.mu j = some (some b) → i = j
  fresh : ∀ id, σ.length ≤ id → G.mu id = none

abbrev Frm := List (Nat × AV)
def Frm.get : Frm → Nat → AV
  | [], _ => .any
  | (d, x) :: F, t => bif Nat.beq d t then x else Frm.get F t
def ofValue : Value → AV
  | .agg cs => bif cs.toList.all (·.oneCell') then .agg (cs.toList.map .s) else .any
  | v => .s v
def Frm.eval (F : Frm) : Operand → AV
  | .tmp t => F.get t
  | .const v => ofValue v
  | .global _ => .any
  | .func f => .fn f []

def FOk (G : Cx) (a : Act) (F : Frm) : Prop := ∀ d, Rep G (a.tmps.getD d undef) (F.get d)

structure S8 (N : Nat) (G : Cx) (a : Act) (F : Frm) (σ : List Ob) : Prop where
  rel : Rel G σ
  fr : FOk G a F
  df : a.defers = []
  nt : a.tmps.size = N

/-- from the call's beginning on -/
structure Cx.Step (G G' : Cx) : Prop where
  base : G'.base = G.base
  w0 : G'.w0 = G.w0
  st : ∀ b o, G.St b o → G'.St b o
  cell : ∀ b o, G.St b o → G'.w.cell? ⟨b, o, none⟩ = G.w.cell? ⟨b, o, none⟩
  stN : ∀ b o, G'.St b o → G.St b o ∨ G.base ≤ b
theorem Cx.Step.refl (G : Cx) : G.Step G := ⟨rfl, rfl, fun _ _ h => h, fun _ _ _ => rfl, fun _ _ h => .inl h⟩
theorem Cx.Step.trans {G H K : Cx} (h : G.Step H) (k : H.Step K) : G.Step K :=
  ⟨k.base.trans h.base, k.w0.trans h.w0, fun b o x => k.st b o (h.st b o x), fun b o x => (k.cell b o (h.st b o x)).trans (h.cell b o x), fun b o x => by
    rcases k.stN b o x with h1 | h1
    · exact h.stN b o h1
    · right; rw [← h.base]; exact h1⟩

theorem Cx.Ext.step {G G' : Cx} (e : G.Ext G') : G.Step G' := ⟨e.base, e.w0, e.st, e.cell, e.stN⟩

theorem rep_const (G : Cx) (v : Value) : Rep G v (ofValue v) := by
  cases v with
  | agg cs =>
    simp only [ofValue]
    cases h1 : cs.toList.all (·.oneCell') with
    | false => exact .any _
    | true =>
      refine .agg _ _ (by simp) (fun c hc => ?_) (fun j v c hv hc => ?_)
      · obtain ⟨u, hu, rfl⟩ := List.mem_map.1 hc
        exact List.all_eq_true.1 h1 u hu
      · simp only [List.getElem?_map, Array.getElem?_toList, hv, Option.map_some, Option.some.injEq] at hc
        subst hc; exact .s _
  | _ => exact .s _

theorem rep_eval {G : Cx} {a : Act} {F : Frm} (h : FOk G a F) (y : Operand) : Rep G (a.eval y) (F.eval y) := by
  cases y with
  | tmp t => exact h t
  | const v => exact rep_const G v
  | global g => exact .any _
  | func f => exact .fn f #[] [] rfl (fun j v c hv hc => by simp at hc)

theorem FOk.ext {G G' : Cx} {a : Act} {F : Frm} (h : FOk G a F) (e : G.Ext G') : FOk G' a F := fun d => (h d).ext e
theorem FOk.put {G : Cx} {a : Act} {F : Frm} {d : Nat} {v : Value} {x : AV} (h : FOk G a F) (hd : d < a.tmps.size) (hv : Rep G v x) : FOk G (a.put (some d) v) ((d, x) :: F) := by
  intro t
  by_cases e : d = t
  · subst e
    simpa [Act.put, Frm.get, Array.getD_eq_getD_getElem?, hd] using hv
  · have hb : Nat.beq d t = false := by
      cases hh : Nat.beq d t with
      | false => rfl
      | true => exact absurd (Nat.eq_of_beq_eq_true hh) e
    simpa [Act.put, Frm.get, Array.getD_eq_getD_getElem?, hb, Array.getElem?_setIfInBounds, e] using h t
end Go.Proofs.Ytmhbfoaecebobaa.Aw
end
section
namespace Go.Proofs.Ytmhbfoaecebobaa
set_option linter.unusedSimpArgs false
set_option linter.unusedVariables false
open Go.RowKit

theorem ret_int {k : IntKind} {a b : Int} (h : a = b) : Ending.returned (.int k a) = .returned (.int k b) := by rw [h]

/-- the post out of the walk's reach -/
theorem calls_cps {P : Program} {f : FuncId} {args : Array Value} {w : World} {Post : Ending → World → Prop}
    (h : ∀ R : Ending → World → Prop, (∀ e w', Post e w' → R e w') → Calls P f args w R) : Calls P f args w Post := h Post fun _ _ h => h

/-- f has a body: a call of it enters it -/
def Ent (f : FuncId) : Prop := ∀ args w, (callFunc f args).run Try.prog w = .ok (.enter f args) w
theorem ent_of {f : FuncId} {fn : Func} {c : Code} (hf : Try.prog.funcs[f]? = some fn) (hname : (fn.name == "runtime.NumGoroutine") = false) (hb : fn.body = some c) : Ent f := fun args w => by
  have h1 : fn.name ≠ "runtime.NumGoroutine" := by simpa using hname
  simp [callFunc, hf, h1, hb]

/-- what was there is as it was -/
def Ext (w w' : World) : Prop := Below w.heap.size w w'
theorem Ext.refl (w : World) : Ext w w := Below.refl _ _
theorem Ext.trans {a b c : World} (h : Ext a b) (k : Ext b c) : Ext a c := Below.trans h (Below.mono k (Below.size h))

/-- a block of two cells of the call's own -/
def B2 (w : World) (g : Nat) (x y : Value) : Prop :=
  w.cell? ⟨g, 0, none⟩ = some x ∧ w.cell? ⟨g, 1, none⟩ = some y ∧ w.frozen? ⟨g, 0, none⟩ = false ∧ w.frozen? ⟨g, 1, none⟩ = false ∧ g < w.heap.size
theorem B2.after {B : Nat} {W w1 : World} {g : Nat} {x y : Value} (hb : Below B W w1) (h : B2 W g x y) (hg : g < B) : B2 w1 g x y :=
  ⟨(hb.cell hg).trans h.1, (hb.cell hg).trans h.2.1, (hb.frozen hg).trans h.2.2.1, (hb.frozen hg).trans h.2.2.2.1, Nat.lt_of_lt_of_le h.2.2.2.2 hb.size⟩
theorem B2.drewN {W : World} {g : Nat} {x y : Value} (h : B2 W g x y) (n : Nat) : B2 (W.drewN n) g x y := h
theorem B2.drew {W : World} {g : Nat} {x y : Value} (h : B2 W g x y) : B2 W.drew g x y := h
theorem B2.set {W : World} {g : Nat} {x y : Value} (h : B2 W g x y) (u v : Value) : B2 ((W.setCell ⟨g, 0, none⟩ u).setCell ⟨g, 1, none⟩ v) g u v := by
  obtain ⟨h1, h2, h3, h4, h5⟩ := h
  exact ⟨by simp [go_sem, h1], by simp [go_sem, h2], by simp [go_sem, h3], by simp [go_sem, h4], by simpa using h5⟩
theorem cell_set2 {W : World} {g g' o : Nat} {v x y : Value} (h : W.cell? ⟨g, o, none⟩ = some v) (hne : g ≠ g') : ((W.setCell ⟨g', 0, none⟩ x).setCell ⟨g', 1, none⟩ y).cell? ⟨g, o, none⟩ = some v := by
  rw [World.cell?_setCell_other _ _ _ _ (fun e => hne (congrArg Addr.block e).symm), World.cell?_setCell_other _ _ _ _ (fun e => hne (congrArg Addr.block e).symm)]
  exact h
theorem cell_set1 {W : World} {g g' o o' : Nat} {v x : Value} (h : W.cell? ⟨g, o, none⟩ = some v) (hne : g ≠ g') : (W.setCell ⟨g', o', none⟩ x).cell? ⟨g, o, none⟩ = some v := by
  rw [World.cell?_setCell_other _ _ _ _ (fun e => hne (congrArg Addr.block e).symm)]
  exact h
/-- a block of one cell of the call's own -/
def B1 (w : World) (g : Nat) (x : Value) : Prop :=
  w.cell? ⟨g, 0, none⟩ = some x ∧ w.frozen? ⟨g, 0, none⟩ = false ∧ g < w.heap.size
theorem B1.after {B : Nat} {W w1 : World} {g : Nat} {x : Value} (hb : Below B W w1) (h : B1 W g x) (hg : g < B) : B1 w1 g x :=
  ⟨(hb.cell hg).trans h.1, (hb.frozen hg).trans h.2.1, Nat.lt_of_lt_of_le h.2.2 hb.size⟩

theorem B1.drewN {W : World} {g : Nat} {x : Value} (h : B1 W g x) (n : Nat) : B1 (W.drewN n) g x := h
theorem B1.lt {w : World} {g : Nat} {x : Value} (h : B1 w g x) : g < w.heap.size := h.2.2
theorem B2.lt {w : World} {g : Nat} {x y : Value} (h : B2 w g x y) : g < w.heap.size := h.2.2.2.2

/-- below block N the world W is as w was, but for block c -/
structure Off (c N : Nat) (w W : World) : Prop where
  os : W.os = w.os
  tape : W.tape = w.tape
  output : W.output = w.output
  size : w.heap.size ≤ W.heap.size
  block : ∀ k, k < N → k ≠ c → W.heap[k]? = w.heap[k]?
theorem Off.refl (c N : Nat) (w : World) : Off c N w w := ⟨rfl, rfl, rfl, Nat.le_refl _, fun _ _ _ => rfl⟩
theorem Off.trans {c N : Nat} {a b d : World} (h : Off c N a b) (k : Off c N b d) : Off c N a d :=
  ⟨k.os.trans h.os, k.tape.trans h.tape, k.output.trans h.output, Nat.le_trans h.size k.size, fun i hi hc => (k.block i hi hc).trans (h.block i hi hc)⟩
theorem Off.mono {c N N' : Nat} {w W : World} (h : Off c N w W) (hN : N' ≤ N) : Off c N' w W := ⟨h.os, h.tape, h.output, h.size, fun k hk hc => h.block k (Nat.lt_of_lt_of_le hk hN) hc⟩
theorem Off.of_below {c N : Nat} {w W : World} (h : Below N w W) : Off c N w W := ⟨h.os, h.tape, h.output, h.size, fun k hk _ => h.block k hk⟩
theorem Off.to_below {c N : Nat} {w W : World} (h : Off c N w W) (hc : N ≤ c) : Below N w W := ⟨h.os, h.tape, h.output, h.size, fun k hk => h.block k hk (by omega)⟩
theorem Off.step {c N N' : Nat} {w W W' : World} (h : Off c N w W) (k : Off c N' W W') (hN : N ≤ N') : Off c N w W' := h.trans (k.mono hN)
theorem Off.stepB {c N N' : Nat} {w W W' : World} (h : Off c N w W) (k : Below N' W W') (hN : N ≤ N') : Off c N w W' := h.trans (Off.of_below (k.mono hN))
theorem Off.drew {c N : Nat} {w W : World} (h : Off c N w W) : Off c N w W.drew := ⟨h.os, h.tape, h.output, h.size, h.block⟩
theorem Off.drewN {c N : Nat} {w W : World} (h : Off c N w W) (n : Nat) : Off c N w (W.drewN n) := ⟨h.os, h.tape, h.output, h.size, h.block⟩
theorem Off.alloc {c N : Nat} {w W : World} (h : Off c N w W) (hN : N ≤ W.heap.size) (o : Obj) : Off c N w (W.alloc o) := h.stepB ((Below.refl N W).alloc hN o) (Nat.le_refl _)
theorem Off.setCell {c N : Nat} {w W : World} (h : Off c N w W) {p : Addr} (hp : N ≤ p.block ∨ p.block = c) (u : Value) : Off c N w (W.setCell p u) :=
  h.trans ⟨rfl, rfl, rfl, by simp [World.setCell], fun k hk hc => Below.heap_setCell _ _ _ _ (by omega)⟩
theorem Off.cell {c N : Nat} {w W : World} (h : Off c N w W) {p : Addr} (hp : p.block < N) (hc : p.block ≠ c) : W.cell? p = w.cell? p := World.cell?_of_block (w := w) (h.block p.block hp hc)
theorem Off.frozen {c N : Nat} {w W : World} (h : Off c N w W) {p : Addr} (hp : p.block < N) (hc : p.block ≠ c) : W.frozen? p = w.frozen? p := World.frozen?_of_block (w := w) (h.block p.block hp hc)
theorem Off.grownBy {c : Nat} {w W : World} (h : Off c w.heap.size w W) : w.grownBy W (some c) := ⟨h.os, h.tape, h.output, h.size, fun k hk hne => h.block k hk (fun e => hne (by rw [e]))⟩
theorem B2.off {c N : Nat} {W w1 : World} {g : Nat} {x y : Value} (hb : Off c N W w1) (h : B2 W g x y) (hg : g < N) (hc : g ≠ c) : B2 w1 g x y :=
  ⟨(hb.cell hg hc).trans h.1, (hb.cell hg hc).trans h.2.1, (hb.frozen hg hc).trans h.2.2.1, (hb.frozen hg hc).trans h.2.2.2.1, Nat.lt_of_lt_of_le h.2.2.2.2 hb.size⟩
theorem B1.off {c N : Nat} {W w1 : World} {g : Nat} {x : Value} (hb : Off c N W w1) (h : B1 W g x) (hg : g < N) (hc : g ≠ c) : B1 w1 g x :=
  ⟨(hb.cell hg hc).trans h.1, (hb.frozen hg hc).trans h.2.1, Nat.lt_of_lt_of_le h.2.2 hb.size⟩
theorem B1.set {W : World} {g : Nat} {x : Value} (h : B1 W g x) (u : Value) : B1 (W.setCell ⟨g, 0, none⟩ u) g u := by
  obtain ⟨h1, h2, h3⟩ := h
  exact ⟨by simp [go_sem, h1], by simp [go_sem, h2], by simpa using h3⟩
theorem B1.set2 {W : World} {g g' : Nat} {x u v : Value} (h : B1 W g x) (hne : g ≠ g') : B1 ((W.setCell ⟨g', 0, none⟩ u).setCell ⟨g', 1, none⟩ v) g x := by
  obtain ⟨h1, h2, h3⟩ := h
  refine ⟨cell_set2 h1 hne, ?_, by simpa using h3⟩
  simp [go_sem, h2]
theorem B1.alloc {W : World} {g : Nat} {x : Value} (h : B1 W g x) (o : Obj) : B1 (W.alloc o) g x :=
  B1.after ((Below.refl W.heap.size W).alloc (Nat.le_refl _) o) h h.lt

theorem Below.step {B B' : Nat} {w W w1 : World} (h : Below B w W) (hb : Below B' W w1) (hB : B ≤ B') : Below B w w1 := h.trans (hb.mono hB)

end Go.Proofs.Ytmhbfoaecebobaa
end
section
namespace Go.Proofs.Ytmhbfoaecebobaa
set_option linter.unusedSimpArgs false
set_option linter.unusedVariables false
open Go.RowKit

section
variable {P : Program} {pre : List Oper} {last : Oper} {Q : Exit → Act → World → Prop} {S : World → Prop}

/-- the last operation waits for each of the others; each of the others waits for earlier ones alone, and is guarded by none but these -/
def lastB (pre : List Oper) (last : Oper) : Bool :=
  (List.range pre.length).all (fun i => last.after.any fun e => Region.binds .any e && e.on == i) &&
  (List.range pre.length).all (fun i => match pre[i]? with
    | none => true
    | some o => (o.after.all fun e => !Region.binds .any e || decide (e.on < i)) && (match o.guard with | none => true | some (j, _) => decide (j < pre.length))) &&
  last.guard.isNone && last.after.all (fun e => !Region.binds .any e || decide (e.on < pre.length))

structure LastOk (pre : List Oper) (last : Oper) : Prop where
  waits : ∀ i, i < pre.length → ∃ e ∈ last.after, Region.binds .any e = true ∧ e.on = i
  early : ∀ (i : Nat) (o : Oper), pre[i]? = some o → ∀ e ∈ o.after, Region.binds .any e = true → e.on < i
  guards : ∀ (i : Nat) (o : Oper), pre[i]? = some o → ∀ (j : Nat) (b : Bool), o.guard = some (j, b) → j < pre.length
  free : last.guard = none
  on : ∀ e ∈ last.after, Region.binds .any e = true → e.on < pre.length

theorem lastOk_of (h : lastB pre last = true) : LastOk pre last := by
  unfold lastB at h
  simp only [Bool.and_eq_true, List.all_eq_true, List.mem_range, Array.any_eq_true', beq_iff_eq] at h
  obtain ⟨⟨⟨h1, h2⟩, h3⟩, h4⟩ := h
  refine ⟨fun i hi => ?_, fun i o ho e he hb => ?_, fun i o ho j b hj => ?_, by simpa using h3, fun e he hb => ?_⟩
  · obtain ⟨e, he, hb, ho⟩ := h1 i hi
    exact ⟨e, he, hb, ho⟩
  · have hi : i < pre.length := (List.getElem?_eq_some_iff.1 ho).1
    have := h2 i hi
    rw [ho] at this
    simp only [Bool.and_eq_true, Array.all_eq_true', Bool.or_eq_true, Bool.not_eq_true', decide_eq_true_eq] at this
    rcases this.1 e he with h | h
    · rw [hb] at h; cases h
    · exact h
  · have hi : i < pre.length := (List.getElem?_eq_some_iff.1 ho).1
    have := h2 i hi
    rw [ho] at this
    simp only [Bool.and_eq_true] at this
    have h5 := this.2
    rw [hj] at h5
    simpa using h5
  · simp only [Array.all_eq_true', Bool.or_eq_true, Bool.not_eq_true', decide_eq_true_eq] at h4
    rcases h4 e he with h | h
    · rw [hb] at h; cases h
    · exact h

theorem get_pre {i : Nat} (hi : i < pre.length) : (pre ++ [last]).toArray[i]? = pre.toArray[i]? := by simp [List.getElem?_append_left hi]
theorem get_last : (pre ++ [last]).toArray[pre.length]? = some last := by simp

theorem yielded_pre {tmps : Array Value} {j : Nat} (hj : j < pre.length) : yielded (pre ++ [last]).toArray tmps j = yielded pre.toArray tmps j := by
  unfold yielded
  rw [get_pre hj]
theorem wanted_pre (ok : LastOk pre last) {i : Nat} {o : Oper} (ho : pre[i]? = some o) (tmps : Array Value) : Region.wanted o (yielded (pre ++ [last]).toArray tmps) = Region.wanted o (yielded pre.toArray tmps) := by
  unfold Region.wanted
  cases hg : o.guard with
  | none => rfl
  | some jb =>
    obtain ⟨j, b⟩ := jb
    simp only
    rw [yielded_pre (ok.guards i o ho j b hg)]

/-- the state of affairs once the others are through -/
def thenLast (P : Program) (pre : List Oper) (last : Oper) (Q : Exit → Act → World → Prop) : Exit → Act → World → Prop :=
  Exit.then (fun a w => wpList P (pre ++ [last]).toArray Q [last] a w) Q

theorem upon_then {o : Oper} {a : Act} {K : Act → World → Prop} {r : Result Next} {N : Act → World → Prop} (h : o.upon P a K (Exit.then N Q) r) : o.upon P a K Q r := by
  cases r with
  | ok n w =>
    cases n <;> simp only [Oper.upon] at h ⊢ <;>
      first
        | exact h
        | exact Calls.mono h (fun e w'' he => by cases e <;> exact he)
  | halt x w => cases x <;> simp only [Oper.upon] at h ⊢ <;> exact h

theorem op_then (ok : LastOk pre last) {i : Nat} (hi : i < pre.length) {K K' : Act → World → Prop} {a : Act} {w : World} (hK : ∀ a w, K a w → K' a w)
    (h : wpOp P pre.toArray (thenLast P pre last Q) i K a w) : wpOp P (pre ++ [last]).toArray Q i K' a w := by
  refine wpOp_mono hK ?_
  unfold wpOp at h ⊢
  rw [get_pre hi]
  obtain ⟨o, ho⟩ : ∃ o, pre[i]? = some o := ⟨_, List.getElem?_eq_getElem hi⟩
  simp only [List.getElem?_toArray, ho] at h ⊢
  rw [wanted_pre ok ho]
  split
  · rename_i hw
    rw [if_pos hw] at h
    rcases h with h | ⟨h1, h2⟩
    · exact .inl (upon_then h)
    · exact .inr ⟨h1, h2⟩
  · rename_i hw
    rw [if_neg hw] at h
    exact h

theorem last_any (ok : LastOk pre last) : ∀ (fuel : Nat) (L : Array Bool) (a : Act) (w : World), L.size = pre.length →
    wpAny P .any pre.toArray (thenLast P pre last Q) fuel L a w → wpAny P .any (pre ++ [last]).toArray Q (fuel + 1) (L.push false) a w := by
  -- who may come up: as before; the last one, once all have come up
  have hready : ∀ (L : Array Bool), L.size = pre.length → ∀ i, i ∈ Region.ready .any (pre ++ [last]).toArray (L.push false) → (i < pre.length ∧ i ∈ Region.ready .any pre.toArray L) ∨ (i = pre.length ∧ ∀ j, j < pre.length → L.getD j false = true) := by
    intro L hL i hi
    obtain ⟨h1, o, ho, hall⟩ := mem_ready.1 hi
    have hlt : i < pre.length + 1 := by
      have := (Array.getElem?_eq_some_iff.1 ho).1
      simpa using this
    rcases Nat.lt_or_eq_of_le (Nat.le_of_lt_succ hlt) with h2 | h2
    · left
      refine ⟨h2, mem_ready.2 ⟨?_, o, by rw [get_pre h2] at ho; exact ho, fun e he hb => ?_⟩⟩
      · simpa [Array.getD_eq_getD_getElem?, Array.getElem?_push, hL, Nat.ne_of_lt h2] using h1
      · have hon := ok.early i o (by rw [get_pre h2] at ho; simpa using ho) e he hb
        have := hall e he hb
        simpa [Array.getD_eq_getD_getElem?, Array.getElem?_push, hL, Nat.ne_of_lt (Nat.lt_trans hon h2)] using this
    · right
      refine ⟨h2, fun j hj => ?_⟩
      subst h2
      rw [get_last] at ho
      injection ho with ho
      subst ho
      obtain ⟨e, he, hb, rfl⟩ := ok.waits j hj
      have := hall e he hb
      simpa [Array.getD_eq_getD_getElem?, Array.getElem?_push, hL, Nat.ne_of_lt hj] using this
  have hsome : ∀ (L : Array Bool), L.size = pre.length → Region.ready .any (pre ++ [last]).toArray (L.push false) ≠ [] := by
    intro L hL he
    -- the least that has not come up is ready
    have key : ∀ i, i ≤ pre.length → ∀ j, j < i → L.getD j false = true := by
      intro i
      induction i with
      | zero => intro _ j hj; omega
      | succ i ih =>
        intro hi j hj
        rcases Nat.lt_or_eq_of_le (Nat.le_of_lt_succ hj) with h1 | h1
        · exact ih (by omega) j h1
        · subst h1
          cases hc : L.getD j false with
          | true => rfl
          | false =>
            exfalso
            have hj' : j < pre.length := by omega
            obtain ⟨o, ho⟩ : ∃ o, pre[j]? = some o := ⟨_, List.getElem?_eq_getElem hj'⟩
            have hm : j ∈ Region.ready .any (pre ++ [last]).toArray (L.push false) := by
              refine mem_ready.2 ⟨?_, o, by rw [get_pre hj']; simpa using ho, fun e he hb => ?_⟩
              · have hlt : j < L.size := by omega
                simp [Array.getD_eq_getD_getElem?, hlt] at hc ⊢
                simp [Array.getElem?_push, Nat.ne_of_lt hlt, hlt, hc]
              · have hon := ok.early j o ho e he hb
                have := ih (by omega) e.on hon
                simpa [Array.getD_eq_getD_getElem?, Array.getElem?_push, hL, Nat.ne_of_lt (Nat.lt_trans hon hj')] using this
            rw [he] at hm
            cases hm
    have hm : pre.length ∈ Region.ready .any (pre ++ [last]).toArray (L.push false) := by
      refine mem_ready.2 ⟨?_, last, get_last, fun e he hb => ?_⟩
      · rw [Array.getD_eq_getD_getElem?, ← hL, Array.getElem?_push_size]; rfl
      · have hon := ok.on e he hb
        have := key pre.length (Nat.le_refl _) e.on hon
        simpa [Array.getD_eq_getD_getElem?, Array.getElem?_push, hL, Nat.ne_of_lt hon] using this
    rw [he] at hm
    cases hm
  -- the last one
  have hlast : ∀ (fuel : Nat) (L : Array Bool) (a : Act) (w : World), L.size = pre.length → (∀ j, j < pre.length → L.getD j false = true) → thenLast P pre last Q .normal a w →
      wpOp P (pre ++ [last]).toArray Q pre.length (wpAny P .any (pre ++ [last]).toArray Q fuel ((L.push false).setIfInBounds pre.length true)) a w := by
    intro fuel L a w hL hall h
    have hdone : Region.ready .any (pre ++ [last]).toArray ((L.push false).setIfInBounds pre.length true) = [] := by
      rw [List.eq_nil_iff_forall_not_mem]
      intro i hi
      obtain ⟨h1, o, ho, _⟩ := mem_ready.1 hi
      have hlt : i < pre.length + 1 := by
        have := (Array.getElem?_eq_some_iff.1 ho).1
        simpa using this
      rcases Nat.lt_or_eq_of_le (Nat.le_of_lt_succ hlt) with h2 | h2
      · have h3 := hall i h2
        have hlt' : i < L.size := by omega
        rw [Array.getD_eq_getD_getElem?, Array.getElem?_eq_getElem hlt'] at h3
        rw [Array.getD_eq_getD_getElem?, Array.getElem?_setIfInBounds, if_neg (by omega), Array.getElem?_push, if_neg (by omega), Array.getElem?_eq_getElem hlt'] at h1
        simp only [Option.getD_some] at h1 h3
        rw [h3] at h1
        cases h1
      · subst h2
        simp [Array.getD_eq_getD_getElem?, Array.getElem?_setIfInBounds, hL] at h1
    have hK : ∀ a w, Q .normal a w → wpAny P .any (pre ++ [last]).toArray Q fuel ((L.push false).setIfInBounds pre.length true) a w := by
      intro a w hq
      cases fuel with
      | zero => exact ⟨hdone, hq⟩
      | succ fuel => exact ⟨fun _ => hq, by rw [hdone]; simp⟩
    refine wpOp_mono hK ?_
    unfold wpOp
    rw [get_last]
    exact h
  intro fuel
  induction fuel with
  | zero =>
    intro L a w hL h
    refine ⟨fun he => absurd he (hsome L hL), fun i hi => ?_⟩
    rcases hready L hL i hi with ⟨_, h2⟩ | ⟨rfl, h2⟩
    · rw [h.1] at h2; cases h2
    · exact hlast 0 L a w hL h2 h.2
  | succ fuel ih =>
    intro L a w hL h
    refine ⟨fun he => absurd he (hsome L hL), fun i hi => ?_⟩
    rcases hready L hL i hi with ⟨h1, h2⟩ | ⟨rfl, h2⟩
    · refine op_then ok h1 (fun a' w' h' => ?_) (h.2 i h2)
      have := ih (L.setIfInBounds i true) a' w' (by simpa using hL) h'
      rwa [show (L.push false).setIfInBounds i true = (L.setIfInBounds i true).push false from by
        apply Array.ext_getElem?
        intro j
        simp only [Array.getElem?_setIfInBounds, Array.getElem?_push, Array.size_push, Array.size_setIfInBounds]
        by_cases h3 : i = j
        · subst h3
          rw [if_pos rfl, if_pos (by omega), if_neg (by omega), if_pos rfl, if_pos (by omega)]
        · rw [if_neg h3, if_neg h3]]
    · refine hlast (fuel + 1) L a w hL h2 (h.1 ?_)
      rw [List.eq_nil_iff_forall_not_mem]
      intro j hj
      obtain ⟨h3, o, ho, _⟩ := mem_ready.1 hj
      have hlt : j < pre.length := by
        have := (Array.getElem?_eq_some_iff.1 ho).1
        simpa using this
      have h4 := h2 j hlt
      have hlt' : j < L.size := by omega
      simp [Array.getD_eq_getD_getElem?, hlt'] at h3 h4
      rw [h4] at h3
      cases h3

/-- the others in whatever order, S kept; then the last one -/
theorem wp_region_last {id : Nat} {a : Act} {w : World} (hm : P.follows .mixedOrders = true) (hk : lastB pre last = true)
    (h : wpAnyH P .any pre.toArray (thenLast P pre last Q) S pre.length (Array.replicate pre.length false) a w.drew) : (Code.region id (pre ++ [last]).toArray true).wp P Q a w := by
  refine wp_region_any hm ?_
  have := last_any (lastOk_of hk) pre.length (Array.replicate pre.length false) a w.drew (by simp) (wpAny_of_held _ _ _ _ h)
  simpa [Array.replicate_succ] using this

theorem wp_region_tail {id : Nat} {l : List Oper} {a : Act} {w : World} (hm : P.follows .mixedOrders = true) (hl : l.dropLast ++ [last] = l) (hk : lastB l.dropLast last = true) (hS : S w.drew)
    (h : S w.drew → wpAnyH P .any l.dropLast.toArray (thenLast P l.dropLast last Q) S l.dropLast.length (Array.replicate l.dropLast.length false) a w.drew) : (Code.region id l.toArray true).wp P Q a w := by
  have := wp_region_last (id := id) hm hk (h hS)
  rwa [hl] at this

end
end Go.Proofs.Ytmhbfoaecebobaa
end
section
namespace Go.Proofs.Ytmhbfoaecebobaa.Aw
set_option linter.unusedSimpArgs false
set_option linter.unusedVariables false
open Go.RowKit

def lift (N : Nat) (G : Cx) (Q : Exit → Frm → List Ob → Prop) : Exit → Act → World → Prop :=
  fun e a' w' => ∃ G' F' σ', G'.w = w' ∧ G.Step G' ∧ S8 N G' a' F' σ' ∧ Q e F' σ'
theorem lift_mono {N : Nat} {G G1 : Cx} (h : G.Step G1) {Q Q' : Exit → Frm → List Ob → Prop} (hq : ∀ e F σ, Q e F σ → Q' e F σ) {e : Exit} {a : Act} {w : World} (x : lift N G1 Q e a w) : lift N G Q' e a w := by
  obtain ⟨G', F', σ', h1, h2, h3, h4⟩ := x
  exact ⟨G', F', σ', h1, h.trans h2, h3, hq _ _ _ h4⟩

def AWp (P : Program) (N : Nat) (c : Code) (F : Frm) (σ : List Ob) (Q : Exit → Frm → List Ob → Prop) : Prop :=
  ∀ G a, S8 N G a F σ → c.wp P (lift N G Q) a G.w
def AOps (P : Program) (N : Nat) (ops : Array Oper) (l : List Oper) (F : Frm) (σ : List Ob) (Q : Exit → Frm → List Ob → Prop) : Prop :=
  ∀ G a, S8 N G a F σ → wpList P ops (lift N G Q) l a G.w
def AThen (next : Frm → List Ob → Prop) (Q : Exit → Frm → List Ob → Prop) : Exit → Frm → List Ob → Prop
  | .normal, F, σ => next F σ
  | e, F, σ => Q e F σ
def ABlk (id : Nat) (Q : Exit → Frm → List Ob → Prop) : Exit → Frm → List Ob → Prop
  | .exit id', F, σ => if id' = id then Q .normal F σ else Q (.exit id') F σ
  | e, F, σ => Q e F σ

theorem upon_mono {P : Program} {o : Oper} {a : Act} {K K' : Act → World → Prop} {Q Q' : Exit → Act → World → Prop} (hK : ∀ a w, K a w → K' a w) (hQ : ∀ e a w, Q e a w → Q' e a w) {r : Result Next} (h : o.upon P a K Q r) : o.upon P a K' Q' r := by
  have hout : LetsOut Q → LetsOut Q' := fun ⟨a, w, q⟩ => ⟨a, w, hQ _ _ _ q⟩
  cases r with
  | ok n w =>
    cases n <;> simp only [Oper.upon] at h ⊢ <;>
      first
        | exact hK _ _ h
        | exact h.elim
        | exact Calls.mono h (fun e w'' he => by cases e <;> first | exact hK _ _ he | exact hQ _ _ _ he | exact hout he)
        | exact Rows.mono h (fun v w he => hK _ _ he)
  | halt x w => cases x <;> simp only [Oper.upon] at h ⊢ <;> first | exact hQ _ _ _ h | exact h.elim
theorem wpList_mono {P : Program} {ops : Array Oper} {Q Q' : Exit → Act → World → Prop} (hQ : ∀ e a w, Q e a w → Q' e a w) : ∀ (l : List Oper) (a : Act) (w : World), wpList P ops Q l a w → wpList P ops Q' l a w
  | [], a, w, h => hQ _ _ _ h
  | o :: l, a, w, h => by
    unfold wpList at h ⊢
    split
    · rename_i hw
      rw [if_pos hw] at h
      rcases h with h | ⟨h1, a0, w0, h2⟩
      · exact .inl (upon_mono (fun a w x => wpList_mono hQ l a w x) hQ h)
      · exact .inr ⟨h1, a0, w0, hQ _ _ _ h2⟩
    · rename_i hw
      rw [if_neg hw] at h
      exact wpList_mono hQ l _ w h

section
variable {P : Program} {N : Nat} {F : Frm} {σ : List Ob} {Q : Exit → Frm → List Ob → Prop}

theorem aw_seq {x y : Code} (h : AWp P N x F σ (AThen (fun F σ => AWp P N y F σ Q) Q)) : AWp P N (.seq x y) F σ Q := fun G a hs => by
  refine wp_seq (Code.wp_mono (fun e a1 w1 q => ?_) (h G a hs))
  obtain ⟨G', F', σ', rfl, h2, h3, h4⟩ := q
  cases e with
  | normal => exact Code.wp_mono (fun e a w q => lift_mono h2 (fun _ _ _ x => x) q) (h4 G' a1 h3)
  | _ => exact ⟨G', F', σ', rfl, h2, h3, h4⟩
theorem aw_skip (h : Q .normal F σ) : AWp P N .skip F σ Q := fun G a hs => wp_skip ⟨G, F, σ, rfl, .refl G, hs, h⟩
theorem aw_exit {id : Nat} (h : Q (.exit id) F σ) : AWp P N (.exit id) F σ Q := fun G a hs => wp_exit ⟨G, F, σ, rfl, .refl G, hs, h⟩
theorem aw_ret (h : Q .ret F σ) : AWp P N .ret F σ Q := fun G a hs => wp_ret ⟨G, F, σ, rfl, .refl G, hs, h⟩
theorem aw_block {id : Nat} {c : Code} (h : AWp P N c F σ (ABlk id Q)) : AWp P N (.block id c) F σ Q := fun G a hs => by
  refine wp_block (Code.wp_mono (fun e a1 w1 q => ?_) (h G a hs))
  obtain ⟨G', F', σ', rfl, h2, h3, h4⟩ := q
  cases e with
  | exit id' =>
    simp only [ABlk] at h4
    simp only [Exit.inBlock]
    split
    · rename_i e; rw [if_pos e] at h4; exact ⟨G', F', σ', rfl, h2, h3, h4⟩
    · rename_i e; rw [if_neg e] at h4; exact ⟨G', F', σ', rfl, h2, h3, h4⟩
  | _ => exact ⟨G', F', σ', rfl, h2, h3, h4⟩
theorem rep_bool {G : Cx} {a : Act} {y : Operand} {b : Bool} (hf : FOk G a F) (h : F.eval y = .s (.bool b)) : a.eval y = .bool b := by
  have := rep_eval hf y
  rw [h] at this
  generalize a.eval y = v at *
  cases this; rfl
theorem aw_cond {c : Operand} {x y : Code} {b : Bool} (hc : F.eval c = .s (.bool b)) (ht : b = true → AWp P N x F σ Q) (hf : b = false → AWp P N y F σ Q) : AWp P N (.cond c x y) F σ Q := fun G a hs =>
  wp_cond_split (rep_bool hs.fr hc) (fun e => ht e G a hs) (fun e => hf e G a hs)
theorem aw_if {c : Operand} {x y : Code} {p : Prop} [Decidable p] (hc : F.eval c = .s (.bool (decide p))) (ht : p → AWp P N x F σ Q) (hf : ¬ p → AWp P N y F σ Q) : AWp P N (.cond c x y) F σ Q :=
  aw_cond hc (fun e => ht (of_decide_eq_true e)) (fun e => hf (of_decide_eq_false e))
theorem aw_true {c : Operand} {x y : Code} (hc : F.eval c = .s (.bool true)) (ht : AWp P N x F σ Q) : AWp P N (.cond c x y) F σ Q := aw_cond hc (fun _ => ht) (fun e => by cases e)
theorem aw_false {c : Operand} {x y : Code} (hc : F.eval c = .s (.bool false)) (ht : AWp P N y F σ Q) : AWp P N (.cond c x y) F σ Q := aw_cond hc (fun e => by cases e) (fun _ => ht)
theorem aw_loop {c : Code} (I : Nat → Frm → List Ob → Prop) (m : Nat) (h0 : I m F σ)
    (round : ∀ m F σ, I m F σ → AWp P N c F σ (AThen (fun F' σ' => ∃ m', m' < m ∧ I m' F' σ') Q)) : AWp P N (.loop c) F σ Q := fun G a hs => by
  refine wp_loop_ghost (fun n a w => ∃ G' F' σ', G'.w = w ∧ G.Step G' ∧ S8 N G' a F' σ' ∧ I n F' σ') m ⟨G, F, σ, rfl, .refl G, hs, h0⟩ ?_
  rintro n a w ⟨G', F', σ', rfl, h2, h3, h4⟩
  refine Code.wp_mono (fun e a1 w1 q => ?_) (round n F' σ' h4 G' a h3)
  obtain ⟨G2, F2, σ2, rfl, h5, h6, h7⟩ := q
  cases e with
  | normal => obtain ⟨m', hm, hi⟩ := h7; exact ⟨m', hm, ⟨G2, F2, σ2, rfl, h2.trans h5, h6, hi⟩⟩
  | _ => exact ⟨G2, F2, σ2, rfl, h2.trans h5, h6, h7⟩

theorem aw_region {id : Nat} {l : List Oper} (h : AOps P N l.toArray l F σ Q) : AWp P N (.region id l.toArray false) F σ Q := fun G a hs => wp_region_lit (h G a hs)
theorem aw_mono {c : Code} {Q' : Exit → Frm → List Ob → Prop} (h : AWp P N c F σ Q) (hq : ∀ e F σ, Q e F σ → Q' e F σ) : AWp P N c F σ Q' := fun G a hs =>
  Code.wp_mono (fun e a w q => lift_mono (.refl G) hq q) (h G a hs)

/-- the same state, known less -/
def Weak (N : Nat) (F : Frm) (σ : List Ob) (F' : Frm) (σ' : List Ob) : Prop := ∀ G a, S8 N G a F σ → ∃ G', G'.w = G.w ∧ G.Step G' ∧ S8 N G' a F' σ'
theorem Weak.refl : Weak N F σ F σ := fun G a h => ⟨G, rfl, .refl G, h⟩
theorem Weak.trans {F1 F2 : Frm} {σ1 σ2 : List Ob} (h : Weak N F σ F1 σ1) (k : Weak N F1 σ1 F2 σ2) : Weak N F σ F2 σ2 := fun G a hs => by
  obtain ⟨G1, e1, s1, h1⟩ := h G a hs
  obtain ⟨G2, e2, s2, h2⟩ := k G1 a h1
  exact ⟨G2, e2.trans e1, s1.trans s2, h2⟩
theorem aw_weak {c : Code} {F' : Frm} {σ' : List Ob} (w : Weak N F σ F' σ') (h : AWp P N c F' σ' Q) : AWp P N c F σ Q := fun G a hs => by
  obtain ⟨G1, e1, s1, h1⟩ := w G a hs
  rw [← e1]
  exact Code.wp_mono (fun e a w q => lift_mono s1 (fun _ _ _ x => x) q) (h G1 a h1)
theorem aops_weak {ops : Array Oper} {l : List Oper} {F' : Frm} {σ' : List Ob} (w : Weak N F σ F' σ') (h : AOps P N ops l F' σ' Q) : AOps P N ops l F σ Q := fun G a hs => by
  obtain ⟨G1, e1, s1, h1⟩ := w G a hs
  rw [← e1]
  exact wpList_mono (fun e a w q => lift_mono s1 (fun _ _ _ x => x) q) _ _ _ (h G1 a h1)
end

/-- what an operation does: its value, and what becomes of the call's own things -/
def Does (P : Program) (o : Oper) (F : Frm) (σ : List Ob) (x : AV) (σ' : List Ob) : Prop :=
  ∀ (G : Cx) (a : Act) (next : Act → World → Prop) (Q : Exit → Act → World → Prop), Rel G σ → (∀ y ∈ o.op.operands, Rep G (a.eval y) (F.eval y)) →
    (∀ v G', G.Ext G' → Rel G' σ' → Rep G' v x → next (a.put o.dst v) G'.w) → o.wp P a G.w next Q

theorem S8.step {N : Nat} {G G' : Cx} {a : Act} {F : Frm} {σ σ' : List Ob} (h : S8 N G a F σ) (e : G.Ext G') (r : Rel G' σ') : S8 N G' a F σ' := ⟨r, h.fr.ext e, h.df, h.nt⟩
theorem S8.put {N : Nat} {G : Cx} {a : Act} {F : Frm} {σ : List Ob} {d : Nat} {v : Value} {x : AV} (h : S8 N G a F σ) (hd : d < N) (hv : Rep G v x) : S8 N G (a.put (some d) v) ((d, x) :: F) σ :=
  ⟨h.rel, h.fr.put (by rw [h.nt]; exact hd) hv, h.df, by simp [Act.put, h.nt]⟩

/-- whether the guard lets it run -/
def Runs (ops : Array Oper) (F : Frm) (o : Oper) (b : Bool) : Prop :=
  match o.guard with
  | none => b = true
  | some (j, want) => ∃ t, (ops[j]?).bind (·.dst) = some t ∧ ((∃ c, F.get t = .s (.bool c) ∧ b = (c == want)) ∨ (F.get t = .s undef ∧ b = false))
theorem runs_none {ops : Array Oper} {F : Frm} {o : Oper} (h : o.guard = none) : Runs ops F o true := by simp [Runs, h]
theorem runs_some {ops : Array Oper} {F : Frm} {o : Oper} {j : Nat} {want c : Bool} {t : Nat} (h : o.guard = some (j, want)) (hd : (ops[j]?).bind (·.dst) = some t) (hc : F.get t = .s (.bool c)) : Runs ops F o (c == want) := by
  simp only [Runs, h]
  exact ⟨t, hd, .inl ⟨c, hc, rfl⟩⟩
theorem runs_nu {ops : Array Oper} {F : Frm} {o : Oper} {j : Nat} {want : Bool} {t : Nat} (h : o.guard = some (j, want)) (hd : (ops[j]?).bind (·.dst) = some t) (hc : F.get t = .s undef) : Runs ops F o false := by
  simp only [Runs, h]
  exact ⟨t, hd, .inr ⟨hc, trivial⟩⟩
theorem Runs.wanted {ops : Array Oper} {F : Frm} {o : Oper} {b : Bool} {G : Cx} {a : Act} (h : Runs ops F o b) (hf : FOk G a F) : Region.wanted o (yielded ops a.tmps) = b := by
  unfold Runs at h
  unfold Region.wanted
  cases hg : o.guard with
  | none => rw [hg] at h; exact h.symm
  | some jb =>
    obtain ⟨j, want⟩ := jb
    rw [hg] at h
    obtain ⟨t, h1, ⟨c, h2, rfl⟩ | ⟨h2, rfl⟩⟩ := h
    case inr =>
      simp only
      have h3 := hf t
      rw [h2] at h3
      have h5 : a.tmps.getD t undef = undef := by generalize a.tmps.getD t undef = v at *; cases h3; rfl
      rw [Array.getD_eq_getD_getElem?] at h5
      cases h6 : a.tmps[t]? with
      | none => simp [yielded, h1, h6]
      | some u =>
        rw [h6] at h5
        simp only [Option.getD_some] at h5
        subst h5
        simp [yielded, h1, h6, undef]
    simp only
    have h3 := hf t
    rw [h2] at h3
    have h4 : a.tmps[t]? = some (.bool c) := by
      have h5 : a.tmps.getD t undef = .bool c := by generalize a.tmps.getD t undef = v at *; cases h3; rfl
      rw [Array.getD_eq_getD_getElem?] at h5
      cases h6 : a.tmps[t]? with
      | none => rw [h6] at h5; simp [undef] at h5
      | some u => rw [h6] at h5; simpa using h5
    simp [yielded, h1, h4]

section
variable {P : Program} {N : Nat} {F : Frm} {σ σ' : List Ob} {Q : Exit → Frm → List Ob → Prop} {ops : Array Oper} {o : Oper} {l : List Oper} {x : AV}

theorem ops_nil (h : Q .normal F σ) : AOps P N ops [] F σ Q := fun G a hs => ⟨G, F, σ, rfl, .refl G, hs, h⟩
theorem ops_op {d : Nat} (hd : o.dst = some d) (hN : Nat.blt d N = true) (hr : Runs ops F o true) (hD : Does P o F σ x σ') (k : AOps P N ops l ((d, x) :: F) σ' Q) : AOps P N ops (o :: l) F σ Q := fun G a hs => by
  unfold wpList
  rw [if_pos (hr.wanted hs.fr)]
  left
  refine hD G a _ _ hs.rel (fun y _ => rep_eval hs.fr y) (fun v G' e r hv => ?_)
  rw [hd]
  exact wpList_mono (fun e' a w q => lift_mono e.step (fun _ _ _ x => x) q) _ _ _ (k G' _ ((hs.step e r).put (by simpa [Nat.blt_eq] using hN) hv))
theorem ops_eff (hd : o.dst = none) (hr : Runs ops F o true) (hD : Does P o F σ x σ') (k : AOps P N ops l F σ' Q) : AOps P N ops (o :: l) F σ Q := fun G a hs => by
  unfold wpList
  rw [if_pos (hr.wanted hs.fr)]
  left
  refine hD G a _ _ hs.rel (fun y _ => rep_eval hs.fr y) (fun v G' e r hv => ?_)
  rw [hd]
  exact wpList_mono (fun e' a w q => lift_mono e.step (fun _ _ _ x => x) q) _ _ _ (k G' _ (hs.step e r))
theorem ops_skip {d : Nat} (hd : o.dst = some d) (hN : Nat.blt d N = true) (hr : Runs ops F o false) (k : AOps P N ops l ((d, .s undef) :: F) σ Q) : AOps P N ops (o :: l) F σ Q := fun G a hs => by
  unfold wpList
  rw [if_neg (by rw [hr.wanted hs.fr]; simp)]
  rw [hd]
  exact k G _ (hs.put (by simpa [Nat.blt_eq] using hN) (.s _))
theorem ops_skip0 (hd : o.dst = none) (hr : Runs ops F o false) (k : AOps P N ops l F σ Q) : AOps P N ops (o :: l) F σ Q := fun G a hs => by
  unfold wpList
  rw [if_neg (by rw [hr.wanted hs.fr]; simp)]
  rw [hd]
  exact k G _ hs
end
end Go.Proofs.Ytmhbfoaecebobaa.Aw
end
