import Derived.WalkKit
import Derived.Laws.AppendOwn
import Derived.Orders
import Derived.Maps.Own
import Derived.Maps.Views
import Derived.Test.YtllkbjcemecmjaaGreatProg
import Derived.WalkSpells
import Derived.WalkLawsBesides
import Derived.Deep.QuietTactic
import Derived.BigQuiet
import Derived.Lib.Hide
import Derived.Deep.RegionHeld3
import Derived.Deep.LoopGhost
import Derived.Deep.DeepCutAuto
import Derived.IntWalk
import Derived.Lib.Strings
import Derived.Laws.MakeOwn
import Derived.Laws.CopyRow
set_option linter.unusedSimpArgs false
set_option linter.unusedVariables false
set_option linter.unusedSectionVars false
namespace Go.Proofs.YtllkbjcemecmjaaGreat
theorem xa {p : Prop} (h : p := by repeat' (first | exact Lo.s _ | exact zak | refine zah ?_ ?_ | refine zan ?_ | refine Lo.agg _ ?_ | refine Lo.sl _ ?_ | intro _)) : p := h
theorem xb {p : Prop} (h : p := by repeat' (first | exact Lo.s _ | exact zaz | refine zaw ?_ ?_ | refine zav ?_ | refine Lo.cells ?_ | refine Lo.agg _ ?_ | exact zak | refine zah ?_ ?_ | intro _)) : p := h
theorem xc {p : Prop} (h : p := by repeat' (first | exact Lo.s _ | exact zak | refine zah ?_ ?_ | refine zan ?_ | refine Lo.cells ?_ | refine Lo.agg _ ?_ | refine Lo.ref _ ?_ | refine Lo.tup _ ?_ | refine Lo.fn _ _ ?_ | refine Lo.sl _ ?_ | intro _)) : p := h
theorem xd {p : Prop} (h : p := by omega) : p := h
theorem xe {p : Prop} (h : p := by first | exact .own _ _ _ rfl rfl _ (by first | rfl | simp) | exact .emp | exact .nil | exact .sl _ (by first | simp; done | intro e he; simp at he; obtain ⟨_, _, rfl⟩ := he; rfl)) : p := h
theorem xf {p : Prop} (h : p := by decide) : p := h
theorem xg {p : Prop} (h : p := by first | omega | (simp; omega) | (unfold maxLen; simp; omega)) : p := h
theorem xh {p : Prop} (h : p := by first | simp; done | intro e he; simp at he; obtain ⟨_, _, rfl⟩ := he; rfl) : p := h
theorem xi {p : Prop} (h : p := by kernel_rfl) : p := h
theorem xj {p : Prop} (h : p := by repeat' (first | exact Lo.s _ | exact zak | exact zaz | refine zah ?_ ?_ | refine zaw ?_ ?_ | refine zan ?_ | refine zav ?_ | refine Lo.cells ?_ | refine Lo.agg _ ?_ | refine Lo.sl _ ?_ | intro _)) : p := h
theorem xk {p : Prop} (h : p := by first | rfl | (simp; done) | (simp; omega)) : p := h
theorem xl {p : Prop} (h : p := by first | omega | (simp; done) | (simp; omega)) : p := h
theorem xm {p : Prop} (h : p := by repeat' (first | exact Flat.s _ | exact flat_nil | refine flat_cons ?_ ?_ | refine Flat.agg ?_ | refine Flat.tup ?_)) : p := h
theorem xo {p : Prop} (h : p := by simp) : p := h
theorem xp {p : Prop} (h : p := by first | rfl | simp) : p := h
theorem xq {p : Prop} (h : p := by repeat' (first | exact zbd.nil | refine zbd.cons ?_ ?_ | exact .own _ _ _ _ _ rfl rfl (by first | rfl | simp) | exact .refl _)) : p := h
end Go.Proofs.YtllkbjcemecmjaaGreat
section
namespace Go.Proofs.YtllkbjcemecmjaaGreat.Aw
open Go.RowKit
inductive AV where
 | any
 | s (v : Value)
 | agg (cs : List AV)
 | sl (l : List AV)
 | emp
 | ref (cs : List AV)
 | own (id sz n : Nat)
 | ptr (id sz k j : Nat)
 | fn (f : FuncId) (cs : List AV)
 | tup (l : List AV)
 | mp (id : Nat)
 | sub (id sz o n : Nat)
def AV.cells : AV → List AV
 | .agg cs => cs
 | x => [x]
def AV.one : AV → Bool
 | .s v => v.oneCell'
 | .any | .agg _ | .tup _ => false
 | _ => true
structure MapX where
 P : Program
 kt : TypeId
 el : TypeId
 n : Nat
 D : DataW Unit
def MapX.At (X : MapX) (w : World) (b : Nat) : Prop := w.ownsMap X.P X.kt (plainElem X.P X.el) b X.n X.D
theorem MapX.At.keep {X : MapX} {w w' : World} {b : Nat} (h : X.At w b) (hb : w'.heap[b]? = w.heap[b]?) : X.At w' b := by
 obtain ⟨es, clock, h1, F, hs, hD⟩ := h
 exact ⟨es, clock, hb.trans h1, F, hs, hD⟩
theorem MapX.At.map {X : MapX} {w : World} {b : Nat} (h : X.At w b) : ∃ es clock, w.heap[b]? = some (.map es clock) := by
 obtain ⟨es, clock, h1, _⟩ := h
 exact ⟨es, clock, h1⟩
theorem MapX.At.lt {X : MapX} {w : World} {b : Nat} (h : X.At w b) : b < w.heap.size := by
 obtain ⟨es, clock, h1⟩ := h.map
 exact (Array.getElem?_eq_some_iff.1 h1).1
inductive Ob where
 | dead
 | row (sz : Nat) (cs : List AV)
 | fz (sz : Nat) (cs : List AV)
 | mp (X : MapX)
structure Cx where
 base : Nat
 w0 : World
 w : World
 mu : Nat → Option (Option Nat)
 St : Nat → Nat → Prop
 Pr : Nat → Nat → Prop := fun _ _ => False
def Cx.SP (G : Cx) (b o : Nat) : Prop := G.St b o ∨ G.Pr b o
inductive Rep (G : Cx) : Value → AV → Prop
 | any (v : Value) : Rep G v .any
 | s (v : Value) : Rep G v (.s v)
 |
  agg (vs : Array Value) (cs : List AV) (hl : vs.size = cs.length) (h1 : ∀ c ∈ cs, c.one = true)
   (h : ∀ (j : Nat) v c, vs[j]? = some v → cs[j]? = some c → Rep G v c) : Rep G (.agg vs) (.agg cs)
 | emp (A : Option Addr) (hA : ∀ a, A = some a → a.spot = none) : Rep G (.slice A 0 0) .emp
 | slnil (A : Option Addr) (cap : Nat) : Rep G (.slice A 0 cap) (.sl [])
 |
  sl (b o cap sz : Nat) (l : List AV) (val : Nat → Nat → Value) (hc : l.length ≤ cap) (hm : l.length ≤ maxLen)
   (h1 : ∀ (k : Nat) e, l[k]? = some e → e.cells.length = sz ∧ ∀ c ∈ e.cells, c.one = true)
   (h2 : ∀ (k : Nat) e (j : Nat) c, l[k]? = some e → e.cells[j]? = some c → G.St b (o + k * sz + j) ∧ G.w.cell? ⟨b, o + k * sz + j, none⟩ = some (val k j))
   (h : ∀ (k : Nat) e (j : Nat) c, l[k]? = some e → e.cells[j]? = some c → Rep G (val k j) c) : Rep G (.slice (some ⟨b, o, none⟩) l.length cap) (.sl l)
 |
  ref (b o : Nat) (cs : List AV) (val : Nat → Value) (h1 : ∀ c ∈ cs, c.one = true)
   (h2 : ∀ (j : Nat) c, cs[j]? = some c → G.St b (o + j) ∧ G.w.cell? ⟨b, o + j, none⟩ = some (val j))
   (h : ∀ (j : Nat) c, cs[j]? = some c → Rep G (val j) c) : Rep G (.pointer (some ⟨b, o, none⟩)) (.ref cs)
 | own0 (id sz : Nat) (A : Option Addr) (hA : ∀ a, A = some a → a.spot = none) (hm : G.mu id = some none) : Rep G (.slice A 0 0) (.own id sz 0)
 |
  own (id sz n b cap : Nat) (hm : G.mu id = some (some b)) (hn : n ≤ cap) (hc : cap ≤ maxLen)
   (hb : ∃ (cur : Array Value) (e : TypeId) (f : Nat × Nat), G.w.heap[b]? = some (Obj.cells cur e f) ∧ cur.size = cap * sz) : Rep G (.slice (some ⟨b, 0, none⟩) n cap) (.own id sz n)
 | ptr (id sz k j b : Nat) (hm : G.mu id = some (some b)) : Rep G (.pointer (some ⟨b, k * sz + j, none⟩)) (.ptr id sz k j)
 | fn (f : FuncId) (vs : Array Value) (cs : List AV) (hl : vs.size = cs.length) (h : ∀ (j : Nat) v c, vs[j]? = some v → cs[j]? = some c → Rep G v c) : Rep G (.func (.func f) #[] vs) (.fn f cs)
 | tup (vs : Array Value) (l : List AV) (hl : vs.size = l.length) (h : ∀ (j : Nat) v c, vs[j]? = some v → l[j]? = some c → Rep G v c) : Rep G (.tuple vs) (.tup l)
 | mp (id b : Nat) (hm : G.mu id = some (some b)) : Rep G (.map (some b)) (.mp id)
 |
  sub (id sz o n b cap : Nat) (A : Option Addr) (hm : G.mu id = some (some b)) (hA : 0 < n → A = some ⟨b, o * sz, none⟩)
   (hc : n ≤ cap ∧ cap ≤ maxLen ∧ ∃ (cur : Array Value) (e : TypeId) (f : Nat × Nat), G.w.heap[b]? = some (Obj.cells cur e f) ∧ (o + cap) * sz ≤ cur.size) : Rep G (.slice A n cap) (.sub id sz o n)
theorem Rep.one {G : Cx} {v : Value} {x : AV} (h : Rep G v x) (hx : x.one = true) : v.oneCell' = true := by
 cases h with
 | s => exact hx
 | any => simp [AV.one] at hx
 | agg => simp [AV.one] at hx
 | tup => simp [AV.one] at hx
 | _ => rfl
def zcc (w w' : World) : Prop := ∀ (b : Nat) (cur : Array Value) (e : TypeId) (f : Nat × Nat), w.heap[b]? = some (Obj.cells cur e f) → ∃ cur' : Array Value, w'.heap[b]? = some (Obj.cells cur' e f) ∧ cur'.size = cur.size
theorem zcc.refl (w : World) : zcc w w := fun _ cur _ _ h => ⟨cur, h, rfl⟩
theorem zcc.trans {a b c : World} (h : zcc a b) (k : zcc b c) : zcc a c := fun i cur e f x => by
 obtain ⟨c1, h1, s1⟩ := h i cur e f x
 obtain ⟨c2, h2, s2⟩ := k i c1 e f h1
 exact ⟨c2, h2, s2.trans s1⟩
structure Cx.Ext (G G' : Cx) : Prop where
 base : G'.base = G.base
 w0 : G'.w0 = G.w0
 st : ∀ b o, G.St b o → G'.St b o
 cell : ∀ b o, G.SP b o → G'.w.cell? ⟨b, o, none⟩ = G.w.cell? ⟨b, o, none⟩
 mu : ∀ id x, G.mu id = some x → G'.mu id = some x
 size : G.w.heap.size ≤ G'.w.heap.size
 rows : zcc G.w G'.w
 stN : ∀ b o, G'.St b o → G.St b o ∨ G.base ≤ b
 pr : G'.Pr = G.Pr
 prN : ∀ b o, G'.St b o → G.St b o ∨ ¬ G.Pr b o
theorem Cx.Ext.refl (G : Cx) : G.Ext G := ⟨rfl, rfl, fun _ _ h => h, fun _ _ _ => rfl, fun _ _ h => h, Nat.le_refl _, zcc.refl _, fun _ _ h => .inl h, rfl, fun _ _ h => .inl h⟩
theorem Cx.Ext.trans {G H K : Cx} (h : G.Ext H) (k : H.Ext K) : G.Ext K :=
 ⟨k.base.trans h.base, k.w0.trans h.w0, fun b o x => k.st b o (h.st b o x), fun b o x => (k.cell b o (x.imp (h.st b o) (fun y => by rw [h.pr]; exact y))).trans (h.cell b o x), fun id x e => k.mu id x (h.mu id x e), Nat.le_trans h.size k.size,
  h.rows.trans k.rows, fun b o x => by
  rcases k.stN b o x with h1 | h1
  ·
   exact h.stN b o h1
  ·
   right; rw [← h.base]; exact h1, k.pr.trans h.pr, fun b o x => by
  rcases k.prN b o x with h1 | h1
  ·
   exact h.prN b o h1
  ·
   right; rw [← h.pr]; exact h1⟩
theorem Rep.ext {G G' : Cx} {v : Value} {x : AV} (h : Rep G v x) (e : G.Ext G') : Rep G' v x := by
 induction h with
 | any v => exact .any v
 | s v => exact .s v
 | agg vs cs hl h1 _ ih => exact .agg vs cs hl h1 ih
 | emp A hA => exact .emp A hA
 | slnil A cap => exact .slnil A cap
 | sl b o cap sz l val hc hm h1 h2 _ ih => exact .sl b o cap sz l val hc hm h1 (fun k x j c hk hj => ⟨e.st _ _ (h2 k x j c hk hj).1, (e.cell _ _ (.inl (h2 k x j c hk hj).1)).trans (h2 k x j c hk hj).2⟩) ih
 | ref b o cs val h1 h2 _ ih => exact .ref b o cs val h1 (fun j c hj => ⟨e.st _ _ (h2 j c hj).1, (e.cell _ _ (.inl (h2 j c hj).1)).trans (h2 j c hj).2⟩) ih
 | own0 id sz A hA hm => exact .own0 id sz A hA (e.mu _ _ hm)
 | own id sz n b cap hm hn hc hb =>
  obtain ⟨cur, t, f, h1, h2⟩ := hb
  obtain ⟨cur', h3, h4⟩ := e.rows _ _ _ _ h1
  exact .own id sz n b cap (e.mu _ _ hm) hn hc ⟨cur', t, f, h3, h4.trans h2⟩
 | ptr id sz k j b hm => exact .ptr id sz k j b (e.mu _ _ hm)
 | fn f vs cs hl _ ih => exact .fn f vs cs hl ih
 | tup vs l hl _ ih => exact .tup vs l hl ih
 | mp id b hm => exact .mp id b (e.mu _ _ hm)
 | sub id sz o n b cap A hm hA hc =>
  obtain ⟨g1, g2, cur, t, f, h1, h2⟩ := hc
  obtain ⟨cur', h3, h4⟩ := e.rows _ _ _ _ h1
  exact .sub id sz o n b cap A (e.mu _ _ hm) hA ⟨g1, g2, cur', t, f, h3, by rw [h4]; exact h2⟩
inductive Lo (k : Nat) : AV → Prop
 | any : Lo k .any
 | s (v : Value) : Lo k (.s v)
 | agg (cs : List AV) (h : ∀ c ∈ cs, Lo k c) : Lo k (.agg cs)
 | emp : Lo k .emp
 | sl (l : List AV) (h : ∀ c ∈ l, Lo k c) : Lo k (.sl l)
 | ref (cs : List AV) (h : ∀ c ∈ cs, Lo k c) : Lo k (.ref cs)
 | own (id sz n : Nat) (h : id < k) : Lo k (.own id sz n)
 | ptr (id sz i j : Nat) (h : id < k) : Lo k (.ptr id sz i j)
 | fn (f : FuncId) (cs : List AV) (h : ∀ c ∈ cs, Lo k c) : Lo k (.fn f cs)
 | tup (l : List AV) (h : ∀ c ∈ l, Lo k c) : Lo k (.tup l)
 | mp (id : Nat) (h : id < k) : Lo k (.mp id)
 | sub (id sz o n : Nat) (h : id < k) : Lo k (.sub id sz o n)
theorem Lo.cells {k : Nat} {x : AV} (h : Lo k x) : ∀ c ∈ x.cells, Lo k c := by
 cases h with
 | agg cs h => exact h
 | any => intro c hc; simp [AV.cells] at hc; subst hc; exact .any
 | s v => intro c hc; simp [AV.cells] at hc; subst hc; exact .s v
 | emp => intro c hc; simp [AV.cells] at hc; subst hc; exact .emp
 | sl l h => intro c hc; simp [AV.cells] at hc; subst hc; exact .sl l h
 | ref l h => intro c hc; simp [AV.cells] at hc; subst hc; exact .ref l h
 | own id sz n h => intro c hc; simp [AV.cells] at hc; subst hc; exact .own id sz n h
 | ptr id sz i j h => intro c hc; simp [AV.cells] at hc; subst hc; exact .ptr id sz i j h
 | fn f l h => intro c hc; simp [AV.cells] at hc; subst hc; exact .fn f l h
 | tup l h => intro c hc; simp [AV.cells] at hc; subst hc; exact .tup l h
 | mp id h => intro c hc; simp [AV.cells] at hc; subst hc; exact .mp id h
 | sub id sz o n h => intro c hc; simp [AV.cells] at hc; subst hc; exact .sub id sz o n h
theorem Rep.low {G G' : Cx} {k : Nat} {v : Value} {x : AV} (h : Rep G v x) (hx : Lo k x) (hst : ∀ b o, G.St b o → G'.St b o) (hc : ∀ b o, G.St b o → G'.w.cell? ⟨b, o, none⟩ = G.w.cell? ⟨b, o, none⟩)
  (hmu : ∀ id y, id < k → G.mu id = some y → G'.mu id = some y) (hr : 0 < k → zcc G.w G'.w) : Rep G' v x := by
 induction h with
 | any v => exact .any v
 | s v => exact .s v
 | agg vs cs hl h1 _ ih => cases hx with | agg _ hx => exact .agg vs cs hl h1 (fun j v c a b => ih j v c a b (hx c (List.mem_of_getElem? b)))
 | emp A hA => exact .emp A hA
 | slnil A cap => exact .slnil A cap
 | sl b o cap sz l val hcp hm h1 h2 _ ih => cases hx with | sl _ hx => exact .sl b o cap sz l val hcp hm h1 (fun k x j c hk hj => ⟨hst _ _ (h2 k x j c hk hj).1, (hc _ _ (h2 k x j c hk hj).1).trans (h2 k x j c hk hj).2⟩) (fun k x j c hk hj => ih k x j c hk hj ((hx x (List.mem_of_getElem? hk)).cells c (List.mem_of_getElem? hj)))
 | ref b o cs val h1 h2 _ ih => cases hx with | ref _ hx => exact .ref b o cs val h1 (fun j c hj => ⟨hst _ _ (h2 j c hj).1, (hc _ _ (h2 j c hj).1).trans (h2 j c hj).2⟩) (fun j c hj => ih j c hj (hx c (List.mem_of_getElem? hj)))
 | own0 id sz A hA hm => cases hx with | own _ _ _ hx => exact .own0 id sz A hA (hmu _ _ hx hm)
 | own id sz n b cap hm hn hcp hb =>
  cases hx with
  | own _ _ _ hx =>
   obtain ⟨cur, t, f, h1, h2⟩ := hb
   obtain ⟨cur', h3, h4⟩ := hr xd _ _ _ _ h1
   exact .own id sz n b cap (hmu _ _ hx hm) hn hcp ⟨cur', t, f, h3, h4.trans h2⟩
 | ptr id sz i j b hm => cases hx with | ptr _ _ _ _ hx => exact .ptr id sz i j b (hmu _ _ hx hm)
 | fn f vs cs hl _ ih => cases hx with | fn _ _ hx => exact .fn f vs cs hl (fun j v c a b => ih j v c a b (hx c (List.mem_of_getElem? b)))
 | tup vs l hl _ ih => cases hx with | tup _ hx => exact .tup vs l hl (fun j v c a b => ih j v c a b (hx c (List.mem_of_getElem? b)))
 | mp id b hm => cases hx with | mp _ hx => exact .mp id b (hmu _ _ hx hm)
 | sub id sz o n b cap A hm hA hc =>
  cases hx with
  | sub _ _ _ _ hx =>
   obtain ⟨g1, g2, cur, t, f, h1, h2⟩ := hc
   obtain ⟨cur', h3, h4⟩ := hr xd _ _ _ _ h1
   exact .sub id sz o n b cap A (hmu _ _ hx hm) hA ⟨g1, g2, cur', t, f, h3, by rw [h4]; exact h2⟩
def RowAt (G : Cx) (b sz : Nat) (cs : List AV) (f : Nat × Nat → Prop) : Prop :=
 ∃ (cur : Array Value) (e : TypeId) (fr : Nat × Nat), G.w.heap[b]? = some (Obj.cells cur e fr) ∧ f fr ∧ cs.length * sz ≤ cur.size ∧
  ∀ (k : Nat) e, cs[k]? = some e → e.cells.length = sz ∧ (∀ c ∈ e.cells, c.one = true) ∧ ∀ (j : Nat) c, e.cells[j]? = some c → ∃ v, cur[k * sz + j]? = some v ∧ Rep G v c
def ObOk (G : Cx) (id : Nat) : Ob → Prop
 | .dead => ∀ b, G.mu id = some (some b) → b < G.w.heap.size
 | .row sz cs => match G.mu id with
  | none => False
  | some none => cs = []
  | some (some b) => RowAt G b sz cs (· = (0, 0)) ∧ G.base ≤ b ∧ ∀ o, ¬ G.SP b o
 | .fz sz cs => match G.mu id with
  | none => False
  | some none => cs = []
  | some (some b) => RowAt G b sz cs (fun _ => True) ∧ ∀ (k : Nat) e (j : Nat), cs[k]? = some e → j < e.cells.length → G.St b (k * sz + j)
 | .mp X => ∃ b, G.mu id = some (some b) ∧ X.At G.w b ∧ G.base ≤ b ∧ (∀ o, ¬ G.SP b o) ∧ ∀ j, G.mu j = some (some b) → j = id
theorem ObOk.lt {G : Cx} {id b : Nat} {ob : Ob} (h : ObOk G id ob) (hm : G.mu id = some (some b)) : b < G.w.heap.size := by
 cases ob with
 | dead => exact h b hm
 | row sz cs =>
  simp only [ObOk, hm] at h
  obtain ⟨⟨cur, e, fr, h1, _⟩, _⟩ := h
  exact (Array.getElem?_eq_some_iff.1 h1).1
 | fz sz cs =>
  simp only [ObOk, hm] at h
  obtain ⟨⟨cur, e, fr, h1, _⟩, _⟩ := h
  exact (Array.getElem?_eq_some_iff.1 h1).1
 | mp X =>
  obtain ⟨b', h1, h2, _⟩ := h
  rw [hm] at h1
  cases h1
  exact h2.lt
def alive (σ : List Ob) (i : Nat) : Prop := ∃ sz cs, σ[i]? = some (.row sz cs)
structure TabP (w : World) : Prop where
def TabB (b : Nat) : Prop := True
theorem TabP.keep {b : Nat} {w w' : World} (h : TabP w) (hb : TabB b) (k : Below b w w') : TabP w' := ⟨⟩
theorem TabP.lt {w : World} (h : TabP w) : TabB w.heap.size := trivial
structure BelowT (b : Nat) (w0 w : World) : Prop extends Below b w0 w where
 tab : TabP w0
 tb : TabB b
theorem BelowT.trans {b : Nat} {w0 w w' : World} (h : BelowT b w0 w) (k : Below b w w') : BelowT b w0 w' := ⟨h.toBelow.trans k, h.tab, h.tb⟩
theorem BelowT.drew {b : Nat} {w0 w : World} (h : BelowT b w0 w) : BelowT b w0 w.drew := ⟨h.toBelow.drew, h.tab, h.tb⟩
theorem BelowT.alloc {b : Nat} {w0 w : World} (h : BelowT b w0 w) (hb : b ≤ w.heap.size) (x : Obj) : BelowT b w0 (w.alloc x) := ⟨h.toBelow.alloc hb x, h.tab, h.tb⟩
theorem BelowT.now {b : Nat} {w0 w : World} (h : BelowT b w0 w) : TabP w := h.tab.keep h.tb h.toBelow
instance {b : Nat} {w0 w : World} : Coe (BelowT b w0 w) (Below b w0 w) := ⟨BelowT.toBelow⟩
structure StT (St : Nat → Nat → Prop) (w : World) : Prop where
 st : ∀ b o, St b o → b < w.heap.size
 tab : TabP w
instance {St : Nat → Nat → Prop} {w : World} : CoeFun (StT St w) (fun _ => ∀ b o, St b o → b < w.heap.size) := ⟨StT.st⟩
instance {St : Nat → Nat → Prop} {w : World} : Coe (StT St w) (∀ b o, St b o → b < w.heap.size) := ⟨StT.st⟩
structure Rel (G : Cx) (σ : List Ob) : Prop where
 below : BelowT G.base G.w0 G.w
 le : G.base ≤ G.w0.heap.size
 st : ∀ b o, G.SP b o → b < G.w.heap.size
 obs : ∀ id ob, σ[id]? = some ob → ObOk G id ob
 inj : ∀ i j b, alive σ i → alive σ j → G.mu i = some (some b) → G.mu j = some (some b) → i = j
 fresh : ∀ id, σ.length ≤ id → G.mu id = none
abbrev Frm := List (Nat × AV)
def Frm.get : Frm → Nat → AV
 | [], _ => .any
 | (d, x) :: F, t => bif Nat.beq d t then x else Frm.get F t
def ofValue : Value → AV
 | .agg cs => bif cs.toList.all (·.oneCell') then .agg (cs.toList.map .s) else .any
 | v => .s v
def Frm.eval (F : Frm) : Operand → AV
 | .tmp t => F.get t
 | .const v => ofValue v
 | .global _ => .any
 | .func f => .fn f []
def FOk (G : Cx) (a : Act) (F : Frm) : Prop := ∀ d, Rep G (a.tmps.getD d undef) (F.get d)
structure S8 (N : Nat) (G : Cx) (a : Act) (F : Frm) (σ : List Ob) : Prop where
 rel : Rel G σ
 fr : FOk G a F
 df : a.defers = []
 nt : a.tmps.size = N
structure Cx.Step (G G' : Cx) : Prop where
 base : G'.base = G.base
 w0 : G'.w0 = G.w0
 st : ∀ b o, G.St b o → G'.St b o
 cell : ∀ b o, G.SP b o → G'.w.cell? ⟨b, o, none⟩ = G.w.cell? ⟨b, o, none⟩
 stN : ∀ b o, G'.St b o → G.St b o ∨ G.base ≤ b
 pr : G'.Pr = G.Pr
 prN : ∀ b o, G'.St b o → G.St b o ∨ ¬ G.Pr b o
theorem Cx.Step.refl (G : Cx) : G.Step G := ⟨rfl, rfl, fun _ _ h => h, fun _ _ _ => rfl, fun _ _ h => .inl h, rfl, fun _ _ h => .inl h⟩
theorem Cx.Step.trans {G H K : Cx} (h : G.Step H) (k : H.Step K) : G.Step K :=
 ⟨k.base.trans h.base, k.w0.trans h.w0, fun b o x => k.st b o (h.st b o x), fun b o x => (k.cell b o (x.imp (h.st b o) (fun y => by rw [h.pr]; exact y))).trans (h.cell b o x), fun b o x => by
  rcases k.stN b o x with h1 | h1
  ·
   exact h.stN b o h1
  ·
   right; rw [← h.base]; exact h1, k.pr.trans h.pr, fun b o x => by
  rcases k.prN b o x with h1 | h1
  ·
   exact h.prN b o h1
  ·
   right; rw [← h.pr]; exact h1⟩
theorem Cx.Ext.step {G G' : Cx} (e : G.Ext G') : G.Step G' := ⟨e.base, e.w0, e.st, e.cell, e.stN, e.pr, e.prN⟩
theorem rep_const (G : Cx) (v : Value) : Rep G v (ofValue v) := by
 cases v with
 | agg cs =>
  simp only [ofValue]
  cases h1 : cs.toList.all (·.oneCell') with
  | false => exact .any _
  | true =>
   refine .agg _ _ xo (fun c hc => ?_) (fun j v c hv hc => ?_)
   ·
    obtain ⟨u, hu, rfl⟩ := List.mem_map.1 hc
    exact List.all_eq_true.1 h1 u hu
   ·
    simp only [List.getElem?_map, Array.getElem?_toList, hv, Option.map_some, Option.some.injEq] at hc
    subst hc; exact .s _
 | _ => exact .s _
theorem zc4 {G : Cx} {a : Act} {F : Frm} (h : FOk G a F) (y : Operand) : Rep G (a.eval y) (F.eval y) := by
 cases y with
 | tmp t => exact h t
 | const v => exact rep_const G v
 | global g => exact .any _
 | func f => exact .fn f #[] [] rfl (fun j v c hv hc => by simp at hc)
theorem FOk.ext {G G' : Cx} {a : Act} {F : Frm} (h : FOk G a F) (e : G.Ext G') : FOk G' a F := fun d => (h d).ext e
theorem FOk.put {G : Cx} {a : Act} {F : Frm} {d : Nat} {v : Value} {x : AV} (h : FOk G a F) (hd : d < a.tmps.size) (hv : Rep G v x) : FOk G (a.put (some d) v) ((d, x) :: F) := by
 intro t
 by_cases e : d = t
 ·
  subst e
  simpa [Act.put, Frm.get, Array.getD_eq_getD_getElem?, hd] using hv
 ·
  have hb : Nat.beq d t = false := by
   cases hh : Nat.beq d t with
   | false => rfl
   | true => exact absurd (Nat.eq_of_beq_eq_true hh) e
  simpa [Act.put, Frm.get, Array.getD_eq_getD_getElem?, hb, Array.getElem?_setIfInBounds, e] using h t
end Go.Proofs.YtllkbjcemecmjaaGreat.Aw
end
section
namespace Go.Proofs.YtllkbjcemecmjaaGreat
open Go.RowKit
theorem ret_int {k : IntKind} {a b : Int} (h : a = b) : Ending.returned (.int k a) = .returned (.int k b) := by rw [h]
theorem zc3 {P : Program} {f : FuncId} {args : Array Value} {w : World} {Post : Ending → World → Prop}
  (h : ∀ R : Ending → World → Prop, (∀ e w', Post e w' → R e w') → Calls P f args w R) : Calls P f args w Post := h Post fun _ _ h => h
def Ent (f : FuncId) : Prop := ∀ args w, (callFunc f args).run Tryz.prog w = .ok (.enter f args) w
theorem ent_of {f : FuncId} {fn : Func} {c : Code} (hf : Tryz.prog.funcs[f]? = some fn) (hname : (fn.name == "runtime.NumGoroutine") = false) (hb : fn.body = some c) : Ent f := fun args w => by
 have h1 : fn.name ≠ "runtime.NumGoroutine" := by simpa using hname
 simp [callFunc, hf, h1, hb]
def Ext (w w' : World) : Prop := Below w.heap.size w w'
theorem Ext.refl (w : World) : Ext w w := Below.refl _ _
theorem Ext.trans {a b c : World} (h : Ext a b) (k : Ext b c) : Ext a c := Below.trans h (Below.mono k (Below.size h))
def B2 (w : World) (g : Nat) (x y : Value) : Prop :=
 w.cell? ⟨g, 0, none⟩ = some x ∧ w.cell? ⟨g, 1, none⟩ = some y ∧ w.frozen? ⟨g, 0, none⟩ = false ∧ w.frozen? ⟨g, 1, none⟩ = false ∧ g < w.heap.size
theorem B2.after {B : Nat} {W w1 : World} {g : Nat} {x y : Value} (hb : Below B W w1) (h : B2 W g x y) (hg : g < B) : B2 w1 g x y :=
 ⟨(hb.cell hg).trans h.1, (hb.cell hg).trans h.2.1, (hb.frozen hg).trans h.2.2.1, (hb.frozen hg).trans h.2.2.2.1, Nat.lt_of_lt_of_le h.2.2.2.2 hb.size⟩
theorem B2.drewN {W : World} {g : Nat} {x y : Value} (h : B2 W g x y) (n : Nat) : B2 (W.drewN n) g x y := h
theorem B2.drew {W : World} {g : Nat} {x y : Value} (h : B2 W g x y) : B2 W.drew g x y := h
theorem B2.set {W : World} {g : Nat} {x y : Value} (h : B2 W g x y) (u v : Value) : B2 ((W.setCell ⟨g, 0, none⟩ u).setCell ⟨g, 1, none⟩ v) g u v := by
 obtain ⟨h1, h2, h3, h4, h5⟩ := h
 exact ⟨by simp [go_sem, h1], by simp [go_sem, h2], by simp [go_sem, h3], by simp [go_sem, h4], by simpa using h5⟩
theorem cell_set2 {W : World} {g g' o : Nat} {v x y : Value} (h : W.cell? ⟨g, o, none⟩ = some v) (hne : g ≠ g') : ((W.setCell ⟨g', 0, none⟩ x).setCell ⟨g', 1, none⟩ y).cell? ⟨g, o, none⟩ = some v := by
 rw [World.cell?_setCell_other _ _ _ _ (fun e => hne (congrArg Addr.block e).symm), World.cell?_setCell_other _ _ _ _ (fun e => hne (congrArg Addr.block e).symm)]
 exact h
def B1 (w : World) (g : Nat) (x : Value) : Prop :=
 w.cell? ⟨g, 0, none⟩ = some x ∧ w.frozen? ⟨g, 0, none⟩ = false ∧ g < w.heap.size
theorem B1.after {B : Nat} {W w1 : World} {g : Nat} {x : Value} (hb : Below B W w1) (h : B1 W g x) (hg : g < B) : B1 w1 g x :=
 ⟨(hb.cell hg).trans h.1, (hb.frozen hg).trans h.2.1, Nat.lt_of_lt_of_le h.2.2 hb.size⟩
theorem B1.drewN {W : World} {g : Nat} {x : Value} (h : B1 W g x) (n : Nat) : B1 (W.drewN n) g x := h
theorem B1.lt {w : World} {g : Nat} {x : Value} (h : B1 w g x) : g < w.heap.size := h.2.2
theorem B2.lt {w : World} {g : Nat} {x y : Value} (h : B2 w g x y) : g < w.heap.size := h.2.2.2.2
structure Off (c N : Nat) (w W : World) : Prop where
 os : W.os = w.os
 tape : W.tape = w.tape
 output : W.output = w.output
 size : w.heap.size ≤ W.heap.size
 block : ∀ k, k < N → k ≠ c → W.heap[k]? = w.heap[k]?
theorem Off.refl (c N : Nat) (w : World) : Off c N w w := ⟨rfl, rfl, rfl, Nat.le_refl _, fun _ _ _ => rfl⟩
theorem Off.trans {c N : Nat} {a b d : World} (h : Off c N a b) (k : Off c N b d) : Off c N a d :=
 ⟨k.os.trans h.os, k.tape.trans h.tape, k.output.trans h.output, Nat.le_trans h.size k.size, fun i hi hc => (k.block i hi hc).trans (h.block i hi hc)⟩
theorem Off.mono {c N N' : Nat} {w W : World} (h : Off c N w W) (hN : N' ≤ N) : Off c N' w W := ⟨h.os, h.tape, h.output, h.size, fun k hk hc => h.block k (Nat.lt_of_lt_of_le hk hN) hc⟩
theorem Off.of_below {c N : Nat} {w W : World} (h : Below N w W) : Off c N w W := ⟨h.os, h.tape, h.output, h.size, fun k hk _ => h.block k hk⟩
theorem Off.step {c N N' : Nat} {w W W' : World} (h : Off c N w W) (k : Off c N' W W') (hN : N ≤ N') : Off c N w W' := h.trans (k.mono hN)
theorem Off.stepB {c N N' : Nat} {w W W' : World} (h : Off c N w W) (k : Below N' W W') (hN : N ≤ N') : Off c N w W' := h.trans (Off.of_below (k.mono hN))
theorem Off.drew {c N : Nat} {w W : World} (h : Off c N w W) : Off c N w W.drew := ⟨h.os, h.tape, h.output, h.size, h.block⟩
theorem Off.drewN {c N : Nat} {w W : World} (h : Off c N w W) (n : Nat) : Off c N w (W.drewN n) := ⟨h.os, h.tape, h.output, h.size, h.block⟩
theorem Off.alloc {c N : Nat} {w W : World} (h : Off c N w W) (hN : N ≤ W.heap.size) (o : Obj) : Off c N w (W.alloc o) := h.stepB ((Below.refl N W).alloc hN o) (Nat.le_refl _)
theorem Off.setCell {c N : Nat} {w W : World} (h : Off c N w W) {p : Addr} (hp : N ≤ p.block ∨ p.block = c) (u : Value) : Off c N w (W.setCell p u) :=
 h.trans ⟨rfl, rfl, rfl, by simp [World.setCell], fun k hk hc => Below.heap_setCell _ _ _ _ xd⟩
theorem Off.cell {c N : Nat} {w W : World} (h : Off c N w W) {p : Addr} (hp : p.block < N) (hc : p.block ≠ c) : W.cell? p = w.cell? p := World.cell?_of_block (w := w) (h.block p.block hp hc)
theorem Off.frozen {c N : Nat} {w W : World} (h : Off c N w W) {p : Addr} (hp : p.block < N) (hc : p.block ≠ c) : W.frozen? p = w.frozen? p := World.frozen?_of_block (w := w) (h.block p.block hp hc)
theorem Off.grownBy {c : Nat} {w W : World} (h : Off c w.heap.size w W) : w.grownBy W (some c) := ⟨h.os, h.tape, h.output, h.size, fun k hk hne => h.block k hk (fun e => hne (by rw [e]))⟩
theorem B2.off {c N : Nat} {W w1 : World} {g : Nat} {x y : Value} (hb : Off c N W w1) (h : B2 W g x y) (hg : g < N) (hc : g ≠ c) : B2 w1 g x y :=
 ⟨(hb.cell hg hc).trans h.1, (hb.cell hg hc).trans h.2.1, (hb.frozen hg hc).trans h.2.2.1, (hb.frozen hg hc).trans h.2.2.2.1, Nat.lt_of_lt_of_le h.2.2.2.2 hb.size⟩
theorem B1.off {c N : Nat} {W w1 : World} {g : Nat} {x : Value} (hb : Off c N W w1) (h : B1 W g x) (hg : g < N) (hc : g ≠ c) : B1 w1 g x :=
 ⟨(hb.cell hg hc).trans h.1, (hb.frozen hg hc).trans h.2.1, Nat.lt_of_lt_of_le h.2.2 hb.size⟩
theorem B1.set {W : World} {g : Nat} {x : Value} (h : B1 W g x) (u : Value) : B1 (W.setCell ⟨g, 0, none⟩ u) g u := by
 obtain ⟨h1, h2, h3⟩ := h
 exact ⟨by simp [go_sem, h1], by simp [go_sem, h2], by simpa using h3⟩
theorem B1.alloc {W : World} {g : Nat} {x : Value} (h : B1 W g x) (o : Obj) : B1 (W.alloc o) g x :=
 B1.after ((Below.refl W.heap.size W).alloc (Nat.le_refl _) o) h h.lt
theorem Below.step {B B' : Nat} {w W w1 : World} (h : Below B w W) (hb : Below B' W w1) (hB : B ≤ B') : Below B w w1 := h.trans (hb.mono hB)
end Go.Proofs.YtllkbjcemecmjaaGreat
end
section
namespace Go.Proofs.YtllkbjcemecmjaaGreat
open Go.RowKit
section
variable {P : Program} {pre : List Oper} {last : Oper} {Q : Exit → Act → World → Prop} {S : World → Prop}
theorem get_pre {i : Nat} (hi : i < pre.length) : (pre ++ [last]).toArray[i]? = pre.toArray[i]? := by simp [List.getElem?_append_left hi]
theorem get_last : (pre ++ [last]).toArray[pre.length]? = some last := by simp
theorem yielded_pre {tmps : Array Value} {j : Nat} (hj : j < pre.length) : yielded (pre ++ [last]).toArray tmps j = yielded pre.toArray tmps j := by
 unfold yielded
 rw [get_pre hj]
def thenLast (P : Program) (pre : List Oper) (last : Oper) (Q : Exit → Act → World → Prop) : Exit → Act → World → Prop :=
 Exit.then (fun a w => wpList P (pre ++ [last]).toArray Q [last] a w) Q
theorem upon_then {o : Oper} {a : Act} {K : Act → World → Prop} {r : Result Next} {N : Act → World → Prop} (h : o.upon P a K (Exit.then N Q) r) : o.upon P a K Q r := by
 cases r with
 | ok n w =>
  cases n <;> simp only [Oper.upon] at h ⊢ <;>
   first
    | exact h
    | exact Calls.mono h (fun e w'' he => by cases e <;> exact he)
 | halt x w => cases x <;> simp only [Oper.upon] at h ⊢ <;> exact h
end
end Go.Proofs.YtllkbjcemecmjaaGreat
end
section
namespace Go.Proofs.YtllkbjcemecmjaaGreat.Aw
open Go.RowKit
def lift (N : Nat) (G : Cx) (Q : Exit → Frm → List Ob → Prop) : Exit → Act → World → Prop :=
 fun e a' w' => ∃ G' F' σ', G'.w = w' ∧ G.Step G' ∧ S8 N G' a' F' σ' ∧ Q e F' σ'
theorem lift_mono {N : Nat} {G G1 : Cx} (h : G.Step G1) {Q Q' : Exit → Frm → List Ob → Prop} (hq : ∀ e F σ, Q e F σ → Q' e F σ) {e : Exit} {a : Act} {w : World} (x : lift N G1 Q e a w) : lift N G Q' e a w := by
 obtain ⟨G', F', σ', h1, h2, h3, h4⟩ := x
 exact ⟨G', F', σ', h1, h.trans h2, h3, hq _ _ _ h4⟩
def AWp (P : Program) (N : Nat) (c : Code) (F : Frm) (σ : List Ob) (Q : Exit → Frm → List Ob → Prop) : Prop :=
 ∀ G a, S8 N G a F σ → c.wp P (lift N G Q) a G.w
def AOps (P : Program) (N : Nat) (ops : Array Oper) (l : List Oper) (F : Frm) (σ : List Ob) (Q : Exit → Frm → List Ob → Prop) : Prop :=
 ∀ G a, S8 N G a F σ → wpList P ops (lift N G Q) l a G.w
def AThen (next : Frm → List Ob → Prop) (Q : Exit → Frm → List Ob → Prop) : Exit → Frm → List Ob → Prop
 | .normal, F, σ => next F σ
 | e, F, σ => Q e F σ
def ABlk (id : Nat) (Q : Exit → Frm → List Ob → Prop) : Exit → Frm → List Ob → Prop
 | .exit id', F, σ => if id' = id then Q .normal F σ else Q (.exit id') F σ
 | e, F, σ => Q e F σ
theorem upon_mono {P : Program} {o : Oper} {a : Act} {K K' : Act → World → Prop} {Q Q' : Exit → Act → World → Prop} (hK : ∀ a w, K a w → K' a w) (hQ : ∀ e a w, Q e a w → Q' e a w) {r : Result Next} (h : o.upon P a K Q r) : o.upon P a K' Q' r := by
 have hout : LetsOut Q → LetsOut Q' := fun ⟨a, w, q⟩ => ⟨a, w, hQ _ _ _ q⟩
 cases r with
 | ok n w =>
  cases n <;> simp only [Oper.upon] at h ⊢ <;>
   first
    | exact hK _ _ h
    | exact h.elim
    | exact Calls.mono h (fun e w'' he => by cases e <;> first | exact hK _ _ he | exact hQ _ _ _ he | exact hout he)
    | exact Rows.mono h (fun v w he => hK _ _ he)
 | halt x w => cases x <;> simp only [Oper.upon] at h ⊢ <;> first | exact hQ _ _ _ h | exact h.elim
theorem zcm {P : Program} {ops : Array Oper} {Q Q' : Exit → Act → World → Prop} (hQ : ∀ e a w, Q e a w → Q' e a w) : ∀ (l : List Oper) (a : Act) (w : World), wpList P ops Q l a w → wpList P ops Q' l a w
 | [], a, w, h => hQ _ _ _ h
 | o :: l, a, w, h => by
  unfold wpList at h ⊢
  split
  ·
   rename_i hw
   rw [if_pos hw] at h
   rcases h with h | ⟨h1, a0, w0, h2⟩
   ·
    exact .inl (upon_mono (fun a w x => zcm hQ l a w x) hQ h)
   ·
    exact .inr ⟨h1, a0, w0, hQ _ _ _ h2⟩
  ·
   rename_i hw
   rw [if_neg hw] at h
   exact zcm hQ l _ w h
section
variable {P : Program} {N : Nat} {F : Frm} {σ : List Ob} {Q : Exit → Frm → List Ob → Prop}
theorem zag {x y : Code} (h : AWp P N x F σ (AThen (fun F σ => AWp P N y F σ Q) Q)) : AWp P N (.seq x y) F σ Q := fun G a hs => by
 refine wp_seq (Code.wp_mono (fun e a1 w1 q => ?_) (h G a hs))
 obtain ⟨G', F', σ', rfl, h2, h3, h4⟩ := q
 cases e with
 | normal => exact Code.wp_mono (fun e a w q => lift_mono h2 (fun _ _ _ x => x) q) (h4 G' a1 h3)
 | _ => exact ⟨G', F', σ', rfl, h2, h3, h4⟩
theorem zar (h : Q .normal F σ) : AWp P N .skip F σ Q := fun G a hs => wp_skip ⟨G, F, σ, rfl, .refl G, hs, h⟩
theorem zb9 {id : Nat} (h : Q (.exit id) F σ) : AWp P N (.exit id) F σ Q := fun G a hs => wp_exit ⟨G, F, σ, rfl, .refl G, hs, h⟩
theorem za7 (h : Q .ret F σ) : AWp P N .ret F σ Q := fun G a hs => wp_ret ⟨G, F, σ, rfl, .refl G, hs, h⟩
theorem zas {id : Nat} {c : Code} (h : AWp P N c F σ (ABlk id Q)) : AWp P N (.block id c) F σ Q := fun G a hs => by
 refine wp_block (Code.wp_mono (fun e a1 w1 q => ?_) (h G a hs))
 obtain ⟨G', F', σ', rfl, h2, h3, h4⟩ := q
 cases e with
 | exit id' =>
  simp only [ABlk] at h4
  simp only [Exit.inBlock]
  split
  ·
   rename_i e; rw [if_pos e] at h4; exact ⟨G', F', σ', rfl, h2, h3, h4⟩
  ·
   rename_i e; rw [if_neg e] at h4; exact ⟨G', F', σ', rfl, h2, h3, h4⟩
 | _ => exact ⟨G', F', σ', rfl, h2, h3, h4⟩
theorem rep_bool {G : Cx} {a : Act} {y : Operand} {b : Bool} (hf : FOk G a F) (h : F.eval y = .s (.bool b)) : a.eval y = .bool b := by
 have := zc4 hf y
 rw [h] at this
 generalize a.eval y = v at *
 cases this; rfl
theorem aw_cond {c : Operand} {x y : Code} {b : Bool} (hc : F.eval c = .s (.bool b)) (ht : b = true → AWp P N x F σ Q) (hf : b = false → AWp P N y F σ Q) : AWp P N (.cond c x y) F σ Q := fun G a hs =>
 wp_cond_split (rep_bool hs.fr hc) (fun e => ht e G a hs) (fun e => hf e G a hs)
theorem aw_if {c : Operand} {x y : Code} {p : Prop} [Decidable p] (hc : F.eval c = .s (.bool (decide p))) (ht : p → AWp P N x F σ Q) (hf : ¬ p → AWp P N y F σ Q) : AWp P N (.cond c x y) F σ Q :=
 aw_cond hc (fun e => ht (of_decide_eq_true e)) (fun e => hf (of_decide_eq_false e))
theorem za5 {c : Operand} {x y : Code} (hc : F.eval c = .s (.bool true)) (ht : AWp P N x F σ Q) : AWp P N (.cond c x y) F σ Q := aw_cond hc (fun _ => ht) (fun e => by cases e)
theorem zau {c : Operand} {x y : Code} (hc : F.eval c = .s (.bool false)) (ht : AWp P N y F σ Q) : AWp P N (.cond c x y) F σ Q := aw_cond hc (fun e => by cases e) (fun _ => ht)
theorem aw_loop {c : Code} (I : Nat → Frm → List Ob → Prop) (m : Nat) (h0 : I m F σ)
  (round : ∀ m F σ, I m F σ → AWp P N c F σ (AThen (fun F' σ' => ∃ m', m' < m ∧ I m' F' σ') Q)) : AWp P N (.loop c) F σ Q := fun G a hs => by
 refine wp_loop_ghost (fun n a w => ∃ G' F' σ', G'.w = w ∧ G.Step G' ∧ S8 N G' a F' σ' ∧ I n F' σ') m ⟨G, F, σ, rfl, .refl G, hs, h0⟩ ?_
 rintro n a w ⟨G', F', σ', rfl, h2, h3, h4⟩
 refine Code.wp_mono (fun e a1 w1 q => ?_) (round n F' σ' h4 G' a h3)
 obtain ⟨G2, F2, σ2, rfl, h5, h6, h7⟩ := q
 cases e with
 | normal => obtain ⟨m', hm, hi⟩ := h7; exact ⟨m', hm, ⟨G2, F2, σ2, rfl, h2.trans h5, h6, hi⟩⟩
 | _ => exact ⟨G2, F2, σ2, rfl, h2.trans h5, h6, h7⟩
theorem zab {id : Nat} {l : List Oper} (h : AOps P N l.toArray l F σ Q) : AWp P N (.region id l.toArray false) F σ Q := fun G a hs => wp_region_lit (h G a hs)
theorem aw_mono {c : Code} {Q' : Exit → Frm → List Ob → Prop} (h : AWp P N c F σ Q) (hq : ∀ e F σ, Q e F σ → Q' e F σ) : AWp P N c F σ Q' := fun G a hs =>
 Code.wp_mono (fun e a w q => lift_mono (.refl G) hq q) (h G a hs)
def Weak (N : Nat) (F : Frm) (σ : List Ob) (F' : Frm) (σ' : List Ob) : Prop := ∀ G a, S8 N G a F σ → ∃ G', G'.w = G.w ∧ G.Step G' ∧ S8 N G' a F' σ'
theorem Weak.refl : Weak N F σ F σ := fun G a h => ⟨G, rfl, .refl G, h⟩
theorem Weak.trans {F1 F2 : Frm} {σ1 σ2 : List Ob} (h : Weak N F σ F1 σ1) (k : Weak N F1 σ1 F2 σ2) : Weak N F σ F2 σ2 := fun G a hs => by
 obtain ⟨G1, e1, s1, h1⟩ := h G a hs
 obtain ⟨G2, e2, s2, h2⟩ := k G1 a h1
 exact ⟨G2, e2.trans e1, s1.trans s2, h2⟩
theorem zbg {c : Code} {F' : Frm} {σ' : List Ob} (w : Weak N F σ F' σ') (h : AWp P N c F' σ' Q) : AWp P N c F σ Q := fun G a hs => by
 obtain ⟨G1, e1, s1, h1⟩ := w G a hs
 rw [← e1]
 exact Code.wp_mono (fun e a w q => lift_mono s1 (fun _ _ _ x => x) q) (h G1 a h1)
theorem za6 {ops : Array Oper} {l : List Oper} {F' : Frm} {σ' : List Ob} (w : Weak N F σ F' σ') (h : AOps P N ops l F' σ' Q) : AOps P N ops l F σ Q := fun G a hs => by
 obtain ⟨G1, e1, s1, h1⟩ := w G a hs
 rw [← e1]
 exact zcm (fun e a w q => lift_mono s1 (fun _ _ _ x => x) q) _ _ _ (h G1 a h1)
end
def Does (P : Program) (o : Oper) (F : Frm) (σ : List Ob) (x : AV) (σ' : List Ob) : Prop :=
 ∀ (G : Cx) (a : Act) (next : Act → World → Prop) (Q : Exit → Act → World → Prop), Rel G σ → (∀ y ∈ o.op.operands, Rep G (a.eval y) (F.eval y)) →
  (∀ v G', G.Ext G' → Rel G' σ' → Rep G' v x → next (a.put o.dst v) G'.w) → o.wp P a G.w next Q
theorem S8.step {N : Nat} {G G' : Cx} {a : Act} {F : Frm} {σ σ' : List Ob} (h : S8 N G a F σ) (e : G.Ext G') (r : Rel G' σ') : S8 N G' a F σ' := ⟨r, h.fr.ext e, h.df, h.nt⟩
theorem S8.put {N : Nat} {G : Cx} {a : Act} {F : Frm} {σ : List Ob} {d : Nat} {v : Value} {x : AV} (h : S8 N G a F σ) (hd : d < N) (hv : Rep G v x) : S8 N G (a.put (some d) v) ((d, x) :: F) σ :=
 ⟨h.rel, h.fr.put (by rw [h.nt]; exact hd) hv, h.df, by simp [Act.put, h.nt]⟩
def Runs (ops : Array Oper) (F : Frm) (o : Oper) (b : Bool) : Prop :=
 match o.guard with
 | none => b = true
 | some (j, want) => ∃ t, (ops[j]?).bind (·.dst) = some t ∧ ((∃ c, F.get t = .s (.bool c) ∧ b = (c == want)) ∨ (F.get t = .s undef ∧ b = false))
theorem zaa {ops : Array Oper} {F : Frm} {o : Oper} (h : o.guard = none) : Runs ops F o true := by simp [Runs, h]
theorem runs_some {ops : Array Oper} {F : Frm} {o : Oper} {j : Nat} {want c : Bool} {t : Nat} (h : o.guard = some (j, want)) (hd : (ops[j]?).bind (·.dst) = some t) (hc : F.get t = .s (.bool c)) : Runs ops F o (c == want) := by
 simp only [Runs, h]
 exact ⟨t, hd, .inl ⟨c, hc, rfl⟩⟩
theorem zbi {ops : Array Oper} {F : Frm} {o : Oper} {j : Nat} {want : Bool} {t : Nat} (h : o.guard = some (j, want)) (hd : (ops[j]?).bind (·.dst) = some t) (hc : F.get t = .s undef) : Runs ops F o false := by
 simp only [Runs, h]
 exact ⟨t, hd, .inr ⟨hc, trivial⟩⟩
theorem Runs.wanted {ops : Array Oper} {F : Frm} {o : Oper} {b : Bool} {G : Cx} {a : Act} (h : Runs ops F o b) (hf : FOk G a F) : Region.wanted o (yielded ops a.tmps) = b := by
 unfold Runs at h
 unfold Region.wanted
 cases hg : o.guard with
 | none => rw [hg] at h; exact h.symm
 | some jb =>
  obtain ⟨j, want⟩ := jb
  rw [hg] at h
  obtain ⟨t, h1, ⟨c, h2, rfl⟩ | ⟨h2, rfl⟩⟩ := h
  case inr =>
   simp only
   have h3 := hf t
   rw [h2] at h3
   have h5 : a.tmps.getD t undef = undef := by generalize a.tmps.getD t undef = v at *; cases h3; rfl
   rw [Array.getD_eq_getD_getElem?] at h5
   cases h6 : a.tmps[t]? with
   | none => simp [yielded, h1, h6]
   | some u =>
    rw [h6] at h5
    simp only [Option.getD_some] at h5
    subst h5
    simp [yielded, h1, h6, undef]
  simp only
  have h3 := hf t
  rw [h2] at h3
  have h4 : a.tmps[t]? = some (.bool c) := by
   have h5 : a.tmps.getD t undef = .bool c := by generalize a.tmps.getD t undef = v at *; cases h3; rfl
   rw [Array.getD_eq_getD_getElem?] at h5
   cases h6 : a.tmps[t]? with
   | none => rw [h6] at h5; simp [undef] at h5
   | some u => rw [h6] at h5; simpa using h5
  simp [yielded, h1, h4]
section
variable {P : Program} {N : Nat} {F : Frm} {σ σ' : List Ob} {Q : Exit → Frm → List Ob → Prop} {ops : Array Oper} {o : Oper} {l : List Oper} {x : AV}
theorem zad (h : Q .normal F σ) : AOps P N ops [] F σ Q := fun G a hs => ⟨G, F, σ, rfl, .refl G, hs, h⟩
theorem zaf {d : Nat} (hd : o.dst = some d) (hN : Nat.blt d N = true) (hr : Runs ops F o true) (hD : Does P o F σ x σ') (k : AOps P N ops l ((d, x) :: F) σ' Q) : AOps P N ops (o :: l) F σ Q := fun G a hs => by
 unfold wpList
 rw [if_pos (hr.wanted hs.fr)]
 left
 refine hD G a _ _ hs.rel (fun y _ => zc4 hs.fr y) (fun v G' e r hv => ?_)
 rw [hd]
 exact zcm (fun e' a w q => lift_mono e.step (fun _ _ _ x => x) q) _ _ _ (k G' _ ((hs.step e r).put (by simpa [Nat.blt_eq] using hN) hv))
theorem zba (hd : o.dst = none) (hr : Runs ops F o true) (hD : Does P o F σ x σ') (k : AOps P N ops l F σ' Q) : AOps P N ops (o :: l) F σ Q := fun G a hs => by
 unfold wpList
 rw [if_pos (hr.wanted hs.fr)]
 left
 refine hD G a _ _ hs.rel (fun y _ => zc4 hs.fr y) (fun v G' e r hv => ?_)
 rw [hd]
 exact zcm (fun e' a w q => lift_mono e.step (fun _ _ _ x => x) q) _ _ _ (k G' _ (hs.step e r))
theorem zcj {d : Nat} (hd : o.dst = some d) (hN : Nat.blt d N = true) (hr : Runs ops F o false) (k : AOps P N ops l ((d, .s undef) :: F) σ Q) : AOps P N ops (o :: l) F σ Q := fun G a hs => by
 unfold wpList
 rw [if_neg (by rw [hr.wanted hs.fr]; simp)]
 rw [hd]
 exact k G _ (hs.put (by simpa [Nat.blt_eq] using hN) (.s _))
end
end Go.Proofs.YtllkbjcemecmjaaGreat.Aw
end
section
namespace Go.Proofs.YtllkbjcemecmjaaGreat.Aw
open Go.RowKit
def zb5 (P : Program) (t : TypeId) : Option (Option Value × Nat × Nat) := (P.info? t).map fun i => (i.zero, i.size, i.bytes)
def zc8 (P : Program) (t : TypeId) : Option Bool := (P.underlying t).map fun d => match d with | .struct _ => true | .array _ _ => true | _ => false
def zcd (P : Program) (t : TypeId) : Option TypeId := match P.underlying t with | some (.slice e) => some e | _ => none
def zca (P : Program) (t : TypeId) (f : Nat) : Option (Nat × TypeId × Option Nat) := match P.underlying t with
 | some (.struct fs) => (fs[f]?).map fun x => (x.offset, x.type, (P.info? x.type).map (·.size))
 | _ => none
theorem info_of {P : Program} {t : TypeId} {z : Option Value} {n b : Nat} (h : zb5 P t = some (z, n, b)) : ∃ i, P.info? t = some i ∧ i.zero = z ∧ i.size = n ∧ i.bytes = b := by
 unfold zb5 at h
 cases hi : P.info? t with
 | none => rw [hi] at h; cases h
 | some i => rw [hi] at h; simp only [Option.map_some, Option.some.injEq, Prod.mk.injEq] at h; exact ⟨i, rfl, h.1, h.2.1, h.2.2⟩
theorem zdv {P : Program} {t e : TypeId} (h : zcd P t = some e) : P.underlying t = some (.slice e) := by
 unfold zcd at h
 split at h
 ·
  rename_i e' h1; cases h; exact h1
 ·
  cases h
theorem field_of {P : Program} {t : TypeId} {f off : Nat} {ft : TypeId} {n : Option Nat} (h : zca P t f = some (off, ft, n)) :
  ∃ fs x, P.underlying t = some (.struct fs) ∧ fs[f]? = some x ∧ x.offset = off ∧ x.type = ft ∧ (P.info? ft).map (·.size) = n := by
 unfold zca at h
 split at h
 ·
  rename_i fs h1
  cases hx : fs[f]? with
  | none => rw [hx] at h; cases h
  | some x => rw [hx] at h; simp only [Option.map_some, Option.some.injEq, Prod.mk.injEq] at h; exact ⟨fs, x, h1, hx, h.1, h.2.1, by rw [← h.2.1]; exact h.2.2⟩
 ·
  cases h
theorem zcw {P : Program} {t : TypeId} {z : Option Value} {n b : Nat} (h : zb5 P t = some (z, n, b)) (w : World) : (sizeOf t).run P w = .ok n w := by
 obtain ⟨i, h1, _, h2, _⟩ := info_of h
 simp [sizeOf, typeInfo, h1, h2]
theorem run_isAgg {P : Program} {t : TypeId} {b : Bool} (h : zc8 P t = some b) (w : World) : (isAgg t).run P w = .ok b w := by
 unfold zc8 at h
 cases hd : P.underlying t with
 | none => rw [hd] at h; cases h
 | some d =>
  rw [hd] at h
  simp only [Option.map_some, Option.some.injEq] at h
  cases d <;> simp_all [isAgg, run_underlying hd]
theorem rep_s {G : Cx} {v u : Value} (h : Rep G v (.s u)) : v = u := by cases h; rfl
section
variable {P : Program} {o : Oper} {F : Frm} {σ : List Ob}
theorem zch {x : AV} (h : ∀ (G : Cx) (ρ : Operand → Value), Rel G σ → (∀ y ∈ o.op.operands, Rep G (ρ y) (F.eval y)) → ∃ v, (execOp ρ o).run P G.w = .ok (.value v) G.w ∧ Rep G v x) : Does P o F σ x σ := by
 intro G a next Q hr ho hn
 obtain ⟨v, h1, h2⟩ := h G a.eval hr ho
 unfold Oper.wp
 rw [h1]
 exact hn v G (.refl G) hr h2
theorem does_move {y : Operand} {x : AV} (ho : o.op = .move y) (hx : F.eval y = x) : Does P o F σ x σ :=
 zch fun G ρ hr hop => ⟨ρ y, by simp [execOp, ho], hx ▸ hop y (by simp [ho, Op.operands])⟩
theorem does_assign {y : Operand} {x : AV} (ho : o.op = .assign y) (hx : F.eval y = x) : Does P o F σ x σ :=
 zch fun G ρ hr hop => ⟨ρ y, by simp [execOp, ho], hx ▸ hop y (by simp [ho, Op.operands])⟩
theorem does_pick {c x y : Operand} {b : Bool} (ho : o.op = .pick c x y) (hc : F.eval c = .s (.bool b)) : Does P o F σ (bif b then F.eval x else F.eval y) σ :=
 zch fun G ρ hr hop => by
  have h1 := hop c (by simp [ho, Op.operands])
  rw [hc] at h1
  have h2 := rep_s h1
  refine ⟨if b then ρ x else ρ y, by simp [execOp, ho, h2, asBool], ?_⟩
  cases b
  ·
   exact hop y (by simp [ho, Op.operands])
  ·
   exact hop x (by simp [ho, Op.operands])
def Mv (o : Oper) (y : Operand) : Prop := o.op = .move y ∨ o.op = .assign y
theorem does_mv {y : Operand} {x : AV} (ho : Mv o y) (hx : F.eval y = x) : Does P o F σ x σ := by
 rcases ho with h | h
 ·
  exact does_move h hx
 ·
  exact does_assign h hx
section
variable {y : Operand} (ho : Mv o y)
include ho
theorem mv_s {v : Value} (hx : F.eval y = .s v) : Does P o F σ (.s v) σ := does_mv ho hx
theorem mv_sl {l : List AV} (hx : F.eval y = .sl l) : Does P o F σ (.sl l) σ := does_mv ho hx
theorem mv_tup {l : List AV} (hx : F.eval y = .tup l) : Does P o F σ (.tup l) σ := does_mv ho hx
theorem mv_ptr {a b c d : Nat} (hx : F.eval y = .ptr a b c d) : Does P o F σ (.ptr a b c d) σ := does_mv ho hx
end
theorem get_here {d : Nat} {x : AV} {F : Frm} : Frm.get ((d, x) :: F) d = x := by simp [Frm.get]
theorem zap {F : Frm} {caps : List AV} : List.map F.eval [] ++ caps = caps := rfl
theorem zae {F : Frm} {y : Operand} {l : List Operand} {x : AV} {caps xs : List AV} (h : F.eval y = x) (t : l.map F.eval ++ caps = xs) : (y :: l).map F.eval ++ caps = x :: xs := by rw [List.map_cons, h, List.cons_append, t]
theorem does_bin {b : BinOp} {t t' : TypeId} {x y : Operand} {u v r : Value} (ho : o.op = .binOp b t x y t') (hx : F.eval x = .s u) (hy : F.eval y = .s v)
  (h : ∀ w, (do eqGuard b t x y u v; binOp b t u v : Sem Value).run P w = .ok r w) : Does P o F σ (.s r) σ :=
 zch fun G ρ hr hop => by
  have h1 := hop x (by simp [ho, Op.operands])
  have h2 := hop y (by simp [ho, Op.operands])
  rw [hx] at h1
  rw [hy] at h2
  refine ⟨r, ?_, .s r⟩
  have h3 := h G.w
  simp only [execOp, ho, rep_s h1, rep_s h2, Sem.run_bind] at h3 ⊢
  rw [h3]
  rfl
theorem zdp {b : BinOp} {t : TypeId} {x y : Operand} {k : IntKind} {m n : Int} {r : Value} (w : World) (hb : b ≠ .shl ∧ b ≠ .shr) (h : (match b with
  | .add | .sub | .mul => Op.intArith b k m n
  | .quo | .rem => Op.intDiv b k m n
  | .and | .or | .xor | .andNot => Op.intBits b k m n
  | _ => Op.intCmp b m n : Sem Value).run P w = .ok r w) : (do eqGuard b t x y (.int k m) (.int k n); binOp b t (.int k m) (.int k n) : Sem Value).run P w = .ok r w := by
 have h1 : (eqGuard b t x y (.int k m) (.int k n)).run P w = .ok () w := by
  unfold eqGuard
  cases b <;> rfl
 rw [Sem.run_bind, h1, Result.andThen_ok]
 unfold binOp
 cases b <;> first | exact absurd rfl hb.1 | exact absurd rfl hb.2 | simp_all
section
variable {t t' : TypeId} {x y : Operand} {k : IntKind} {m n c : Int}
theorem zax (ho : o.op = .binOp .add t x y t') (hx : F.eval x = .s (.int k m)) (hy : F.eval y = .s (.int k n)) (hw : k.wrap (m + n) = c) : Does P o F σ (.s (.int k c)) σ :=
 does_bin ho hx hy fun w => zdp w xo (by simp [Op.intArith, hw])
theorem zdx (ho : o.op = .binOp .sub t x y t') (hx : F.eval x = .s (.int k m)) (hy : F.eval y = .s (.int k n)) (hw : k.wrap (m - n) = c) : Does P o F σ (.s (.int k c)) σ :=
 does_bin ho hx hy fun w => zdp w xo (by simp [Op.intArith, hw])
theorem does_mul (ho : o.op = .binOp .mul t x y t') (hx : F.eval x = .s (.int k m)) (hy : F.eval y = .s (.int k n)) (hw : k.wrap (m * n) = c) : Does P o F σ (.s (.int k c)) σ :=
 does_bin ho hx hy fun w => zdp w xo (by simp [Op.intArith, hw])
theorem does_quo (ho : o.op = .binOp .quo t x y t') (hx : F.eval x = .s (.int k m)) (hy : F.eval y = .s (.int k n)) (h0 : n ≠ 0) (hw : k.wrap (m.tdiv n) = c) : Does P o F σ (.s (.int k c)) σ :=
 does_bin ho hx hy fun w => zdp w xo (by simp [Op.intDiv, hw, h0])
theorem za2 (ho : o.op = .binOp .lss t x y t') (hx : F.eval x = .s (.int k m)) (hy : F.eval y = .s (.int k n)) : Does P o F σ (.s (.bool (decide (m < n)))) σ :=
 does_bin ho hx hy fun w => zdp w xo (by simp [Op.intCmp])
theorem does_leq (ho : o.op = .binOp .leq t x y t') (hx : F.eval x = .s (.int k m)) (hy : F.eval y = .s (.int k n)) : Does P o F σ (.s (.bool (decide (m ≤ n)))) σ :=
 does_bin ho hx hy fun w => zdp w xo (by simp [Op.intCmp])
theorem zb0 (ho : o.op = .binOp .gtr t x y t') (hx : F.eval x = .s (.int k m)) (hy : F.eval y = .s (.int k n)) : Does P o F σ (.s (.bool (decide (n < m)))) σ :=
 does_bin ho hx hy fun w => zdp w xo (by simp [Op.intCmp])
theorem zcp (ho : o.op = .binOp .geq t x y t') (hx : F.eval x = .s (.int k m)) (hy : F.eval y = .s (.int k n)) : Does P o F σ (.s (.bool (decide (n ≤ m)))) σ :=
 does_bin ho hx hy fun w => zdp w xo (by simp [Op.intCmp])
theorem zbn (ho : o.op = .binOp .eql t x y t') (hx : F.eval x = .s (.int k m)) (hy : F.eval y = .s (.int k n)) : Does P o F σ (.s (.bool (decide (m = n)))) σ :=
 does_bin ho hx hy fun w => zdp w xo (by
  by_cases h : m = n
  ·
   simp [Op.intCmp, h]
  ·
   have : (m == n) = false := by simpa using h
   simp [Op.intCmp, h, this])
theorem zbp (ho : o.op = .binOp .neq t x y t') (hx : F.eval x = .s (.int k m)) (hy : F.eval y = .s (.int k n)) : Does P o F σ (.s (.bool (decide (m ≠ n)))) σ :=
 does_bin ho hx hy fun w => zdp w xo (by
  by_cases h : m = n
  ·
   simp [Op.intCmp, h]
  ·
   have : (m != n) = true := by simpa using h
   simp [Op.intCmp, h, this])
end
theorem toList_inj {a b : ByteArray} : a.toList = b.toList ↔ a = b := by
 constructor
 ·
  intro h
  rw [ByteArray.toList_eq, ByteArray.toList_eq] at h
  exact ByteArray.ext (Array.toList_inj.1 h)
 ·
  intro h; rw [h]
theorem zbj {t : TypeId} {x : Operand} {b : Bool} (ho : o.op = .unOp .not t x) (hx : F.eval x = .s (.bool b)) : Does P o F σ (.s (.bool (!b))) σ :=
 zch fun G ρ hr hop => by
  have h1 := hop x (by simp [ho, Op.operands])
  rw [hx] at h1
  exact ⟨_, by simp [execOp, ho, rep_s h1, Op.unary], .s _⟩
theorem does_notp {t : TypeId} {x : Operand} {p : Prop} [Decidable p] (ho : o.op = .unOp .not t x) (hx : F.eval x = .s (.bool (decide p))) : Does P o F σ (.s (.bool (decide (¬ p)))) σ := by
 rw [show decide (¬ p) = !decide p by simp]
 exact zbj ho hx
theorem does_neg {t : TypeId} {x : Operand} {k : IntKind} {n c : Int} (ho : o.op = .unOp .neg t x) (hx : F.eval x = .s (.int k n)) (hw : k.wrap (0 - n) = c) : Does P o F σ (.s (.int k c)) σ :=
 zch fun G ρ hr hop => by
  have h1 := hop x (by simp [ho, Op.operands])
  rw [hx] at h1
  exact ⟨_, by simp only [execOp, ho, rep_s h1, Op.unary, Op.intArith, hw]; rfl, .s _⟩
def tyInt (P : Program) (t : TypeId) : Option IntKind := match P.underlying t with | some (.int k) => some k | _ => none
theorem does_conv {t t' : TypeId} {x : Operand} {k k' : IntKind} {n c : Int} (ho : o.op = .convert t t' x) (ht : (P.underlying t).isSome = true) (hk : tyInt P t' = some k') (hx : F.eval x = .s (.int k n)) (hw : k'.wrap n = c) : Does P o F σ (.s (.int k' c)) σ :=
 zch fun G ρ hr hop => by
  have h1 := hop x (by simp [ho, Op.operands])
  rw [hx] at h1
  have h2 : P.underlying t' = some (.int k') := by
   unfold tyInt at hk
   split at hk
   ·
    rename_i h3; cases hk; exact h3
   ·
    cases hk
  obtain ⟨d, hd⟩ := Option.isSome_iff_exists.1 ht
  refine ⟨.int k' c, ?_, .s _⟩
  simp only [execOp, ho, rep_s h1, convert, Sem.run_bind, run_underlying hd, run_underlying h2, Result.andThen_ok, Conv.intToInt, hw, Sem.run_pure]
theorem zcz {x : Operand} {i : Nat} {l : List AV} {y : AV} (ho : o.op = .extract x i) (hx : F.eval x = .tup l) (hy : l[i]? = some y) : Does P o F σ y σ :=
 zch fun G ρ hr hop => by
  have h1 := hop x (by simp [ho, Op.operands])
  rw [hx] at h1
  generalize hv : ρ x = u at h1
  cases h1 with
  | tup vs _ hl h =>
   have hi : i < vs.size := by rw [hl]; exact (List.getElem?_eq_some_iff.1 hy).1
   exact ⟨vs[i], by simp [execOp, ho, hv, Instr.extract, hi], h i _ _ (by simp [hi]) hy⟩
theorem does_func {f : FuncId} {caps : Array Operand} {cs : List AV} (ho : o.op = .makeFunc (.func f) #[] caps) (hc : caps.toList.map F.eval = cs) : Does P o F σ (.fn f cs) σ :=
 zch fun G ρ hr hop => by
  refine ⟨.func (.func f) #[] (caps.map ρ), by simp [execOp, ho, Instr.makeFunc], .fn f _ _ (by rw [← hc]; simp) (fun j v c hv hcj => ?_)⟩
  rw [← hc] at hcj
  simp only [Array.getElem?_map, List.getElem?_map, Array.getElem?_toList] at hv hcj
  cases hj : caps[j]? with
  | none => rw [hj] at hv; cases hv
  | some y =>
   rw [hj] at hv hcj
   simp only [Option.map_some, Option.some.injEq] at hv hcj
   subst hv hcj
   exact hop y (by simp only [ho, Op.operands]; simp; exact Array.mem_of_getElem? hj)
theorem zcy {x : Operand} {id sz k j : Nat} (ho : o.op = .nilCheck x) (hx : F.eval x = .ptr id sz k j) : Does P o F σ (.ptr id sz k j) σ :=
 zch fun G ρ hr hop => by
  have h1 := hop x (by simp [ho, Op.operands])
  rw [hx] at h1
  generalize hv : ρ x = u at h1
  cases h1 with
  | ptr _ _ _ _ b hm => exact ⟨_, by simp [execOp, ho, hv], .ptr id sz k j b hm⟩
theorem does_nil_fn {x : Operand} {f : FuncId} {cs : List AV} (ho : o.op = .nilCheck x) (hx : F.eval x = .fn f cs) : Does P o F σ (.fn f cs) σ :=
 zch fun G ρ hr hop => by
  have h1 := hop x (by simp [ho, Op.operands])
  rw [hx] at h1
  generalize hv : ρ x = u at h1
  cases h1 with
  | fn _ vs _ hl h => exact ⟨_, by simp [execOp, ho, hv], .fn f vs cs hl h⟩
theorem run_fieldAt {t : TypeId} {f off : Nat} {ft : TypeId} {n : Nat} (hf : zca P t f = some (off, ft, some n)) (hn : n ≠ 0) (b i : Nat) (w : World) : (Instr.fieldAt t (.pointer (some ⟨b, i, none⟩)) f).run P w = .ok (.pointer (some ⟨b, i + off, none⟩)) w := by
 obtain ⟨fs, x, h1, h2, h3, h4, h5⟩ := field_of hf
 have h6 : (sizeOf x.type).run P w = .ok n w := by
  rw [h4]
  cases hi : P.info? ft with
  | none => rw [hi] at h5; cases h5
  | some i => rw [hi] at h5; simp only [Option.map_some, Option.some.injEq] at h5; simp [sizeOf, typeInfo, hi, h5]
 simp [Instr.fieldAt, run_underlying h1, h2, Instr.sureAddr, fieldPlace, h6, hn, h3, Addr.add_lit]
theorem zb7 {t : TypeId} {x : Operand} {f off : Nat} {ft : TypeId} {n id sz k j : Nat} (ho : o.op = .fieldAddr t x f) (hf : zca P t f = some (off, ft, some n)) (hn : n ≠ 0) (hx : F.eval x = .ptr id sz k j) : Does P o F σ (.ptr id sz k (j + off)) σ :=
 zch fun G ρ hr hop => by
  have h1 := hop x (by simp [ho, Op.operands])
  rw [hx] at h1
  generalize hv : ρ x = u at h1
  cases h1 with
  | ptr _ _ _ _ b hm =>
   refine ⟨.pointer (some ⟨b, k * sz + j + off, none⟩), by simp only [execOp, ho, hv, Sem.run_bind, run_fieldAt hf hn, Result.andThen_ok, Sem.run_pure], ?_⟩
   rw [Nat.add_assoc]
   exact .ptr id sz k (j + off) b hm
theorem zdn {t : TypeId} {x : Operand} {f off : Nat} {ft : TypeId} {n : Nat} {cs : List AV} (ho : o.op = .fieldAddr t x f) (hf : zca P t f = some (off, ft, some n)) (hn : n ≠ 0) (hx : F.eval x = .ref cs) : Does P o F σ (.ref (cs.drop off)) σ :=
 zch fun G ρ hr hop => by
  have h1 := hop x (by simp [ho, Op.operands])
  rw [hx] at h1
  generalize hv : ρ x = u at h1
  cases h1 with
  | ref b i _ val hone h2 h =>
   refine ⟨.pointer (some ⟨b, i + off, none⟩), by simp only [execOp, ho, hv, Sem.run_bind, run_fieldAt hf hn, Result.andThen_ok, Sem.run_pure], ?_⟩
   refine .ref b (i + off) _ (fun j => val (off + j)) (fun c hc => hone c (List.mem_of_mem_drop hc)) (fun j c hj => ?_) (fun j c hj => ?_)
   ·
    rw [List.getElem?_drop] at hj
    rw [Nat.add_assoc]
    exact h2 _ c hj
   ·
    rw [List.getElem?_drop] at hj
    exact h _ c hj
theorem run_indexAt {t e : TypeId} {z : Option Value} {sz bt : Nat} (ht : zcd P t = some e) (he : zb5 P e = some (z, sz, bt)) (b i m cap : Nat) (kd : IntKind) (n : Int) (h0 : 0 ≤ n) (h1 : n < m) (w : World) :
  (Instr.indexAt t (.slice (some ⟨b, i, none⟩) m cap) (.int kd n)).run P w = .ok (.pointer (some ⟨b, i + n.toNat * sz, none⟩)) w := by
 simp [Instr.indexAt, asIntOf, run_underlying (zdv ht), h0, h1, zcw he, Addr.add_lit]
theorem zal {t e : TypeId} {x y : Operand} {z : Option Value} {sz bt : Nat} {l : List AV} {kd : IntKind} {n : Int} {k : Nat} {u : AV} (ho : o.op = .indexAddr t x y) (ht : zcd P t = some e) (he : zb5 P e = some (z, sz, bt))
  (hx : F.eval x = .sl l) (hy : F.eval y = .s (.int kd n)) (hk : n = (k : Int)) (hu : l[k]? = some u) (hsz : u.cells.length = sz) : Does P o F σ (.ref u.cells) σ :=
 zch fun G ρ hr hop => by
  have h1 := hop x (by simp [ho, Op.operands])
  have h2 := hop y (by simp [ho, Op.operands])
  rw [hx] at h1
  rw [hy] at h2
  have hyv := rep_s h2
  subst hk
  have hlt := (List.getElem?_eq_some_iff.1 hu).1
  generalize hv : ρ x = v at h1
  cases h1 with
  | slnil => simp at hu
  | sl b i cap sz' _ val hc hmx hone h3 h =>
   obtain ⟨h4, h5⟩ := hone k u hu
   have hsz' : sz' = sz := h4.symm.trans hsz
   subst hsz'
   refine ⟨.pointer (some ⟨b, i + k * sz', none⟩), ?_, .ref b _ _ (val k) h5 (fun j c hj => h3 k u j c hu hj) (fun j c hj => h k u j c hu hj)⟩
   simp only [execOp, ho, hv, hyv, Sem.run_bind, run_indexAt ht he b i l.length cap kd (k : Int) xd xd, Result.andThen_ok, Sem.run_pure, Int.toNat_natCast]
theorem za0 {t e : TypeId} {x y : Operand} {z : Option Value} {sz bt : Nat} {id m : Nat} {kd : IntKind} {n : Int} {k : Nat} (ho : o.op = .indexAddr t x y) (ht : zcd P t = some e) (he : zb5 P e = some (z, sz, bt))
  (hx : F.eval x = .own id sz m) (hy : F.eval y = .s (.int kd n)) (hk : n = (k : Int)) (hu : k < m) : Does P o F σ (.ptr id sz k 0) σ :=
 zch fun G ρ hr hop => by
  have h1 := hop x (by simp [ho, Op.operands])
  have h2 := hop y (by simp [ho, Op.operands])
  rw [hx] at h1
  rw [hy] at h2
  have hyv := rep_s h2
  subst hk
  generalize hv : ρ x = v at h1
  cases h1 with
  | own0 => omega
  | own _ _ _ b cap hm hn hc hb =>
   refine ⟨.pointer (some ⟨b, k * sz + 0, none⟩), ?_, .ptr id sz k 0 b hm⟩
   simp only [execOp, ho, hv, hyv, Sem.run_bind, run_indexAt ht he b 0 m cap kd (k : Int) xd xd, Result.andThen_ok, Sem.run_pure, Int.toNat_natCast, Nat.zero_add, Nat.add_zero]
theorem run_len_slice {t e : TypeId} {x : Operand} (ht : zcd P t = some e) (ho : o.op = .call { callee := .builtin .len, args := #[x], argTypes := #[t] }) (ρ : Operand → Value) (A : Option Addr) (n c : Nat) (hv : ρ x = .slice A n c) (w : World) :
  (execOp ρ o).run P w = .ok (.value (.int .i64 n)) w := by
 simp [execOp, ho, resolve, invoke, builtin, Builtin.len_, hv, run_underlying (zdv ht), goInt]
theorem does_len_sl {t e : TypeId} {x : Operand} {l : List AV} (ho : o.op = .call { callee := .builtin .len, args := #[x], argTypes := #[t] }) (ht : zcd P t = some e) (hx : F.eval x = .sl l) : Does P o F σ (.s (.int .i64 (l.length : Nat))) σ :=
 zch fun G ρ hr hop => by
  have h1 := hop x (by simp [ho, Op.operands, Call.operands])
  rw [hx] at h1
  generalize hv : ρ x = v at h1
  cases h1 with
  | slnil => exact ⟨_, run_len_slice ht ho ρ _ _ _ hv _, .s _⟩
  | sl b i cap sz' _ val hc hmx hone h3 h => exact ⟨_, run_len_slice ht ho ρ _ _ _ hv _, .s _⟩
theorem zc7 {t e : TypeId} {x : Operand} {id sz n : Nat} (ho : o.op = .call { callee := .builtin .len, args := #[x], argTypes := #[t] }) (ht : zcd P t = some e) (hx : F.eval x = .own id sz n) : Does P o F σ (.s (.int .i64 (n : Nat))) σ :=
 zch fun G ρ hr hop => by
  have h1 := hop x (by simp [ho, Op.operands, Call.operands])
  rw [hx] at h1
  generalize hv : ρ x = v at h1
  cases h1 with
  | own0 => exact ⟨_, run_len_slice ht ho ρ _ _ _ hv _, .s _⟩
  | own _ _ _ b cap hm hn hc hb => exact ⟨_, run_len_slice ht ho ρ _ _ _ hv _, .s _⟩
theorem run_load_one {t : TypeId} (ha : zc8 P t = some false) {b i : Nat} {v : Value} {w : World} (h : w.cell? ⟨b, i, none⟩ = some v) : (Instr.loadAt t (.pointer (some ⟨b, i, none⟩))).run P w = .ok v w := by
 simp [Instr.loadAt, Instr.sureAddr, loadVar, run_isAgg ha, h]
theorem run_load_agg {t : TypeId} {z : Option Value} {n bt : Nat} (ha : zc8 P t = some true) (hi : zb5 P t = some (z, n, bt)) {b i : Nat} {f : Nat → Value} {w : World} (h : ∀ j, j < n → w.cell? ⟨b, i + j, none⟩ = some (f j)) :
  (Instr.loadAt t (.pointer (some ⟨b, i, none⟩))).run P w = .ok (.agg ((List.range n).map f).toArray) w := by
 have h1 := run_loadCells (P := P) w ⟨b, i, none⟩ n f (fun j hj => by rw [Addr.add_lit]; exact h j hj)
 simp [Instr.loadAt, Instr.sureAddr, loadVar, run_isAgg ha, zcw hi, h1]
theorem does_load_ref {t : TypeId} {x : Operand} {c : AV} {cs : List AV} (ho : o.op = .load t x) (ha : zc8 P t = some false) (hx : F.eval x = .ref (c :: cs)) : Does P o F σ c σ :=
 zch fun G ρ hr hop => by
  have h1 := hop x (by simp [ho, Op.operands])
  rw [hx] at h1
  generalize hv : ρ x = v at h1
  cases h1 with
  | ref b i _ val hone h2 h =>
   have h3 : G.w.cell? ⟨b, i, none⟩ = some (val 0) := (h2 0 c rfl).2
   exact ⟨val 0, by simp only [execOp, ho, hv, Sem.run_bind, run_load_one ha h3, Result.andThen_ok, Sem.run_pure], h 0 c rfl⟩
theorem does_load_refs {t : TypeId} {x : Operand} {z : Option Value} {n bt : Nat} {cs : List AV} (ho : o.op = .load t x) (ha : zc8 P t = some true) (hi : zb5 P t = some (z, n, bt)) (hx : F.eval x = .ref cs) (hn : n ≤ cs.length) : Does P o F σ (.agg (cs.take n)) σ :=
 zch fun G ρ hr hop => by
  have h1 := hop x (by simp [ho, Op.operands])
  rw [hx] at h1
  generalize hv : ρ x = v at h1
  cases h1 with
  | ref b i _ val hone h2 h =>
   have h3 := run_load_agg (P := P) ha hi (w := G.w) (b := b) (i := i) (f := val) (fun j hj => (h2 j _ (List.getElem?_eq_getElem xd)).2)
   refine ⟨.agg ((List.range n).map val).toArray, by simp only [execOp, ho, hv, Sem.run_bind, h3, Result.andThen_ok, Sem.run_pure], ?_⟩
   refine .agg _ _ (by simp; omega) (fun c hc => hone c (List.mem_of_mem_take hc)) (fun j v c hv hc => ?_)
   rw [List.getElem?_take] at hc
   split at hc
   ·
    rename_i hj
    simp [hj] at hv
    subst hv
    exact h j c hc
   ·
    cases hc
def rowOf : Ob → Option (Nat × List AV)
 | .row sz cs => some (sz, cs)
 | .fz sz cs => some (sz, cs)
 | .dead => none
 | .mp _ => none
theorem row_read {G : Cx} {id sz k b : Nat} {ob : Ob} {cs : List AV} {e : AV} (hr : Rel G σ) (hs : σ[id]? = some ob) (ho : rowOf ob = some (sz, cs)) (hm : G.mu id = some (some b)) (he : cs[k]? = some e) :
  ∃ f : Nat → Value, e.cells.length = sz ∧ (∀ c ∈ e.cells, c.one = true) ∧ ∀ (j : Nat) c, e.cells[j]? = some c → G.w.cell? ⟨b, k * sz + j, none⟩ = some (f j) ∧ Rep G (f j) c := by
 have key : ∀ fr, RowAt G b sz cs fr → ∃ f : Nat → Value, e.cells.length = sz ∧ (∀ c ∈ e.cells, c.one = true) ∧ ∀ (j : Nat) c, e.cells[j]? = some c → G.w.cell? ⟨b, k * sz + j, none⟩ = some (f j) ∧ Rep G (f j) c := by
  rintro fr ⟨cur, t, f, h1, _, h2, h3⟩
  obtain ⟨h4, h5, h6⟩ := h3 k e he
  refine ⟨fun j => cur.getD (k * sz + j) undef, h4, h5, fun j c hc => ?_⟩
  obtain ⟨v, h7, h8⟩ := h6 j c hc
  have h9 : cur.getD (k * sz + j) undef = v := by rw [Array.getD_eq_getD_getElem?, h7]; rfl
  refine ⟨?_, by dsimp only; rw [h9]; exact h8⟩
  rw [cell_of_row _ b _ cur t f h1, h7]; dsimp only; rw [h9]
 have h1 := hr.obs id ob hs
 cases ob with
 | dead => cases ho
 | mp X => cases ho
 | row sz' cs' =>
  simp only [rowOf, Option.some.injEq, Prod.mk.injEq] at ho
  obtain ⟨rfl, rfl⟩ := ho
  simp only [ObOk, hm] at h1
  exact key _ h1.1
 | fz sz' cs' =>
  simp only [rowOf, Option.some.injEq, Prod.mk.injEq] at ho
  obtain ⟨rfl, rfl⟩ := ho
  simp only [ObOk, hm] at h1
  exact key _ h1.1
theorem zaq {t : TypeId} {x : Operand} {id sz k j : Nat} {ob : Ob} {cs : List AV} {e c : AV} (ho : o.op = .load t x) (ha : zc8 P t = some false) (hx : F.eval x = .ptr id sz k j) (hs : σ[id]? = some ob) (hb : rowOf ob = some (sz, cs)) (he : cs[k]? = some e) (hc : e.cells[j]? = some c) : Does P o F σ c σ :=
 zch fun G ρ hr hop => by
  have h1 := hop x (by simp [ho, Op.operands])
  rw [hx] at h1
  generalize hv : ρ x = v at h1
  cases h1 with
  | ptr _ _ _ _ b hm =>
   obtain ⟨f, _, _, h2⟩ := row_read hr hs hb hm he
   obtain ⟨h3, h4⟩ := h2 j c hc
   exact ⟨f j, by simp only [execOp, ho, hv, Sem.run_bind, run_load_one ha h3, Result.andThen_ok, Sem.run_pure], h4⟩
theorem does_load_ptrs {t : TypeId} {x : Operand} {z : Option Value} {n bt : Nat} {id sz k j : Nat} {ob : Ob} {cs : List AV} {e : AV} (ho : o.op = .load t x) (ha : zc8 P t = some true) (hi : zb5 P t = some (z, n, bt)) (hx : F.eval x = .ptr id sz k j) (hs : σ[id]? = some ob) (hb : rowOf ob = some (sz, cs)) (he : cs[k]? = some e) (hn : j + n ≤ e.cells.length) : Does P o F σ (.agg ((e.cells.drop j).take n)) σ :=
 zch fun G ρ hr hop => by
  have h1 := hop x (by simp [ho, Op.operands])
  rw [hx] at h1
  generalize hv : ρ x = v at h1
  cases h1 with
  | ptr _ _ _ _ b hm =>
   obtain ⟨f, _, hone, h2⟩ := row_read hr hs hb hm he
   have h3 := run_load_agg (P := P) ha hi (w := G.w) (b := b) (i := k * sz + j) (f := fun i => f (j + i)) (fun i hi => by rw [Nat.add_assoc]; exact (h2 (j + i) _ (List.getElem?_eq_getElem xd)).1)
   refine ⟨.agg ((List.range n).map (fun i => f (j + i))).toArray, by simp only [execOp, ho, hv, Sem.run_bind, h3, Result.andThen_ok, Sem.run_pure], ?_⟩
   refine .agg _ _ (by simp; omega) (fun c hc => hone c (List.mem_of_mem_drop (List.mem_of_mem_take hc))) (fun i v c hv hc => ?_)
   rw [List.getElem?_take] at hc
   split at hc
   ·
    rename_i hj
    simp [hj] at hv
    subst hv
    rw [List.getElem?_drop] at hc
    exact (h2 _ c hc).2
   ·
    cases hc
theorem za8 {t : TypeId} {x : Operand} {z : Option Value} {n bt : Nat} {id sz k : Nat} {ob : Ob} {cs : List AV} {e : AV} (ho : o.op = .load t x) (ha : zc8 P t = some true) (hi : zb5 P t = some (z, n, bt)) (hx : F.eval x = .ptr id sz k 0) (hs : σ[id]? = some ob) (hb : rowOf ob = some (sz, cs)) (he : cs[k]? = some e) (hn : e.cells.length = n) : Does P o F σ (.agg e.cells) σ := by
 have := does_load_ptrs (P := P) (F := F) (σ := σ) ho ha hi hx hs hb he xd
 rwa [List.drop_zero, ← hn, List.take_length] at this
end
end Go.Proofs.YtllkbjcemecmjaaGreat.Aw
end
section
namespace Go.Proofs.YtllkbjcemecmjaaGreat.Aw
open Go.RowKit
theorem rep_cells {G : Cx} {v : Value} {x : AV} (h : Rep G v x) (h1 : ∀ c ∈ x.cells, c.one = true) : v.cells.size = x.cells.length ∧ ∀ (j : Nat) u c, v.cells[j]? = some u → x.cells[j]? = some c → Rep G u c ∧ u.oneCell' = true := by
 by_cases hx : ∃ cs, x = .agg cs
 ·
  obtain ⟨cs, rfl⟩ := hx
  cases h with
  | agg vs _ hl hone h =>
   exact ⟨hl, fun j u c hu hc => ⟨h j u c hu hc, (h j u c hu hc).one (hone c (List.mem_of_getElem? hc))⟩⟩
 ·
  have hxc : x.cells = [x] := by cases x <;> first | rfl | (exact absurd ⟨_, rfl⟩ hx)
  have hone : x.one = true := h1 x (by rw [hxc]; simp)
  have hvo := h.one hone
  have hv : v.cells = #[v] := by cases v <;> first | rfl | (simp [Value.oneCell'] at hvo)
  rw [hxc, hv]
  refine ⟨rfl, fun j u c hu hc => ?_⟩
  cases j with
  | zero => simp at hu hc; subst hu hc; exact ⟨h, hvo⟩
  | succ j => simp at hc
theorem below_setRow0 {B : Nat} {w0 w : World} (h : Below B w0 w) {b : Nat} (hb : B ≤ b) (cs : Array Value) : Below B w0 (w.setRow b cs) :=
 h.trans ⟨rfl, rfl, rfl, by simp [World.setRow], fun k hk => setRow_other w b k cs xd⟩
theorem below_setRow {B : Nat} {w0 w : World} (h : BelowT B w0 w) {b : Nat} (hb : B ≤ b) (cs : Array Value) : BelowT B w0 (w.setRow b cs) := ⟨below_setRow0 h.toBelow hb cs, h.tab, h.tb⟩
theorem ObOk.of {G G' : Cx} {id : Nat} {ob : Ob} (h : ObOk G id ob) (hm : G'.mu id = G.mu id) (hb : G'.base = G.base) (hst : G'.St = G.St) (hsz : G.w.heap.size ≤ G'.w.heap.size) (hrow : ∀ b sz cs f, G.mu id = some (some b) → (ob = .row sz cs ∨ ob = .fz sz cs) → RowAt G b sz cs f → RowAt G' b sz cs f)
  (hmap : ∀ b X, G.mu id = some (some b) → X.At G.w b → ob = .mp X → G'.w.heap[b]? = G.w.heap[b]? ∧ ∀ j, G'.mu j = some (some b) → G.mu j = some (some b)) (hpr : G'.Pr = G.Pr := by rfl) : ObOk G' id ob := by
 have hsp : G'.SP = G.SP := by funext b o; simp only [Cx.SP, hst, hpr]
 cases ob with
 | dead => exact fun b h1 => Nat.lt_of_lt_of_le (h b (by rw [← hm]; exact h1)) hsz
 | mp X =>
  obtain ⟨b, h1, h2, h3, h4, h5⟩ := h
  obtain ⟨g1, g2⟩ := hmap b X h1 h2 rfl
  exact ⟨b, hm.trans h1, h2.keep g1, by rw [hb]; exact h3, by rw [hsp]; exact h4, fun j hj => h5 j (g2 j hj)⟩
 | row sz cs =>
  simp only [ObOk] at h ⊢
  rw [hm, hb, hsp]
  cases hx : G.mu id with
  | none => rw [hx] at h; exact h
  | some x =>
   rw [hx] at h
   cases x with
   | none => exact h
   | some b => exact ⟨hrow b sz cs _ hx (.inl rfl) h.1, h.2⟩
 | fz sz cs =>
  simp only [ObOk] at h ⊢
  rw [hm, hst]
  cases hx : G.mu id with
  | none => rw [hx] at h; exact h
  | some x =>
   rw [hx] at h
   cases x with
   | none => exact h
   | some b => exact ⟨hrow b sz cs _ hx (.inr rfl) h.1, h.2⟩
section
variable {G : Cx} {σ : List Ob}
def Cx.new (G : Cx) (id : Nat) (w : World) (b : Option Nat) : Cx := { G with w := w, mu := fun i => if i = id then some b else G.mu i }
theorem alloc_ext (hr : Rel G σ) (w : World) (hw : w.heap = G.w.heap) (cells : Array Value) (e : TypeId) : G.Ext (G.new σ.length (w.alloc (.cells cells e)) (some G.w.heap.size)) := by
 have hsz : w.heap.size = G.w.heap.size := by rw [hw]
 have hold : ∀ k, k < G.w.heap.size → (w.alloc (.cells cells e)).heap[k]? = G.w.heap[k]? := fun k hk => by rw [heap_alloc_old (r := k) w _ xd, hw]
 refine ⟨rfl, rfl, fun _ _ h => h, fun b o h => World.cell?_of_block (hold b (hr.st b o h)), fun id x h => ?_, by simp [Cx.new, hsz], fun b cur t f h => ⟨cur, ?_, rfl⟩, fun _ _ h => .inl h, rfl, fun _ _ h => .inl h⟩
 ·
  have : id ≠ σ.length := by
   intro e2
   rw [e2, hr.fresh _ (Nat.le_refl _)] at h
   cases h
  simp [Cx.new, this, h]
 ·
  exact (hold b (Array.getElem?_eq_some_iff.1 h).1).trans h
theorem alloc_rel (hr : Rel G σ) (w : World) (hw : w.heap = G.w.heap) (hbw : BelowT G.base G.w0 w) (cells : Array Value) (e : TypeId) (sz : Nat) (cs : List AV) (hn : cs.length * sz ≤ cells.size)
  (h : ∀ (k : Nat) x, cs[k]? = some x → x.cells.length = sz ∧ (∀ c ∈ x.cells, c.one = true) ∧ ∀ (j : Nat) c, x.cells[j]? = some c → ∃ v, cells[k * sz + j]? = some v ∧ Rep G v c) :
  Rel (G.new σ.length (w.alloc (.cells cells e)) (some G.w.heap.size)) (σ ++ [.row sz cs]) := by
 have hext := alloc_ext hr w hw cells e
 have hsz : w.heap.size = G.w.heap.size := by rw [hw]
 have hble : G.base ≤ G.w.heap.size := by have h1 := hr.le; have h2 := hr.below.size; omega
 refine ⟨hbw.alloc xd _, hr.le, fun b o hb => ?_, fun id ob hob => ?_, fun i j b hi hj hmi hmj => ?_, fun id hid => ?_⟩
 ·
  have := hr.st b o hb
  simp only [Cx.new, World.size_alloc]; omega
 ·
  by_cases hid : id < σ.length
  ·
   rw [List.getElem?_append_left hid] at hob
   have h1 := hr.obs id ob hob
   have hne : id ≠ σ.length := by omega
   have hm : (G.new σ.length (w.alloc (.cells cells e)) (some G.w.heap.size)).mu id = G.mu id := by simp [Cx.new, hne]
   have key : ∀ b sz cs f, RowAt G b sz cs f → RowAt (G.new σ.length (w.alloc (.cells cells e)) (some G.w.heap.size)) b sz cs f := by
    rintro b sz cs f ⟨cur, t, fr, h2, h3, h4, h5⟩
    refine ⟨cur, t, fr, ?_, h3, h4, fun k x hx => ⟨(h5 k x hx).1, (h5 k x hx).2.1, fun j c hc => ?_⟩⟩
    ·
     exact ((heap_alloc_old (r := b) w _ (by have := (Array.getElem?_eq_some_iff.1 h2).1; omega)).trans (by rw [hw])).trans h2
    ·
     obtain ⟨v, h6, h7⟩ := (h5 k x hx).2.2 j c hc
     exact ⟨v, h6, h7.ext hext⟩
   exact h1.of hm rfl rfl (by simp [Cx.new, hsz]) (fun b sz cs f _ _ hx => key b sz cs f hx) (fun b X hb hX _ => ⟨(heap_alloc_old (r := b) w _ (by have := hX.lt; omega)).trans (by rw [hw]), fun j hj => by
    by_cases e2 : j = σ.length
    ·
     subst e2
     have := hX.lt
     simp [Cx.new] at hj
     omega
    ·
     simpa [Cx.new, e2] using hj⟩)
  ·
   have hid2 : id = σ.length := by
    have := (List.getElem?_eq_some_iff.1 hob).1
    simp at this; omega
   subst hid2
   simp at hob
   subst hob
   simp only [ObOk, Cx.new, if_true]
   refine ⟨⟨cells, e, (0, 0), ?_, rfl, hn, fun k x hx => ⟨(h k x hx).1, (h k x hx).2.1, fun j c hc => ?_⟩⟩, hble, fun o ho => ?_⟩
   ·
    show (w.alloc (.cells cells e)).heap[G.w.heap.size]? = _
    rw [← hsz]; exact heap_alloc_new w _
   ·
    obtain ⟨v, h6, h7⟩ := (h k x hx).2.2 j c hc
    exact ⟨v, h6, h7.ext hext⟩
   ·
    have := hr.st _ _ ho
    omega
 ·
  -- of two rows in one block
  have old : ∀ i b, alive (σ ++ [.row sz cs]) i → (G.new σ.length (w.alloc (.cells cells e)) (some G.w.heap.size)).mu i = some (some b) → (i = σ.length ∧ b = G.w.heap.size) ∨ (i < σ.length ∧ alive σ i ∧ G.mu i = some (some b) ∧ b < G.w.heap.size) := by
   rintro i b ⟨sz1, cs1, hi⟩ hm
   by_cases hlt : i < σ.length
   ·
    right
    rw [List.getElem?_append_left hlt] at hi
    have hm2 : G.mu i = some (some b) := by simpa [Cx.new, Nat.ne_of_lt hlt] using hm
    refine ⟨hlt, ⟨sz1, cs1, hi⟩, hm2, ?_⟩
    have h1 := hr.obs i _ hi
    simp only [ObOk, hm2] at h1
    obtain ⟨⟨cur, t, fr, h2, _⟩, _⟩ := h1
    exact (Array.getElem?_eq_some_iff.1 h2).1
   ·
    left
    have := (List.getElem?_eq_some_iff.1 hi).1
    simp at this
    have he : i = σ.length := by omega
    subst he
    simp [Cx.new] at hm
    exact ⟨rfl, hm.symm⟩
  rcases old i b hi hmi with ⟨rfl, hb1⟩ | ⟨h1, h2, h3, h4⟩ <;> rcases old j b hj hmj with ⟨rfl, hb2⟩ | ⟨g1, g2, g3, g4⟩
  ·
   rfl
  ·
   omega
  ·
   omega
  ·
   exact hr.inj i j b h2 g2 h3 g3
 ·
  simp at hid
  have hne : id ≠ σ.length := by omega
  simp [Cx.new, hne, hr.fresh id xd]
theorem nil_ext (hr : Rel G σ) : G.Ext (G.new σ.length G.w none) := by
 refine ⟨rfl, rfl, fun _ _ h => h, fun _ _ _ => rfl, fun id x h => ?_, Nat.le_refl _, zcc.refl _, fun _ _ h => .inl h, rfl, fun _ _ h => .inl h⟩
 have : id ≠ σ.length := by
  intro e2
  rw [e2, hr.fresh _ (Nat.le_refl _)] at h
  cases h
 simp [Cx.new, this, h]
theorem RowAt.ext {G' : Cx} (e : G.Ext G') (hw : G'.w = G.w) {b sz : Nat} {cs : List AV} {f : Nat × Nat → Prop} (h : RowAt G b sz cs f) : RowAt G' b sz cs f := by
 obtain ⟨cur, t, fr, h2, h3, h4, h5⟩ := h
 refine ⟨cur, t, fr, by rw [hw]; exact h2, h3, h4, fun k x hx => ⟨(h5 k x hx).1, (h5 k x hx).2.1, fun j c hc => ?_⟩⟩
 obtain ⟨v, h6, h7⟩ := (h5 k x hx).2.2 j c hc
 exact ⟨v, h6, h7.ext e⟩
theorem nil_rel (hr : Rel G σ) (sz : Nat) : Rel (G.new σ.length G.w none) (σ ++ [.row sz []]) := by
 have hext := nil_ext hr
 refine ⟨hr.below, hr.le, hr.st, fun id ob hob => ?_, fun i j b hi hj hmi hmj => ?_, fun id hid => ?_⟩
 ·
  by_cases hid : id < σ.length
  ·
   rw [List.getElem?_append_left hid] at hob
   have h1 := hr.obs id ob hob
   have hm : (G.new σ.length G.w none).mu id = G.mu id := by simp [Cx.new, Nat.ne_of_lt hid]
   exact h1.of hm rfl rfl (Nat.le_refl _) (fun b sz cs f _ _ hx => hx.ext hext rfl) (fun b X hb hX _ => ⟨rfl, fun j hj => by
    by_cases e2 : j = σ.length
    ·
     subst e2; simp [Cx.new] at hj
    ·
     simpa [Cx.new, e2] using hj⟩)
  ·
   have hid2 : id = σ.length := by
    have := (List.getElem?_eq_some_iff.1 hob).1
    simp at this; omega
   subst hid2
   simp at hob
   subst hob
   simp [ObOk, Cx.new]
 ·
  have old : ∀ i b, alive (σ ++ [.row sz []]) i → (G.new σ.length G.w none).mu i = some (some b) → alive σ i ∧ G.mu i = some (some b) := by
   rintro i b ⟨sz1, cs1, hi⟩ hm
   by_cases hlt : i < σ.length
   ·
    rw [List.getElem?_append_left hlt] at hi
    exact ⟨⟨sz1, cs1, hi⟩, by simpa [Cx.new, Nat.ne_of_lt hlt] using hm⟩
   ·
    have := (List.getElem?_eq_some_iff.1 hi).1
    simp at this
    have he : i = σ.length := by omega
    subst he
    simp [Cx.new] at hm
  exact hr.inj i j b (old i b hi hmi).1 (old j b hj hmj).1 (old i b hi hmi).2 (old j b hj hmj).2
 ·
  simp at hid
  have hne : id ≠ σ.length := by omega
  simp [Cx.new, hne, hr.fresh id xd]
theorem write_ext {id b sz : Nat} {cs : List AV} {cur cur' : Array Value} {e : TypeId} (hr : Rel G σ) (hs : σ[id]? = some (.row sz cs)) (hm : G.mu id = some (some b)) (hcur : G.w.heap[b]? = some (.cells cur e (0, 0))) (hsz : cur'.size = cur.size) :
  G.Ext { G with w := G.w.setRow b cur' } := by
 have h1 := hr.obs id _ hs
 simp only [ObOk, hm] at h1
 refine ⟨rfl, rfl, fun _ _ h => h, fun b' o h => ?_, fun _ _ h => h, by simp [World.setRow], fun b' c t f h => ?_, fun _ _ h => .inl h, rfl, fun _ _ h => .inl h⟩
 ·
  have hne : b' ≠ b := fun e => h1.2.2 o (e ▸ h)
  exact World.cell?_of_block (setRow_other _ b b' cur' hne)
 ·
  by_cases hb : b' = b
  ·
   subst hb
   rw [hcur] at h
   cases h
   exact ⟨cur', setRow_heap _ _ cur cur' _ _ hcur, hsz⟩
  ·
   exact ⟨c, (setRow_other _ b b' cur' hb).trans h, rfl⟩
theorem write_rel {id b sz : Nat} {cs cs' : List AV} {cur cur' : Array Value} {e : TypeId} (hr : Rel G σ) (hs : σ[id]? = some (.row sz cs)) (hm : G.mu id = some (some b)) (hcur : G.w.heap[b]? = some (.cells cur e (0, 0))) (hsz : cur'.size = cur.size)
  (hn : cs'.length * sz ≤ cur'.size)
  (h : ∀ (k : Nat) x, cs'[k]? = some x → x.cells.length = sz ∧ (∀ c ∈ x.cells, c.one = true) ∧ ∀ (j : Nat) c, x.cells[j]? = some c → ∃ v, cur'[k * sz + j]? = some v ∧ Rep G v c) :
  Rel { G with w := G.w.setRow b cur' } (σ.set id (.row sz cs')) := by
 have hext := write_ext hr hs hm hcur hsz
 have h1 := hr.obs id _ hs
 simp only [ObOk, hm] at h1
 have hid : id < σ.length := (List.getElem?_eq_some_iff.1 hs).1
 refine ⟨below_setRow hr.below h1.2.1 cur', hr.le, fun b' o hb => by simpa [World.setRow] using hr.st b' o hb, fun i ob hob => ?_, fun i j b' hi hj hmi hmj => ?_, fun i hi => hr.fresh i (by simpa using hi)⟩
 ·
  by_cases hi : id = i
  ·
   subst hi
   rw [List.getElem?_set_self hid] at hob
   cases hob
   simp only [ObOk, hm]
   refine ⟨⟨cur', e, (0, 0), setRow_heap _ _ cur cur' _ _ hcur, rfl, hn, fun k x hx => ⟨(h k x hx).1, (h k x hx).2.1, fun j c hc => ?_⟩⟩, h1.2.1, h1.2.2⟩
   obtain ⟨v, h6, h7⟩ := (h k x hx).2.2 j c hc
   exact ⟨v, h6, h7.ext hext⟩
  ·
   rw [List.getElem?_set_ne hi] at hob
   have h2 := hr.obs i ob hob
   have key : ∀ b' sz cs f, b' ≠ b → RowAt G b' sz cs f → RowAt { G with w := G.w.setRow b cur' } b' sz cs f := by
    rintro b' sz cs f hne ⟨cu, t, fr, h2, h3, h4, h5⟩
    refine ⟨cu, t, fr, (setRow_other _ b b' cur' hne).trans h2, h3, h4, fun k x hx => ⟨(h5 k x hx).1, (h5 k x hx).2.1, fun j c hc => ?_⟩⟩
    obtain ⟨v, h6, h7⟩ := (h5 k x hx).2.2 j c hc
    exact ⟨v, h6, h7.ext hext⟩
   refine h2.of rfl rfl rfl (by simp [World.setRow]) (fun b' sz2 cs2 f hb' hob2 hx => by
    by_cases e2 : b' = b
    ·
     subst e2
     rcases hob2 with rfl | rfl
     ·
      exact absurd (hr.inj id i b' ⟨sz, cs, hs⟩ ⟨sz2, cs2, hob⟩ hm hb') hi
     ·
      -- a finished row in this block can have no cells
      simp only [ObOk, hb'] at h2
      obtain ⟨cu, t, fr, h3, h4, h5⟩ := hx
      have h3' := h3
      rw [hcur] at h3'
      cases h3'
      refine ⟨cur', e, (0, 0), setRow_heap _ _ cur cur' _ _ hcur, h4, by rw [hsz]; exact h5.1, fun k x hx => ⟨(h5.2 k x hx).1, (h5.2 k x hx).2.1, fun j c hc => ?_⟩⟩
      exact absurd (Or.inl (h2.2 k x j hx (List.getElem?_eq_some_iff.1 hc).1)) (h1.2.2 _)
    ·
     exact key b' _ _ _ e2 hx) (fun b' X hb' hX _ => ⟨setRow_other _ b b' cur' (fun e2 => by
    obtain ⟨es, cl, h3⟩ := hX.map
    rw [e2, hcur] at h3; cases h3), fun j hj => hj⟩)
 ·
  have old : ∀ i, alive (σ.set id (.row sz cs')) i → alive σ i := by
   rintro i ⟨sz1, cs1, hi⟩
   by_cases h2 : id = i
   ·
    subst h2; exact ⟨sz, cs, hs⟩
   ·
    rw [List.getElem?_set_ne h2] at hi; exact ⟨sz1, cs1, hi⟩
  exact hr.inj i j b' (old i hi) (old j hj) hmi hmj
theorem kill_rel (hr : Rel G σ) (id : Nat) : Rel G (σ.set id .dead) := by
 refine ⟨hr.below, hr.le, hr.st, fun i ob hob => ?_, fun i j b hi hj hmi hmj => ?_, fun i hi => hr.fresh i (by simpa using hi)⟩
 ·
  by_cases h : id = i
  ·
   subst h
   have hid : id < σ.length := by simpa using (List.getElem?_eq_some_iff.1 hob).1
   rw [List.getElem?_set_self hid] at hob
   cases hob
   exact fun b hb => (hr.obs id _ (List.getElem?_eq_getElem hid)).lt hb
  ·
   rw [List.getElem?_set_ne h] at hob; exact hr.obs i ob hob
 ·
  have old : ∀ i, alive (σ.set id .dead) i → alive σ i := by
   rintro i ⟨sz1, cs1, hi⟩
   by_cases h2 : id = i
   ·
    subst h2
    have hid : id < σ.length := by simpa using (List.getElem?_eq_some_iff.1 hi).1
    rw [List.getElem?_set_self hid] at hi
    cases hi
   ·
    rw [List.getElem?_set_ne h2] at hi; exact ⟨sz1, cs1, hi⟩
  exact hr.inj i j b (old i hi) (old j hj) hmi hmj
theorem rename_rel {id sz : Nat} {b : Option Nat} {cs : List AV} (hr : Rel G σ) (hs : σ[id]? = some (.row sz cs)) (hm : G.mu id = some b) : Rel (G.new σ.length G.w b) (σ.set id .dead ++ [.row sz cs]) ∧ G.Ext (G.new σ.length G.w b) := by
 have hext : G.Ext (G.new σ.length G.w b) := by
  refine ⟨rfl, rfl, fun _ _ h => h, fun _ _ _ => rfl, fun id x h => ?_, Nat.le_refl _, zcc.refl _, fun _ _ h => .inl h, rfl, fun _ _ h => .inl h⟩
  have : id ≠ σ.length := by
   intro e2
   rw [e2, hr.fresh _ (Nat.le_refl _)] at h
   cases h
  simp [Cx.new, this, h]
 have hr2 := kill_rel hr id
 have hid : id < σ.length := (List.getElem?_eq_some_iff.1 hs).1
 refine ⟨⟨hr.below, hr.le, hr.st, fun i ob hob => ?_, fun i j b' hi hj hmi hmj => ?_, fun i hi => ?_⟩, hext⟩
 ·
  by_cases hi : i < σ.length
  ·
   rw [List.getElem?_append_left (by simpa using hi)] at hob
   have h1 := hr2.obs i ob hob
   have hm2 : (G.new σ.length G.w b).mu i = G.mu i := by simp [Cx.new, Nat.ne_of_lt hi]
   exact h1.of hm2 rfl rfl (Nat.le_refl _) (fun b sz cs f _ _ hx => hx.ext hext rfl) (fun b' X hb' hX _ => ⟨rfl, fun j hj => by
    by_cases e2 : j = σ.length
    ·
     subst e2
     simp [Cx.new] at hj
     subst hj
     have h3 := hr.obs id _ hs
     simp only [ObOk, hm] at h3
     obtain ⟨⟨cu, te, fr, h4, _⟩, _⟩ := h3
     obtain ⟨es, cl, h5⟩ := hX.map
     rw [h4] at h5; cases h5
    ·
     simpa [Cx.new, e2] using hj⟩)
  ·
   have hi2 : i = σ.length := by
    have := (List.getElem?_eq_some_iff.1 hob).1
    simp at this; omega
   subst hi2
   rw [List.getElem?_append_right xo] at hob
   simp at hob
   subst hob
   have h1 := hr.obs id _ hs
   simp only [ObOk, hm] at h1
   have hm3 : (G.new σ.length G.w b).mu σ.length = some b := by simp [Cx.new]
   simp only [ObOk, hm3]
   cases b with
   | none => exact h1
   | some b => exact ⟨h1.1.ext hext rfl, h1.2.1, h1.2.2⟩
 ·
  have old : ∀ i b', alive (σ.set id .dead ++ [.row sz cs]) i → (G.new σ.length G.w b).mu i = some (some b') → (i = σ.length ∧ b = some b') ∨ (i < σ.length ∧ i ≠ id ∧ alive σ i ∧ G.mu i = some (some b')) := by
   rintro i b' ⟨sz1, cs1, hi⟩ hmi
   by_cases hlt : i < σ.length
   ·
    right
    rw [List.getElem?_append_left (by simpa using hlt)] at hi
    by_cases h2 : id = i
    ·
     subst h2; rw [List.getElem?_set_self hid] at hi; cases hi
    ·
     rw [List.getElem?_set_ne h2] at hi
     exact ⟨hlt, Ne.symm h2, ⟨sz1, cs1, hi⟩, by simpa [Cx.new, Nat.ne_of_lt hlt] using hmi⟩
   ·
    left
    have := (List.getElem?_eq_some_iff.1 hi).1
    simp at this
    have he : i = σ.length := by omega
    subst he
    simp [Cx.new] at hmi
    exact ⟨rfl, hmi⟩
  rcases old i b' hi hmi with ⟨rfl, h1⟩ | ⟨h1, h2, h3, h4⟩ <;> rcases old j b' hj hmj with ⟨rfl, g1⟩ | ⟨g1, g2, g3, g4⟩
  ·
   rfl
  ·
   exact absurd (hr.inj j id b' g3 ⟨sz, cs, hs⟩ g4 (by rw [hm, h1])) g2
  ·
   exact absurd (hr.inj i id b' h3 ⟨sz, cs, hs⟩ h4 (by rw [hm, g1])) h2
  ·
   exact hr.inj i j b' h3 g3 h4 g4
 ·
  simp at hi
  have hne : i ≠ σ.length := by omega
  simp [Cx.new, hne, hr.fresh i xd]
theorem drew_ext (G : Cx) : G.Ext { G with w := G.w.drew } := ⟨rfl, rfl, fun _ _ h => h, fun _ _ _ => rfl, fun _ _ h => h, Nat.le_refl _, zcc.refl _, fun _ _ h => .inl h, rfl, fun _ _ h => .inl h⟩
theorem drew_rel (hr : Rel G σ) : Rel { G with w := G.w.drew } σ := by
 refine ⟨hr.below.drew, hr.le, hr.st, fun id ob h => ?_, hr.inj, hr.fresh⟩
 have h1 := hr.obs id ob h
 exact h1.of rfl rfl rfl (Nat.le_refl _) (fun b sz cs f _ _ hx => by
  obtain ⟨cur, t, fr, h2, h3, h4, h5⟩ := hx
  refine ⟨cur, t, fr, h2, h3, h4, fun k x hx => ⟨(h5 k x hx).1, (h5 k x hx).2.1, fun j c hc => ?_⟩⟩
  obtain ⟨v, h7, h8⟩ := (h5 k x hx).2.2 j c hc
  exact ⟨v, h7, h8.ext (drew_ext G)⟩) (fun b X _ _ _ => ⟨rfl, fun _ h => h⟩)
end
end Go.Proofs.YtllkbjcemecmjaaGreat.Aw
end
section
namespace Go.Proofs.YtllkbjcemecmjaaGreat.Aw
open Go.RowKit
theorem row_one {G : Cx} {v : Value} {x : AV} {n : Nat} (h : Rep G v x) (h1 : x.cells.all AV.one = true) (hn : x.cells.length = n) : ∀ (k : Nat) y, [x][k]? = some y → y.cells.length = n ∧ (∀ c ∈ y.cells, c.one = true) ∧ ∀ (j : Nat) c, y.cells[j]? = some c → ∃ u, v.cells[k * n + j]? = some u ∧ Rep G u c := by
 have h2 := List.all_eq_true.1 h1
 obtain ⟨h3, h4⟩ := rep_cells h h2
 intro k y hy
 cases k with
 | succ k => simp at hy
 | zero =>
  simp at hy
  subst hy
  refine ⟨hn, h2, fun j c hc => ?_⟩
  have hj : j < v.cells.size := by rw [h3]; exact (List.getElem?_eq_some_iff.1 hc).1
  exact ⟨v.cells[j], by simp [hj], (h4 j _ c (by simp [hj]) hc).1⟩
section
variable {P : Program} {o : Oper} {F : Frm} {σ : List Ob}
theorem does_new {x r : AV} {σ' : List Ob} (h : ∀ (G : Cx) (ρ : Operand → Value), Rel G σ → (∀ y ∈ o.op.operands, Rep G (ρ y) (F.eval y)) → ∃ v G', (execOp ρ o).run P G.w = .ok (.value v) G'.w ∧ G.Ext G' ∧ Rel G' σ' ∧ Rep G' v r) : Does P o F σ r σ' := by
 intro G a next Q hr ho hn
 obtain ⟨v, G', h1, h2, h3, h4⟩ := h G a.eval hr ho
 unfold Oper.wp
 rw [h1]
 exact hn v G' h2 h3 h4
theorem does_eff {σ' : List Ob} (h : ∀ (G : Cx) (ρ : Operand → Value), Rel G σ → (∀ y ∈ o.op.operands, Rep G (ρ y) (F.eval y)) → ∃ G', (execOp ρ o).run P G.w = .ok .skip G'.w ∧ G.Ext G' ∧ Rel G' σ') : Does P o F σ .any σ' := by
 intro G a next Q hr ho hn
 obtain ⟨G', h1, h2, h3⟩ := h G a.eval hr ho
 unfold Oper.wp
 rw [h1]
 exact hn undef G' h2 h3 (.any _)
theorem zb3 {e : TypeId} {y : Operand} {x : AV} {n : Nat} (ho : o.op = .box e y) (hy : F.eval y = x) (h1 : x.cells.all AV.one = true) (hn : x.cells.length = n) : Does P o F σ (.ptr σ.length n 0 0) (σ ++ [.row n [x]]) :=
 does_new (x := x) fun G ρ hr hop => by
  have h2 := hop y (by simp [ho, Op.operands])
  rw [hy] at h2
  have h3 := row_one h2 h1 hn
  obtain ⟨h4, _⟩ := rep_cells h2 (List.all_eq_true.1 h1)
  refine ⟨.pointer (some ⟨G.w.heap.size, 0, none⟩), _, ?_, alloc_ext hr G.w rfl (ρ y).cells e, alloc_rel hr G.w rfl hr.below (ρ y).cells e n [x] (by simp [h4, hn]) h3, ?_⟩
  ·
   simp [execOp, ho, Instr.box, newVar, newRow, Cx.new]
  ·
   have := Rep.ptr (G := G.new σ.length (G.w.alloc (.cells (ρ y).cells e)) (some G.w.heap.size)) σ.length n 0 0 G.w.heap.size (by simp [Cx.new])
   simpa using this
theorem za1 {e : TypeId} {z : Value} {n bt : Nat} (ho : o.op = .alloc e) (hi : zb5 P e = some (some z, n, bt)) (h1 : (ofValue z).cells.all AV.one = true) (hn : (ofValue z).cells.length = n) : Does P o F σ (.ptr σ.length n 0 0) (σ ++ [.row n [ofValue z]]) :=
 does_new (x := .any) fun G ρ hr hop => by
  have h2 := rep_const G z
  have h3 := row_one h2 h1 hn
  obtain ⟨h4, _⟩ := rep_cells h2 (List.all_eq_true.1 h1)
  obtain ⟨i, h5, h6, h7, h8⟩ := info_of hi
  refine ⟨.pointer (some ⟨G.w.heap.size, 0, none⟩), _, ?_, alloc_ext hr G.w rfl z.cells e, alloc_rel hr G.w rfl hr.below z.cells e n [ofValue z] (by simp [h4, hn]) h3, ?_⟩
  ·
   simp [execOp, ho, Instr.alloc, zeroValue, typeInfo, h5, h6, newVar, newRow, Cx.new]
  ·
   have := Rep.ptr (G := G.new σ.length (G.w.alloc (.cells z.cells e)) (some G.w.heap.size)) σ.length n 0 0 G.w.heap.size (by simp [Cx.new])
   simpa using this
def putC (e : AV) (j : Nat) (xs : List AV) : AV := match e with
 | .agg cs => .agg (cs.take j ++ xs ++ cs.drop (j + xs.length))
 | _ => xs.headD .any
theorem putC_cells {e : AV} {j : Nat} {xs : List AV} (h1 : ∀ c ∈ xs, c.one = true) (hj : j + xs.length ≤ e.cells.length) (h0 : 0 < xs.length) : (putC e j xs).cells = e.cells.take j ++ xs ++ e.cells.drop (j + xs.length) := by
 by_cases hx : ∃ cs, e = .agg cs
 ·
  obtain ⟨cs, rfl⟩ := hx; rfl
 ·
  have hxc : e.cells = [e] := by cases e <;> first | rfl | (exact absurd ⟨_, rfl⟩ hx)
  rw [hxc] at hj ⊢
  simp at hj
  obtain ⟨y, rfl⟩ : ∃ y, xs = [y] := by
   match xs, hj, h0 with
   | [y], _, _ => exact ⟨y, rfl⟩
   | _ :: _ :: _, hj, _ => simp at hj; omega
  have hj0 : j = 0 := by simp at hj; omega
  subst hj0
  have hp : putC e 0 [y] = y := by cases e <;> first | rfl | (exact absurd ⟨_, rfl⟩ hx)
  rw [hp]
  have hy := h1 y xo
  cases y <;> simp_all [AV.cells, AV.one]
theorem zaj {t : TypeId} {z : Option Value} {n bt : Nat} {p y : Operand} {id sz k j : Nat} {cs : List AV} {e x : AV} (ho : o.op = .store t p y) (hi : zb5 P t = some (z, n, bt)) (hp : F.eval p = .ptr id sz k j) (hy : F.eval y = x)
  (hs : σ[id]? = some (.row sz cs)) (he : cs[k]? = some e) (h1 : x.cells.all AV.one = true) (hn : x.cells.length = n) (h0 : 0 < n) (hj : j + n ≤ sz) : Does P o F σ .any (σ.set id (.row sz (cs.set k (putC e j x.cells)))) :=
 does_eff fun G ρ hr hop => by
  have h2 := hop p (by simp [ho, Op.operands])
  have h3 := hop y (by simp [ho, Op.operands])
  rw [hp] at h2
  rw [hy] at h3
  have h1' := List.all_eq_true.1 h1
  obtain ⟨h4, h5⟩ := rep_cells h3 h1'
  generalize hv : ρ p = v at h2
  cases h2 with
  | ptr _ _ _ _ b hm =>
   have h6 := hr.obs id _ hs
   simp only [ObOk, hm] at h6
   obtain ⟨⟨cur, te, fr, h7, rfl, h8, h9⟩, h10, h11⟩ := h6
   have hk : k < cs.length := (List.getElem?_eq_some_iff.1 he).1
   have hfit : k * sz + j + 0 + (ρ y).cells.toList.length ≤ cur.size := by
    have : (k + 1) * sz ≤ cs.length * sz := Nat.mul_le_mul_right _ hk
    rw [Nat.add_mul] at this
    simp [h4, hn]
    omega
   have h12 := run_storeCells_at P b (k * sz + j) te (ρ y).cells.toList 0 cur G.w h7 hfit (fun u hu => by
    obtain ⟨i, hi2, rfl⟩ := List.mem_iff_getElem.1 hu
    simp at hi2
    exact (h5 i _ x.cells[i] (by simp [hi2]) xo).2)
   simp only [Nat.add_zero] at h12 hfit
   have hlen : (ρ y).cells.toList.length = n := by simp [h4, hn]
   obtain ⟨hesz, heone, her⟩ := h9 k e he
   obtain ⟨nc, hnc⟩ : ∃ nc : Array Value, nc = (cur.toList.take (k * sz + j) ++ (ρ y).cells.toList ++ cur.toList.drop (k * sz + j + (ρ y).cells.toList.length)).toArray := ⟨_, rfl⟩
   have hncs : nc.size = cur.size := by
    rw [hnc]
    simp only [List.size_toArray, List.length_append, List.length_take, List.length_drop, Array.length_toList]
    simp only [Array.length_toList] at hfit
    omega
   refine ⟨{ G with w := G.w.setRow b nc }, ?_, write_ext hr hs hm h7 hncs, write_rel hr hs hm h7 hncs (by simp only [List.length_set]; omega) ?_⟩
   ·
    have h13 : (Instr.storeAt t (.pointer (some ⟨b, k * sz + j, none⟩)) (ρ y)).run P G.w = .ok () (G.w.setRow b nc) := by
     rw [hnc]
     simp [Instr.storeAt, Instr.sureAddr, storeVar, zcw hi, h4, hn]
     simpa [h4, hn] using h12
    simp only [execOp, ho, hv, Sem.run_bind, h13, Result.andThen_ok, Sem.run_pure]
   ·
    have hpc := putC_cells (e := e) (j := j) (xs := x.cells) h1' xd xd
    have hget : ∀ q, nc[q]? = if q < k * sz + j then cur[q]? else if q < k * sz + j + n then (ρ y).cells[q - (k * sz + j)]? else cur[q]? := by
     intro q
     have ha : (cur.toList.take (k * sz + j)).length = k * sz + j := by simp; simp at hfit; omega
     rw [hnc]
     simp only [List.getElem?_toArray]
     by_cases hq : q < k * sz + j
     ·
      rw [if_pos hq, List.append_assoc, List.getElem?_append_left xd, List.getElem?_take, if_pos hq, Array.getElem?_toList]
     ·
      rw [if_neg hq]
      by_cases hq2 : q < k * sz + j + n
      ·
       rw [if_pos hq2, List.getElem?_append_left (by simp [hlen, h4, hn]; simp at ha; omega), List.getElem?_append_right xd, ha, Array.getElem?_toList]
      ·
       rw [if_neg hq2, List.getElem?_append_right (by simp [hlen, h4, hn]; simp at ha; omega), List.getElem?_drop, Array.getElem?_toList]
       congr 1
       simp only [List.length_append, ha, hlen]
       omega
    intro q y' hq
    by_cases hqk : k = q
    ·
     subst hqk
     rw [List.getElem?_set_self hk] at hq
     cases hq
     have hlc : (putC e j x.cells).cells.length = sz := by rw [hpc]; simp; omega
     refine ⟨hlc, fun c hc => ?_, fun i c hc => ?_⟩
     ·
      rw [hpc] at hc
      simp only [List.mem_append] at hc
      rcases hc with (hc | hc) | hc
      ·
       exact heone c (List.mem_of_mem_take hc)
      ·
       exact h1' c hc
      ·
       exact heone c (List.mem_of_mem_drop hc)
     ·
      have hi' : i < sz := by have := (List.getElem?_eq_some_iff.1 hc).1; omega
      rw [hget]
      rw [hpc] at hc
      have ha : (e.cells.take j).length = j := by simp; omega
      by_cases hi1 : i < j
      ·
       rw [if_pos xd]
       rw [List.append_assoc, List.getElem?_append_left xd, List.getElem?_take, if_pos hi1] at hc
       exact her i c hc
      ·
       rw [if_neg xd]
       by_cases hi2 : i < j + n
       ·
        rw [if_pos xd]
        rw [List.getElem?_append_left (by simp only [List.length_append, ha]; omega), List.getElem?_append_right xd, ha] at hc
        have hlt : i - j < (ρ y).cells.size := by omega
        refine ⟨(ρ y).cells[i - j], ?_, (h5 (i - j) _ c (by simp [hlt]) hc).1⟩
        rw [show k * sz + i - (k * sz + j) = i - j by omega]
        simp [hlt]
       ·
        rw [if_neg xd]
        rw [List.getElem?_append_right (by simp only [List.length_append, ha]; omega), List.getElem?_drop] at hc
        have : j + x.cells.length + (i - (e.cells.take j ++ x.cells).length) = i := by simp only [List.length_append, ha]; omega
        rw [this] at hc
        exact her i c hc
    ·
     rw [List.getElem?_set_ne hqk] at hq
     obtain ⟨g1, g2, g3⟩ := h9 q y' hq
     refine ⟨g1, g2, fun i c hc => ?_⟩
     obtain ⟨u, g4, g5⟩ := g3 i c hc
     refine ⟨u, ?_, g5⟩
     rw [hget]
     have hi' : i < sz := by have := (List.getElem?_eq_some_iff.1 hc).1; omega
     rcases Nat.lt_or_gt_of_ne hqk with h | h
     ·
      have : (k + 1) * sz ≤ q * sz := Nat.mul_le_mul_right _ h
      rw [Nat.add_mul] at this
      rw [if_neg xd, if_neg xd]
      exact g4
     ·
      have : (q + 1) * sz ≤ k * sz := Nat.mul_le_mul_right _ h
      rw [Nat.add_mul] at this
      rw [if_pos xd]
      exact g4
end
end Go.Proofs.YtllkbjcemecmjaaGreat.Aw
end
section
namespace Go.Proofs.YtllkbjcemecmjaaGreat.Aw
open Go.RowKit
structure RepL (G : Cx) (vs : Array Value) (cs : List AV) : Prop where
 size : vs.size = cs.length
 one : ∀ c ∈ cs, c.one = true
 rep : ∀ (j : Nat) v c, vs[j]? = some v → cs[j]? = some c → Rep G v c
def fillA (place : Nat → Option (Nat × Nat)) (cs : List AV) : List (Nat × AV) → Option (List AV)
 | [] => some cs
 | (i, x) :: rest => match place i with
  | none => none
  | some (off, size) => bif Nat.beq x.cells.length size && Nat.ble (off + x.cells.length) cs.length && x.cells.all AV.one then fillA place (cs.take off ++ x.cells ++ cs.drop (off + x.cells.length)) rest else none
theorem foldl_cells (off : Nat) : ∀ (vs : List Value) (k : Nat) (cells : Array Value), off + k + vs.length ≤ cells.size →
  ((vs.zipIdx k).foldl (fun cs p => cs.setIfInBounds (off + p.2) p.1) cells).toList = cells.toList.take (off + k) ++ vs ++ cells.toList.drop (off + k + vs.length)
 | [], k, cells, h => by simp
 | v :: vs, k, cells, h => by
  simp only [List.zipIdx_cons, List.foldl_cons]
  simp only [List.length_cons] at h
  rw [foldl_cells off vs (k + 1) _ (by simp; omega)]
  have := list_seg_step cells.toList (off + k) v vs (by simp; omega)
  simp only [Array.toList_setIfInBounds, List.length_cons, ← Nat.add_assoc] at this ⊢
  exact this
theorem fill_rep {G : Cx} {place : Nat → Option (Nat × Nat)} : ∀ (pv : List (Nat × Value)) (pa : List (Nat × AV)) (vs : Array Value) (cs cs' : List AV), RepL G vs cs → pv.length = pa.length →
  (∀ (i : Nat) p q, pv[i]? = some p → pa[i]? = some q → p.1 = q.1 ∧ Rep G p.2 q.2) → fillA place cs pa = some cs' → ∃ vs', Instr.fill place vs pv = some vs' ∧ RepL G vs' cs'
 | [], [], vs, cs, cs', h, _, _, hf => by simp [fillA] at hf; subst hf; exact ⟨vs, rfl, h⟩
 | [], _ :: _, _, _, _, _, hl, _, _ => by simp at hl
 | _ :: _, [], _, _, _, _, hl, _, _ => by simp at hl
 | (i, v) :: pv, (i', x) :: pa, vs, cs, cs', h, hl, hp, hf => by
  obtain ⟨h1, h2⟩ := hp 0 _ _ rfl rfl
  dsimp only at h1 h2
  subst h1
  unfold fillA at hf
  cases hpl : place i with
  | none => rw [hpl] at hf; cases hf
  | some q =>
   obtain ⟨off, size⟩ := q
   rw [hpl] at hf
   dsimp only at hf
   cases hc : (Nat.beq x.cells.length size && Nat.ble (off + x.cells.length) cs.length && x.cells.all AV.one) with
   | false => rw [hc] at hf; cases hf
   | true =>
    rw [hc] at hf
    simp only [cond_true] at hf
    rw [Bool.and_eq_true, Bool.and_eq_true] at hc
    obtain ⟨⟨h3, h4⟩, h5⟩ := hc
    replace h3 := Nat.eq_of_beq_eq_true h3
    replace h4 := Nat.le_of_ble_eq_true h4
    have h5' := List.all_eq_true.1 h5
    obtain ⟨h6, h7⟩ := rep_cells h2 h5'
    have hsz := h.size
    have hfold : (v.cells.zipIdx.foldl (fun cs (p : Value × Nat) => cs.setIfInBounds (off + p.2) p.1) vs).toList = vs.toList.take off ++ v.cells.toList ++ vs.toList.drop (off + x.cells.length) := by
     rw [← Array.foldl_toList, Array.toList_zipIdx]
     have := foldl_cells off v.cells.toList 0 vs (by simp; omega)
     simpa [h6] using this
    obtain ⟨nv, hnv⟩ : ∃ nv, nv = v.cells.zipIdx.foldl (fun cs (p : Value × Nat) => cs.setIfInBounds (off + p.2) p.1) vs := ⟨_, rfl⟩
    rw [← hnv] at hfold
    have hget : ∀ q, nv[q]? = (vs.toList.take off ++ v.cells.toList ++ vs.toList.drop (off + x.cells.length))[q]? := fun q => by rw [← Array.getElem?_toList, hfold]
    have hrl : RepL G nv (cs.take off ++ x.cells ++ cs.drop (off + x.cells.length)) := by
     refine ⟨?_, fun c hc => ?_, fun j u c hu hc => ?_⟩
     ·
      rw [← Array.length_toList, hfold]
      simp only [List.length_append, List.length_take, List.length_drop, Array.length_toList]
      omega
     ·
      simp only [List.mem_append] at hc
      rcases hc with (hc | hc) | hc
      ·
       exact h.one c (List.mem_of_mem_take hc)
      ·
       exact h5' c hc
      ·
       exact h.one c (List.mem_of_mem_drop hc)
     ·
      rw [hget] at hu
      have ha : (vs.toList.take off).length = off := by simp; omega
      have hb : (cs.take off).length = off := by simp; omega
      by_cases hj1 : j < off
      ·
       rw [List.append_assoc, List.getElem?_append_left xd, List.getElem?_take, if_pos hj1, Array.getElem?_toList] at hu
       rw [List.append_assoc, List.getElem?_append_left xd, List.getElem?_take, if_pos hj1] at hc
       exact h.rep j u c hu hc
      ·
       by_cases hj2 : j < off + x.cells.length
       ·
        rw [List.getElem?_append_left (by simp only [List.length_append, ha, Array.length_toList]; omega), List.getElem?_append_right xd, ha, Array.getElem?_toList] at hu
        rw [List.getElem?_append_left (by simp only [List.length_append, hb]; omega), List.getElem?_append_right xd, hb] at hc
        exact (h7 _ u c hu hc).1
       ·
        rw [List.getElem?_append_right (by simp only [List.length_append, ha, Array.length_toList]; omega), List.getElem?_drop, Array.getElem?_toList] at hu
        rw [List.getElem?_append_right (by simp only [List.length_append, hb]; omega), List.getElem?_drop] at hc
        simp only [List.length_append, ha, hb, Array.length_toList, h6] at hu hc
        exact h.rep _ u c hu hc
    obtain ⟨vs', h8, h9⟩ := fill_rep pv pa nv _ cs' hrl (by simpa using hl) (fun i p q h1 h2 => hp (i + 1) p q (by simpa using h1) (by simpa using h2)) hf
    refine ⟨vs', ?_, h9⟩
    unfold Instr.fill
    have h10 : ¬ (v.cells.size ≠ size ∨ off + v.cells.size > vs.size) := by omega
    simp only [hpl]
    rw [if_neg (by simpa using h10)]
    rw [← hnv]
    exact h8
def tyPlaces (P : Program) (t : TypeId) : Option (List (Nat × Nat)) := match P.underlying t with
 | some (.struct fs) => fs.toList.mapM fun f => (P.info? f.type).map fun i => (f.offset, i.size)
 | _ => none
theorem repl_const (G : Cx) (z : Value) (h : (ofValue z).cells.all AV.one = true) : RepL G z.cells (ofValue z).cells := by
 have h1 := List.all_eq_true.1 h
 obtain ⟨h2, h3⟩ := rep_cells (rep_const G z) h1
 exact ⟨h2, h1, fun j v c hv hc => (h3 j v c hv hc).1⟩
section
variable {P : Program} {o : Oper} {F : Frm} {σ : List Ob}
theorem parts_rep {G : Cx} {ρ : Operand → Value} {parts : Array (Nat × Operand)} (h : ∀ y ∈ ((parts.toList.map (·.2)).toArray), Rep G (ρ y) (F.eval y)) :
  ∀ (i : Nat) p q, ((parts.map fun (i, x) => (i, ρ x)).toList)[i]? = some p → (parts.toList.map fun (i, x) => (i, F.eval x))[i]? = some q → p.1 = q.1 ∧ Rep G p.2 q.2 := by
 intro i p q hp hq
 simp only [Array.toList_map, List.getElem?_map, Array.getElem?_toList] at hp hq
 cases hi : parts[i]? with
 | none => rw [hi] at hp; cases hp
 | some r =>
  rw [hi] at hp hq
  simp only [Option.map_some, Option.some.injEq] at hp hq
  subst hp hq
  refine ⟨rfl, h r.2 ?_⟩
  have : r ∈ parts := Array.mem_of_getElem? hi
  simp only [List.mem_toArray, List.mem_map]
  exact ⟨r, by simpa using this, rfl⟩
theorem za9 {t : TypeId} {parts : Array (Nat × Operand)} {z : Value} {n bt : Nat} {pl : List (Nat × Nat)} {cs : List AV} (ho : o.op = .build t parts) (hi : zb5 P t = some (some z, n, bt)) (hp : tyPlaces P t = some pl)
  (h1 : (ofValue z).cells.all AV.one = true) (hf : fillA (pl[·]?) (ofValue z).cells (parts.toList.map fun (i, x) => (i, F.eval x)) = some cs) : Does P o F σ (.agg cs) σ :=
 zch fun G ρ hr hop => by
  obtain ⟨i, h2, h3, h4, h5⟩ := info_of hi
  obtain ⟨vs, h6, h7⟩ := fill_rep (G := G) (place := (pl[·]?)) (parts.map fun (i, x) => (i, ρ x)).toList _ z.cells _ cs (repl_const G z h1) xo (parts_rep (fun y hy => hop y (by simpa [ho, Op.operands] using hy))) hf
  have h8 : P.built t (parts.map fun (i, x) => (i, ρ x)).toList = some vs := by
   unfold tyPlaces at hp
   unfold Program.built
   rw [h2]
   split at hp
   ·
    rename_i fs hu
    simp only [hu, h3, hp]
    have : (fun (x : Nat) => pl.toArray[x]?) = (fun (x : Nat) => pl[x]?) := by funext x; simp
    rw [this]
    exact h6
   ·
    cases hp
  exact ⟨.agg vs, by simp only [execOp, ho, Sem.run_bind, run_build G.w t _ vs h8, Result.andThen_ok, Sem.run_pure], .agg vs cs h7.size h7.one h7.rep⟩
def chunk (sz : Nat) (cs : List AV) (k : Nat) : AV := bif Nat.beq sz 1 then cs.getD k .any else .agg ((cs.drop (k * sz)).take sz)
def chunks (sz n : Nat) (cs : List AV) : List AV := (List.range n).map (chunk sz cs)
theorem chunks_row {G : Cx} {vs : Array Value} {cs : List AV} {sz n : Nat} (h : RepL G vs cs) (hn : cs.length = n * sz) :
  ∀ (k : Nat) y, (chunks sz n cs)[k]? = some y → y.cells.length = sz ∧ (∀ c ∈ y.cells, c.one = true) ∧ ∀ (j : Nat) c, y.cells[j]? = some c → ∃ u, vs[k * sz + j]? = some u ∧ Rep G u c := by
 intro k y hy
 unfold chunks at hy
 rw [List.getElem?_map] at hy
 have hk : k < n := by
  by_cases hk : k < n
  ·
   exact hk
  ·
   rw [List.getElem?_eq_none (by simp; omega)] at hy; cases hy
 rw [List.getElem?_range hk] at hy
 simp only [Option.map_some, Option.some.injEq] at hy
 have hb : (k + 1) * sz ≤ n * sz := Nat.mul_le_mul_right _ hk
 rw [Nat.add_mul] at hb
 have hcell : ∀ (j : Nat) c, cs[k * sz + j]? = some c → ∃ u, vs[k * sz + j]? = some u ∧ Rep G u c := fun j c hc => by
  have hlt : k * sz + j < vs.size := by rw [h.size]; exact (List.getElem?_eq_some_iff.1 hc).1
  exact ⟨vs[k * sz + j], by simp [hlt], h.rep _ _ c (by simp [hlt]) hc⟩
 unfold chunk at hy
 cases hs : Nat.beq sz 1 with
 | true =>
  rw [hs] at hy
  have hs1 := Nat.eq_of_beq_eq_true hs
  subst hs1
  simp only [cond_true] at hy
  have hlt : k < cs.length := by omega
  have hg : cs.getD k .any = cs[k] := by simp [List.getD, hlt]
  rw [hg] at hy
  subst hy
  have ho := h.one cs[k] (List.getElem_mem hlt)
  have hc1 : (cs[k]).cells = [cs[k]] := by
   generalize cs[k] = c at ho
   cases c <;> simp_all [AV.cells, AV.one]
  rw [hc1]
  refine ⟨rfl, fun c hc => by simp at hc; subst hc; exact ho, fun j c hc => ?_⟩
  cases j with
  | succ j => simp at hc
  | zero =>
   simp at hc
   subst hc
   exact hcell 0 _ (by simp [hlt])
 | false =>
  rw [hs] at hy
  simp only [cond_false] at hy
  subst hy
  refine ⟨by simp [AV.cells]; omega, fun c hc => h.one c (List.mem_of_mem_drop (List.mem_of_mem_take hc)), fun j c hc => ?_⟩
  simp only [AV.cells, List.getElem?_take, List.getElem?_drop] at hc
  split at hc
  ·
   exact hcell j c hc
  ·
   cases hc
theorem chunks_length (sz n : Nat) (cs : List AV) : (chunks sz n cs).length = n := by simp [chunks]
def zeroA (z : Value) (n : Nat) : List AV := (List.range n).map fun i => (ofValue z).cells.getD (i % (ofValue z).cells.length) .any
theorem zeroA_rep (G : Cx) (z : Value) (n : Nat) (h : (ofValue z).cells.all AV.one = true) (hz : 0 < (ofValue z).cells.length) : RepL G (madeCells z.cells n) (zeroA z n) := by
 have h0 := repl_const G z h
 refine ⟨by simp [madeCells, zeroA], fun c hc => ?_, fun j v c hv hc => ?_⟩
 ·
  obtain ⟨i, hi, rfl⟩ := List.mem_map.1 hc
  have hlt := Nat.mod_lt i hz
  rw [List.getD_eq_getElem?_getD, List.getElem?_eq_getElem hlt]
  exact h0.one _ (List.getElem_mem hlt)
 ·
  have hj : j < n := by
   have := (List.getElem?_eq_some_iff.1 hc).1
   simpa [zeroA] using this
  simp [madeCells, hj] at hv
  simp [zeroA, hj] at hc
  subst hv hc
  have hlt := Nat.mod_lt j hz
  have hlt2 : j % z.cells.size < z.cells.size := by rw [h0.size]; exact hlt
  refine h0.rep (j % z.cells.size) _ _ ?_ ?_
  ·
   simp [hlt2]
  ·
   rw [h0.size]; simp [List.getD, hlt]
theorem does_lit {t e : TypeId} {len : Nat} {parts : Array (Nat × Operand)} {z : Value} {n bt : Nat} {cs : List AV} (ho : o.op = .buildSlice t len parts) (ht : zcd P t = some e) (hi : zb5 P e = some (some z, n, bt))
  (h1 : (ofValue z).cells.all AV.one = true) (hn : (ofValue z).cells.length = n) (h0 : 0 < n) (hlen : 0 < len) (hsm : len * n ≤ 16777216) (hf : fillA (fun i => some (i * n, n)) (zeroA z (len * n)) (parts.toList.map fun (i, x) => (i, F.eval x)) = some cs) (hcl : cs.length = len * n) : Does P o F σ (.own σ.length n len) (σ ++ [.row n (chunks n len cs)]) :=
 does_new (x := .any) fun G ρ hr hop => by
  obtain ⟨i, h2, h3, h4, h5⟩ := info_of hi
  obtain ⟨vs, h6, h7⟩ := fill_rep (G := G) (place := fun i => some (i * n, n)) (parts.map fun (i, x) => (i, ρ x)).toList _ (madeCells z.cells (len * n)) _ cs (zeroA_rep G z (len * n) h1 xd) xo (parts_rep (fun y hy => hop y (by simpa [ho, Op.operands] using hy))) hf
  have hvs : vs.size = len * n := by rw [h7.size]; exact hcl
  have hpos : ¬ (len * n = 0) := by
   have := Nat.mul_pos hlen h0
   omega
  have h8 : (Instr.buildSlice t len (parts.map fun (i, x) => (i, ρ x))).run P G.w = .ok (.slice (some ⟨G.w.heap.size, 0, none⟩) len len) (G.w.alloc (.cells vs e)) := by
   have hsm' : ¬ (16777216 < len * n) := by omega
   have h6' : Instr.fill (fun i => some (i * n, n)) (Array.map (fun x => z.cells[x % z.cells.size]!) (Array.range (len * n))) (parts.map fun (i, x) => (i, ρ x)).toList = some vs := h6
   simp only [Array.toList_map] at h6'
   simp [Instr.buildSlice, run_underlying (zdv ht), zcw hi, hsm', hpos, zeroValue, typeInfo, h2, h3, h6', newRow]
  have hrow := chunks_row h7 hcl
  have h9 := alloc_rel hr G.w rfl hr.below vs e n (chunks n len cs) (by rw [chunks_length]; omega) hrow
  refine ⟨.slice (some ⟨G.w.heap.size, 0, none⟩) len len, _, ?_, alloc_ext hr G.w rfl vs e, h9, ?_⟩
  ·
   simp only [execOp, ho, Sem.run_bind, h8, Result.andThen_ok, Sem.run_pure]; rfl
  ·
   refine .own σ.length n len G.w.heap.size len (by simp [Cx.new]) (Nat.le_refl _) ?_ ⟨vs, e, (0, 0), ?_, hvs⟩
   ·
    have : len ≤ len * n := Nat.le_mul_of_pos_right _ h0
    unfold maxLen; omega
   ·
    show (G.w.alloc (.cells vs e)).heap[G.w.heap.size]? = _
    exact heap_alloc_new G.w _
theorem does_lit1 {t e : TypeId} {y : Operand} {z : Value} {bt : Nat} {x : AV} (ho : o.op = .buildSlice t 1 #[(0, y)]) (ht : zcd P t = some e) (hi : zb5 P e = some (some z, 1, bt))
  (h1 : (ofValue z).cells.all AV.one = true) (hn : (ofValue z).cells.length = 1) (hy : F.eval y = x) (hx : x.one = true) : Does P o F σ (.own σ.length 1 1) (σ ++ [.row 1 [x]]) := by
 have hxc : x.cells = [x] := by cases x <;> simp_all [AV.cells, AV.one]
 have hz : (zeroA z (1 * 1)).length = 1 := by simp [zeroA]
 have hf : fillA (fun i => some (i * 1, 1)) (zeroA z (1 * 1)) ((#[(0, y)] : Array (Nat × Operand)).toList.map fun (i, x) => (i, F.eval x)) = some [x] := by
  have h2 : (zeroA z (1 * 1)).drop 1 = [] := List.drop_eq_nil_of_le xd
  simp only [List.map_cons, List.map_nil, hy, fillA, hxc, hz]
  simp [hx, h2]
  rfl
 have := does_lit (P := P) (F := F) (σ := σ) ho ht hi h1 hn xf xf xf hf xo
 have hc : chunks 1 1 [x] = [x] := by simp [chunks, chunk, List.range_succ]
 rwa [hc] at this
theorem lit1_s {t e : TypeId} {y : Operand} {z : Value} {bt : Nat} {v : Value} (ho : o.op = .buildSlice t 1 #[(0, y)]) (ht : zcd P t = some e) (hi : zb5 P e = some (some z, 1, bt))
  (h1 : (ofValue z).cells.all AV.one = true) (hn : (ofValue z).cells.length = 1) (hy : F.eval y = .s v) (hx : (AV.s v).one = true) : Does P o F σ (.own σ.length 1 1) (σ ++ [.row 1 [.s v]]) := does_lit1 ho ht hi h1 hn hy hx
theorem lit1_sl {t e : TypeId} {y : Operand} {z : Value} {bt : Nat} {l : List AV} (ho : o.op = .buildSlice t 1 #[(0, y)]) (ht : zcd P t = some e) (hi : zb5 P e = some (some z, 1, bt))
  (h1 : (ofValue z).cells.all AV.one = true) (hn : (ofValue z).cells.length = 1) (hy : F.eval y = .sl l) (hx : (AV.sl l).one = true) : Does P o F σ (.own σ.length 1 1) (σ ++ [.row 1 [.sl l]]) := does_lit1 ho ht hi h1 hn hy hx
theorem does_litA {t e : TypeId} {y : Operand} {z : Value} {n bt : Nat} {cs : List AV} (ho : o.op = .buildSlice t 1 #[(0, y)]) (ht : zcd P t = some e) (hi : zb5 P e = some (some z, n, bt))
  (h1 : (ofValue z).cells.all AV.one = true) (hn : (ofValue z).cells.length = n) (h2 : 2 ≤ n) (hsm : n ≤ 16777216) (hy : F.eval y = .agg cs) (hx : cs.all AV.one = true) (hl : cs.length = n) : Does P o F σ (.own σ.length n 1) (σ ++ [.row n [.agg cs]]) := by
 have hz : (zeroA z (1 * n)).length = n := by simp [zeroA]
 have hf : fillA (fun i => some (i * n, n)) (zeroA z (1 * n)) ((#[(0, y)] : Array (Nat × Operand)).toList.map fun (i, x) => (i, F.eval x)) = some cs := by
  have h3 : (zeroA z (1 * n)).drop n = [] := List.drop_eq_nil_of_le xd
  have hc : (AV.agg cs).cells = cs := rfl
  have hb : (Nat.beq cs.length n && Nat.ble (0 * n + cs.length) (zeroA z (1 * n)).length && cs.all AV.one) = true := by
   rw [hx, hz, hl, Nat.zero_mul, Nat.zero_add]
   simp
  simp only [List.map_cons, List.map_nil, hy, fillA, hc, hb, cond_true]
  have hz2 : (zeroA z n).length = n := by simp [zeroA]
  have h3' : (zeroA z n).drop n = [] := List.drop_eq_nil_of_le xd
  simp [hl, h3', hz2]
 have := does_lit (P := P) (F := F) (σ := σ) ho ht hi h1 hn xd xf xd hf xd
 have hc : chunks n 1 cs = [.agg cs] := by
  have hb : Nat.beq cs.length 1 = false := by
   cases h : Nat.beq cs.length 1 with
   | false => rfl
   | true => have := Nat.eq_of_beq_eq_true h; omega
  subst hl
  simp only [chunks, chunk, List.range_succ, List.range_zero, List.nil_append, List.map_cons, List.map_nil, hb, cond_false, Nat.zero_mul, List.drop_zero, List.take_length]
 rwa [hc] at this
theorem does_lit0 {t e : TypeId} {parts : Array (Nat × Operand)} {z : Option Value} {n bt : Nat} (ho : o.op = .buildSlice t 0 parts) (hp : parts = #[]) (ht : zcd P t = some e) (hi : zb5 P e = some (z, n, bt)) : Does P o F σ .emp σ :=
 does_new (x := .any) fun G ρ hr hop => by
  subst hp
  have h8 : (Instr.buildSlice t 0 #[]).run P G.w = .ok (.slice (some ⟨G.w.heap.size, 0, none⟩) 0 0) (G.w.alloc (.cells #[] e)) := by
   have h0 : ∀ f : Nat → Value, Array.map f (Array.range 0) = #[] := fun f => by simp [Array.range_zero']
   simp [Instr.buildSlice, run_underlying (zdv ht), zcw hi, Instr.fill, newRow, h0]
  have hext := alloc_ext hr G.w rfl #[] e
  refine ⟨.slice (some ⟨G.w.heap.size, 0, none⟩) 0 0, { G with w := G.w.alloc (.cells #[] e) }, ?_, ?_, ?_, .emp _ (fun a ha => by cases ha; rfl)⟩
  ·
   simp only [execOp, ho, Array.map_empty, Sem.run_bind, h8, Result.andThen_ok, Sem.run_pure]
  ·
   exact ⟨rfl, rfl, fun _ _ h => h, hext.cell, fun _ _ h => h, hext.size, hext.rows, fun _ _ h => .inl h, rfl, fun _ _ h => .inl h⟩
  ·
   have hold : ∀ k, k < G.w.heap.size → (G.w.alloc (.cells #[] e)).heap[k]? = G.w.heap[k]? := fun k hk => heap_alloc_old (r := k) G.w _ hk
   have he : G.Ext { G with w := G.w.alloc (.cells #[] e) } := ⟨rfl, rfl, fun _ _ h => h, hext.cell, fun _ _ h => h, hext.size, hext.rows, fun _ _ h => .inl h, rfl, fun _ _ h => .inl h⟩
   have hble : G.base ≤ G.w.heap.size := by have h1 := hr.le; have h2 := hr.below.size; omega
   refine ⟨hr.below.alloc hble _, hr.le, fun b o hb => by have := hr.st b o hb; simp only [World.size_alloc]; omega, fun id ob hob => ?_, hr.inj, hr.fresh⟩
   refine (hr.obs id ob hob).of rfl rfl rfl xo (fun b sz cs f _ _ hx => ?_) (fun b X _ hX _ => ⟨hold b hX.lt, fun _ h => h⟩)
   obtain ⟨cur, t, fr, h2, h3, h4, h5⟩ := hx
   refine ⟨cur, t, fr, (hold b (Array.getElem?_eq_some_iff.1 h2).1).trans h2, h3, h4, fun k x hx => ⟨(h5 k x hx).1, (h5 k x hx).2.1, fun j c hc => ?_⟩⟩
   obtain ⟨v, h6, h7⟩ := (h5 k x hx).2.2 j c hc
   exact ⟨v, h6, h7.ext he⟩
theorem does_make {t e : TypeId} {y y' : Operand} {kl kc : IntKind} {l c : Nat} {i i' : Int} {z : Value} {n bt : Nat} (ho : o.op = .makeSlice t y y') (ht : zcd P t = some e) (hi : zb5 P e = some (some z, n, bt))
  (h1 : (ofValue z).cells.all AV.one = true) (hn : (ofValue z).cells.length = n) (h0 : 0 < n) (hy : F.eval y = .s (.int kl i)) (hy' : F.eval y' = .s (.int kc i')) (hil : i = (l : Int)) (hic : i' = (c : Int)) (hlc : l ≤ c) (hb : bt * c ≤ 281474976710656) (hm : c ≤ 9223372036854775807) :
  Does P o F σ (.own σ.length n l) (σ ++ [.row n (List.replicate l (ofValue z))]) :=
 does_new (x := .any) fun G ρ hr hop => by
  obtain ⟨inf, h2, h3, h4, h5⟩ := info_of hi
  have g1 := hop y (by simp [ho, Op.operands])
  have g2 := hop y' (by simp [ho, Op.operands])
  rw [hy] at g1
  rw [hy'] at g2
  have g3 := rep_s g1
  have g4 := rep_s g2
  subst hil hic
  have hb' : (inf.bytes : Int) * (c : Int) ≤ 281474976710656 := by
   rw [h5]
   have : ((bt * c : Nat) : Int) ≤ 281474976710656 := by omega
   rwa [Int.natCast_mul] at this
  have hr1 := run_make (P := P) G.w t e inf z (zdv ht) h2 h3 kl kc (l : Int) (c : Int) (Int.natCast_nonneg l) (Int.ofNat_le.2 hlc) hb' xd
  simp only [Int.toNat_natCast, h4] at hr1
  have h7 := repl_const G z h1
  have hrow : ∀ (k : Nat) x, (List.replicate l (ofValue z))[k]? = some x → x.cells.length = n ∧ (∀ c ∈ x.cells, c.one = true) ∧ ∀ (j : Nat) cc, x.cells[j]? = some cc → ∃ v, (madeCells z.cells (c * n))[k * n + j]? = some v ∧ Rep G v cc := by
   intro k x hx
   rw [List.getElem?_replicate] at hx
   split at hx
   ·
    rename_i hk
    cases hx
    refine ⟨hn, h7.one, fun j cc hcc => ?_⟩
    have hj : j < n := by have := (List.getElem?_eq_some_iff.1 hcc).1; omega
    have hsz : z.cells.size = n := by rw [h7.size]; exact hn
    have hlt : k * n + j < c * n := by
     have : (k + 1) * n ≤ c * n := Nat.mul_le_mul_right _ xd
     rw [Nat.add_mul] at this; omega
    have hmod : (k * n + j) % z.cells.size = j := by rw [hsz, Nat.mul_comm, Nat.mul_add_mod]; exact Nat.mod_eq_of_lt hj
    refine ⟨z.cells[j]'(by omega), ?_, h7.rep j _ cc (by simp [show j < z.cells.size by omega]) hcc⟩
    simp [madeCells, hlt, hmod, show j < z.cells.size by omega]
   ·
    cases hx
  have h9 := alloc_rel hr G.w rfl hr.below (madeCells z.cells (c * n)) e n (List.replicate l (ofValue z)) (by simp [size_madeCells]; exact Nat.mul_le_mul_right _ hlc) hrow
  refine ⟨.slice (some ⟨G.w.heap.size, 0, none⟩) l c, _, ?_, alloc_ext hr G.w rfl _ e, h9, ?_⟩
  ·
   simp only [execOp, ho, g3, g4, Sem.run_bind, hr1, Result.andThen_ok, Sem.run_pure]; rfl
  ·
   refine .own σ.length n l G.w.heap.size c (by simp [Cx.new]) hlc (by unfold maxLen; exact hm) ⟨madeCells z.cells (c * n), e, (0, 0), ?_, size_madeCells _ _⟩
   show (G.w.alloc (.cells _ e)).heap[G.w.heap.size]? = _
   exact heap_alloc_new G.w _
end
end Go.Proofs.YtllkbjcemecmjaaGreat.Aw
end
