/-
  Texts joined: Base, Core, Rd, Find, Name, Pred, Net, Places, Places2, Own, Valid, Valid2, Mark. Conditions: none.
-/
import Derived.Test.YtanfaepjamkbjaaGreatProg
import Derived.WalkKit
import Derived.WalkSpells
import Derived.WalkLawsBesides
import Derived.Deep.QuietTactic
import Derived.BigQuiet
import Derived.Lib.Hide
import Derived.Deep.RegionHeld3
import Derived.Deep.LoopGhost
import Derived.Deep.DeepCutAuto
import Derived.Deep.AppendLies
import Derived.Laws.MakeOwn
import Derived.Maps.AppendAt
import Derived.OwnWalk
import Derived.Deep.Light
section
namespace Go.Proofs.YtanfaepjamkbjaaGreat
set_option linter.unusedSimpArgs false
set_option linter.unusedVariables false
open Go.RowKit

theorem ret_int {k : IntKind} {a b : Int} (h : a = b) : Ending.returned (.int k a) = .returned (.int k b) := by rw [h]

/-- the post out of the walk's reach -/
theorem calls_cps {P : Program} {f : FuncId} {args : Array Value} {w : World} {Post : Ending → World → Prop}
    (h : ∀ R : Ending → World → Prop, (∀ e w', Post e w' → R e w') → Calls P f args w R) : Calls P f args w Post := h Post fun _ _ h => h

/-- f has a body: a call of it enters it -/
def Ent (f : FuncId) : Prop := ∀ args w, (callFunc f args).run Tryz.prog w = .ok (.enter f args) w
theorem ent_of {f : FuncId} {fn : Func} {c : Code} (hf : Tryz.prog.funcs[f]? = some fn) (hname : (fn.name == "runtime.NumGoroutine") = false) (hb : fn.body = some c) : Ent f := fun args w => by
  have h1 : fn.name ≠ "runtime.NumGoroutine" := by simpa using hname
  simp [callFunc, hf, h1, hb]

/-- what was there is as it was -/
def Ext (w w' : World) : Prop := Below w.heap.size w w'
theorem Ext.refl (w : World) : Ext w w := Below.refl _ _
theorem Ext.trans {a b c : World} (h : Ext a b) (k : Ext b c) : Ext a c := Below.trans h (Below.mono k (Below.size h))

/-- a block of two cells of the call's own -/
def B2 (w : World) (g : Nat) (x y : Value) : Prop :=
  w.cell? ⟨g, 0, none⟩ = some x ∧ w.cell? ⟨g, 1, none⟩ = some y ∧ w.frozen? ⟨g, 0, none⟩ = false ∧ w.frozen? ⟨g, 1, none⟩ = false ∧ g < w.heap.size
theorem B2.after {B : Nat} {W w1 : World} {g : Nat} {x y : Value} (hb : Below B W w1) (h : B2 W g x y) (hg : g < B) : B2 w1 g x y :=
  ⟨(hb.cell hg).trans h.1, (hb.cell hg).trans h.2.1, (hb.frozen hg).trans h.2.2.1, (hb.frozen hg).trans h.2.2.2.1, Nat.lt_of_lt_of_le h.2.2.2.2 hb.size⟩
theorem B2.drewN {W : World} {g : Nat} {x y : Value} (h : B2 W g x y) (n : Nat) : B2 (W.drewN n) g x y := h
theorem B2.drew {W : World} {g : Nat} {x y : Value} (h : B2 W g x y) : B2 W.drew g x y := h
theorem B2.set {W : World} {g : Nat} {x y : Value} (h : B2 W g x y) (u v : Value) : B2 ((W.setCell ⟨g, 0, none⟩ u).setCell ⟨g, 1, none⟩ v) g u v := by
  obtain ⟨h1, h2, h3, h4, h5⟩ := h
  exact ⟨by simp [go_sem, h1], by simp [go_sem, h2], by simp [go_sem, h3], by simp [go_sem, h4], by simpa using h5⟩
theorem cell_set2 {W : World} {g g' o : Nat} {v x y : Value} (h : W.cell? ⟨g, o, none⟩ = some v) (hne : g ≠ g') : ((W.setCell ⟨g', 0, none⟩ x).setCell ⟨g', 1, none⟩ y).cell? ⟨g, o, none⟩ = some v := by
  rw [World.cell?_setCell_other _ _ _ _ (fun e => hne (congrArg Addr.block e).symm), World.cell?_setCell_other _ _ _ _ (fun e => hne (congrArg Addr.block e).symm)]
  exact h
/-- a block of one cell of the call's own -/
def B1 (w : World) (g : Nat) (x : Value) : Prop :=
  w.cell? ⟨g, 0, none⟩ = some x ∧ w.frozen? ⟨g, 0, none⟩ = false ∧ g < w.heap.size
theorem B1.after {B : Nat} {W w1 : World} {g : Nat} {x : Value} (hb : Below B W w1) (h : B1 W g x) (hg : g < B) : B1 w1 g x :=
  ⟨(hb.cell hg).trans h.1, (hb.frozen hg).trans h.2.1, Nat.lt_of_lt_of_le h.2.2 hb.size⟩

theorem B1.drewN {W : World} {g : Nat} {x : Value} (h : B1 W g x) (n : Nat) : B1 (W.drewN n) g x := h
theorem B1.lt {w : World} {g : Nat} {x : Value} (h : B1 w g x) : g < w.heap.size := h.2.2
theorem B2.lt {w : World} {g : Nat} {x y : Value} (h : B2 w g x y) : g < w.heap.size := h.2.2.2.2

/-- below block N the world W is as w was, but for block c -/
structure Off (c N : Nat) (w W : World) : Prop where
  os : W.os = w.os
  tape : W.tape = w.tape
  output : W.output = w.output
  size : w.heap.size ≤ W.heap.size
  block : ∀ k, k < N → k ≠ c → W.heap[k]? = w.heap[k]?
theorem Off.refl (c N : Nat) (w : World) : Off c N w w := ⟨rfl, rfl, rfl, Nat.le_refl _, fun _ _ _ => rfl⟩
theorem Off.trans {c N : Nat} {a b d : World} (h : Off c N a b) (k : Off c N b d) : Off c N a d :=
  ⟨k.os.trans h.os, k.tape.trans h.tape, k.output.trans h.output, Nat.le_trans h.size k.size, fun i hi hc => (k.block i hi hc).trans (h.block i hi hc)⟩
theorem Off.mono {c N N' : Nat} {w W : World} (h : Off c N w W) (hN : N' ≤ N) : Off c N' w W := ⟨h.os, h.tape, h.output, h.size, fun k hk hc => h.block k (Nat.lt_of_lt_of_le hk hN) hc⟩
theorem Off.of_below {c N : Nat} {w W : World} (h : Below N w W) : Off c N w W := ⟨h.os, h.tape, h.output, h.size, fun k hk _ => h.block k hk⟩
theorem Off.step {c N N' : Nat} {w W W' : World} (h : Off c N w W) (k : Off c N' W W') (hN : N ≤ N') : Off c N w W' := h.trans (k.mono hN)
theorem Off.stepB {c N N' : Nat} {w W W' : World} (h : Off c N w W) (k : Below N' W W') (hN : N ≤ N') : Off c N w W' := h.trans (Off.of_below (k.mono hN))
theorem Off.drew {c N : Nat} {w W : World} (h : Off c N w W) : Off c N w W.drew := ⟨h.os, h.tape, h.output, h.size, h.block⟩
theorem Off.drewN {c N : Nat} {w W : World} (h : Off c N w W) (n : Nat) : Off c N w (W.drewN n) := ⟨h.os, h.tape, h.output, h.size, h.block⟩
theorem Off.alloc {c N : Nat} {w W : World} (h : Off c N w W) (hN : N ≤ W.heap.size) (o : Obj) : Off c N w (W.alloc o) := h.stepB ((Below.refl N W).alloc hN o) (Nat.le_refl _)
theorem Off.setCell {c N : Nat} {w W : World} (h : Off c N w W) {p : Addr} (hp : N ≤ p.block ∨ p.block = c) (u : Value) : Off c N w (W.setCell p u) :=
  h.trans ⟨rfl, rfl, rfl, by simp [World.setCell], fun k hk hc => Below.heap_setCell _ _ _ _ (by omega)⟩
theorem Off.cell {c N : Nat} {w W : World} (h : Off c N w W) {p : Addr} (hp : p.block < N) (hc : p.block ≠ c) : W.cell? p = w.cell? p := World.cell?_of_block (w := w) (h.block p.block hp hc)
theorem Off.frozen {c N : Nat} {w W : World} (h : Off c N w W) {p : Addr} (hp : p.block < N) (hc : p.block ≠ c) : W.frozen? p = w.frozen? p := World.frozen?_of_block (w := w) (h.block p.block hp hc)
theorem Off.grownBy {c : Nat} {w W : World} (h : Off c w.heap.size w W) : w.grownBy W (some c) := ⟨h.os, h.tape, h.output, h.size, fun k hk hne => h.block k hk (fun e => hne (by rw [e]))⟩
theorem B2.off {c N : Nat} {W w1 : World} {g : Nat} {x y : Value} (hb : Off c N W w1) (h : B2 W g x y) (hg : g < N) (hc : g ≠ c) : B2 w1 g x y :=
  ⟨(hb.cell hg hc).trans h.1, (hb.cell hg hc).trans h.2.1, (hb.frozen hg hc).trans h.2.2.1, (hb.frozen hg hc).trans h.2.2.2.1, Nat.lt_of_lt_of_le h.2.2.2.2 hb.size⟩
theorem B1.off {c N : Nat} {W w1 : World} {g : Nat} {x : Value} (hb : Off c N W w1) (h : B1 W g x) (hg : g < N) (hc : g ≠ c) : B1 w1 g x :=
  ⟨(hb.cell hg hc).trans h.1, (hb.frozen hg hc).trans h.2.1, Nat.lt_of_lt_of_le h.2.2 hb.size⟩
theorem B1.set {W : World} {g : Nat} {x : Value} (h : B1 W g x) (u : Value) : B1 (W.setCell ⟨g, 0, none⟩ u) g u := by
  obtain ⟨h1, h2, h3⟩ := h
  exact ⟨by simp [go_sem, h1], by simp [go_sem, h2], by simpa using h3⟩
theorem B1.alloc {W : World} {g : Nat} {x : Value} (h : B1 W g x) (o : Obj) : B1 (W.alloc o) g x :=
  B1.after ((Below.refl W.heap.size W).alloc (Nat.le_refl _) o) h h.lt

theorem Below.step {B B' : Nat} {w W w1 : World} (h : Below B w W) (hb : Below B' W w1) (hB : B ≤ B') : Below B w w1 := h.trans (hb.mono hB)

end Go.Proofs.YtanfaepjamkbjaaGreat
end
section
namespace Go.Proofs.YtanfaepjamkbjaaGreat
set_option linter.unusedSimpArgs false
set_option linter.unusedVariables false
open Go.RowKit

theorem B2.alloc {W : World} {g : Nat} {x y : Value} (h : B2 W g x y) (o : Obj) : B2 (W.alloc o) g x y :=
  B2.after ((Below.refl W.heap.size W).alloc (Nat.le_refl _) o) h h.lt
theorem B2.of_block {W W' : World} {g : Nat} {x y : Value} (h : B2 W g x y) (he : W'.heap[g]? = W.heap[g]?) (hs : W.heap.size ≤ W'.heap.size) : B2 W' g x y := by
  obtain ⟨h1, h2, h3, h4, h5⟩ := h
  exact ⟨(World.cell?_of_block (w := W) he).trans h1, (World.cell?_of_block (w := W) he).trans h2, (World.frozen?_of_block (w := W) he).trans h3, (World.frozen?_of_block (w := W) he).trans h4, Nat.lt_of_lt_of_le h5 hs⟩
theorem B1.of_block {W W' : World} {g : Nat} {x : Value} (h : B1 W g x) (he : W'.heap[g]? = W.heap[g]?) (hs : W.heap.size ≤ W'.heap.size) : B1 W' g x := by
  obtain ⟨h1, h2, h5⟩ := h
  exact ⟨(World.cell?_of_block (w := W) he).trans h1, (World.frozen?_of_block (w := W) he).trans h2, Nat.lt_of_lt_of_le h5 hs⟩
theorem B1.new (W : World) (x : Value) (t : TypeId) : B1 (W.alloc (.cells #[x] t)) W.heap.size x := by simp [B1, go_sem]
theorem B2.new (W : World) (x y : Value) (t : TypeId) : B2 (W.alloc (.cells #[x, y] t)) W.heap.size x y := by simp [B2, go_sem]


abbrev K1 (w : World) (g : Nat) (x : Value) : Prop := w.cell? ⟨g, 0, none⟩ = some x ∧ w.frozen? ⟨g, 0, none⟩ = false ∧ g < w.heap.size
abbrev K2 (w : World) (g : Nat) (x y : Value) : Prop := w.cell? ⟨g, 0, none⟩ = some x ∧ w.cell? ⟨g, 1, none⟩ = some y ∧ w.frozen? ⟨g, 0, none⟩ = false ∧ w.frozen? ⟨g, 1, none⟩ = false ∧ g < w.heap.size
abbrev K6 (w : World) (g : Nat) (a b c d e f : Value) : Prop := w.cell? ⟨g, 0, none⟩ = some a ∧ w.cell? ⟨g, 1, none⟩ = some b ∧ w.cell? ⟨g, 2, none⟩ = some c ∧ w.cell? ⟨g, 3, none⟩ = some d ∧ w.cell? ⟨g, 4, none⟩ = some e ∧ w.cell? ⟨g, 5, none⟩ = some f ∧ g < w.heap.size

theorem K1.after {W w1 : World} {g : Nat} {x : Value} (h : K1 W g x) (hb : Below W.heap.size W w1) : K1 w1 g x := B1.after hb h h.2.2
theorem K2.after {W w1 : World} {g : Nat} {x y : Value} (h : K2 W g x y) (hb : Below W.heap.size W w1) : K2 w1 g x y := B2.after hb h h.2.2.2.2
theorem K1.off {c : Nat} {W w1 : World} {g : Nat} {x : Value} (h : K1 W g x) (hb : Off c W.heap.size W w1) (hc : g ≠ c) : K1 w1 g x := B1.off hb h h.2.2 hc
theorem K2.off {c : Nat} {W w1 : World} {g : Nat} {x y : Value} (h : K2 W g x y) (hb : Off c W.heap.size W w1) (hc : g ≠ c) : K2 w1 g x y := B2.off hb h h.2.2.2.2 hc
theorem K6.of_block {W W' : World} {g : Nat} {a b c d e f : Value} (h : K6 W g a b c d e f) (he : W'.heap[g]? = W.heap[g]?) (hs : W.heap.size ≤ W'.heap.size) : K6 W' g a b c d e f := by
  obtain ⟨h1, h2, h3, h4, h5, h6, h7⟩ := h
  exact ⟨(World.cell?_of_block (w := W) he).trans h1, (World.cell?_of_block (w := W) he).trans h2, (World.cell?_of_block (w := W) he).trans h3, (World.cell?_of_block (w := W) he).trans h4, (World.cell?_of_block (w := W) he).trans h5, (World.cell?_of_block (w := W) he).trans h6, Nat.lt_of_lt_of_le h7 hs⟩
theorem K6.after {W w1 : World} {g : Nat} {a b c d e f : Value} (h : K6 W g a b c d e f) (hb : Below W.heap.size W w1) : K6 w1 g a b c d e f := K6.of_block h (hb.block g h.2.2.2.2.2.2) hb.size
theorem K6.off {x : Nat} {W w1 : World} {g : Nat} {a b c d e f : Value} (h : K6 W g a b c d e f) (hb : Off x W.heap.size W w1) (hc : g ≠ x) : K6 w1 g a b c d e f := K6.of_block h (hb.block g h.2.2.2.2.2.2 hc) hb.size

theorem K1.aft {W w1 : World} {g : Nat} {x : Value} (hb : Below W.heap.size W w1) (h : K1 W g x) : K1 w1 g x := K1.after h hb
theorem K2.aft {W w1 : World} {g : Nat} {x y : Value} (hb : Below W.heap.size W w1) (h : K2 W g x y) : K2 w1 g x y := K2.after h hb
theorem K6.aft {W w1 : World} {g : Nat} {a b c d e f : Value} (hb : Below W.heap.size W w1) (h : K6 W g a b c d e f) : K6 w1 g a b c d e f := K6.after h hb
theorem K1.alloc {W : World} {g : Nat} {x : Value} (h : K1 W g x) (o : Obj) : K1 (W.alloc o) g x := K1.after h ((Below.refl W.heap.size W).alloc (Nat.le_refl _) o)
theorem K2.alloc {W : World} {g : Nat} {x y : Value} (h : K2 W g x y) (o : Obj) : K2 (W.alloc o) g x y := K2.after h ((Below.refl W.heap.size W).alloc (Nat.le_refl _) o)
theorem K6.alloc {W : World} {g : Nat} {a b c d e f : Value} (h : K6 W g a b c d e f) (o : Obj) : K6 (W.alloc o) g a b c d e f := K6.after h ((Below.refl W.heap.size W).alloc (Nat.le_refl _) o)
theorem K1.new (W : World) (x : Value) (t : TypeId) : K1 (W.alloc (.cells #[x] t)) W.heap.size x := B1.new W x t
theorem K2.new (W : World) (x y : Value) (t : TypeId) : K2 (W.alloc (.cells #[x, y] t)) W.heap.size x y := B2.new W x y t
theorem K6.new (W : World) (a b c d e f : Value) (t : TypeId) : K6 (W.alloc (.cells #[a, b, c, d, e, f] t)) W.heap.size a b c d e f := by simp [K6, go_sem]
theorem K2.set {W : World} {g : Nat} {x y : Value} (h : K2 W g x y) (u v : Value) : K2 ((W.setCell ⟨g, 0, none⟩ u).setCell ⟨g, 1, none⟩ v) g u v := B2.set h u v
theorem K1.set {W : World} {g : Nat} {x : Value} (h : K1 W g x) (u : Value) : K1 (W.setCell ⟨g, 0, none⟩ u) g u := B1.set h u
/-- a slice that reads as the cells xs (n elements of size cells each); its block has elements of type t and a number from lo on, below hi -/
def RdG (t : TypeId) (size : Nat) (w : World) (lo hi : Nat) (v : Value) (n : Nat) (xs : List Value) : Prop :=
  xs.length = n * size ∧ ∃ A c, v = .slice A n c ∧ n ≤ c ∧ n ≤ maxLen ∧ (0 < n → ∃ b off cs fr, A = some ⟨b, off, none⟩ ∧ lo ≤ b ∧ b < hi ∧ w.heap[b]? = some (.cells cs t fr) ∧ ∀ j u, xs[j]? = some u → cs[off + j]? = some u)

section
variable {t : TypeId} {size : Nat} {w W : World} {lo hi : Nat} {v : Value} {n : Nat} {xs : List Value}
theorem RdG.of_blocks (h : RdG t size w lo hi v n xs) (hk : ∀ b, lo ≤ b → b < hi → b < w.heap.size → (∃ cs fr, w.heap[b]? = some (.cells cs t fr)) → W.heap[b]? = w.heap[b]?) : RdG t size W lo hi v n xs := by
  obtain ⟨h1, A, c, hv, h2, h3, h4⟩ := h
  refine ⟨h1, A, c, hv, h2, h3, fun hn => ?_⟩
  obtain ⟨b, off, cs, fr, hA, hlo, hhi, hb, hc⟩ := h4 hn
  exact ⟨b, off, cs, fr, hA, hlo, hhi, (hk b hlo hhi (Array.getElem?_eq_some_iff.1 hb).1 ⟨cs, fr, hb⟩).trans hb, hc⟩
theorem RdG.after (h : RdG t size w lo hi v n xs) (hb : Below w.heap.size w W) : RdG t size W lo hi v n xs := h.of_blocks fun b _ _ hb' _ => hb.block b hb'
theorem RdG.off {c : Nat} (h : RdG t size w lo hi v n xs) (hb : Off c w.heap.size w W) (hc : c < lo) : RdG t size W lo hi v n xs := h.of_blocks fun b hl _ hb' _ => hb.block b hb' (by omega)
theorem RdG.mono {lo' hi' : Nat} (h : RdG t size w lo hi v n xs) (hl : lo' ≤ lo) (hh : hi ≤ hi') : RdG t size w lo' hi' v n xs := by
  obtain ⟨h1, A, c, hv, h2, h3, h4⟩ := h
  refine ⟨h1, A, c, hv, h2, h3, fun hn => ?_⟩
  obtain ⟨b, off, cs, fr, hA, hlo, hhi, hb, hc⟩ := h4 hn
  exact ⟨b, off, cs, fr, hA, by omega, by omega, hb, hc⟩
/-- the value, written out, and its cells -/
theorem RdG.form (h : RdG t size w lo hi v n xs) : ∃ A c, v = .slice A n c ∧ n ≤ c ∧ n ≤ 9223372036854775807 := by
  obtain ⟨h1, A, c, hv, h2, h3, h4⟩ := h
  exact ⟨A, c, hv, h2, by unfold maxLen at h3; omega⟩
theorem RdG.cells {A : Option Addr} {c : Nat} (h : RdG t size w lo hi (.slice A n c) n xs) (hn : 0 < n) : ∃ b off, A = some ⟨b, off, none⟩ ∧ lo ≤ b ∧ b < hi ∧ b < w.heap.size ∧ ∀ j u, xs[j]? = some u → w.cell? ⟨b, off + j, none⟩ = some u := by
  obtain ⟨h1, A', c', hv, h2, h3, h4⟩ := h
  injection hv with hA _ hc
  subst hA
  obtain ⟨b, off, cs, fr, hA, hlo, hhi, hb, hc⟩ := h4 hn
  refine ⟨b, off, hA, hlo, hhi, (Array.getElem?_eq_some_iff.1 hb).1, fun j u hu => ?_⟩
  rw [cell_of_row w b (off + j) cs t fr hb]
  exact hc j u hu
end

/-- what an append onto a row of the call's own leaves below block N, if that row is not below N -/
theorem Off.grown {c N : Nat} {w W W' : World} {row : Option Nat} (h : Off c N w W) (hg : W.grownBy W' row) (hN : N ≤ W.heap.size) (hr : ∀ g, row = some g → N ≤ g) : Off c N w W' :=
  h.trans ⟨hg.os, hg.tape, hg.output, hg.size, fun k hk _ => hg.block k (by omega) (fun e => by have := hr k e.symm; omega)⟩
theorem K1.grown {W w1 : World} {g : Nat} {x : Value} {row : Option Nat} (h : K1 W g x) (hg : W.grownBy w1 row) (hr : ∀ k, row = some k → g < k) : K1 w1 g x :=
  B1.of_block h (hg.block g h.2.2 (fun e => by have := hr g e.symm; omega)) hg.size
theorem K2.grown {W w1 : World} {g : Nat} {x y : Value} {row : Option Nat} (h : K2 W g x y) (hg : W.grownBy w1 row) (hr : ∀ k, row = some k → g < k) : K2 w1 g x y :=
  B2.of_block h (hg.block g h.2.2.2.2 (fun e => by have := hr g e.symm; omega)) hg.size
theorem K6.grown {W w1 : World} {g : Nat} {a b c d e f : Value} {row : Option Nat} (h : K6 W g a b c d e f) (hg : W.grownBy w1 row) (hr : ∀ k, row = some k → g < k) : K6 w1 g a b c d e f :=
  K6.of_block h (hg.block g h.2.2.2.2.2.2 (fun e => by have := hr g e.symm; omega)) hg.size


theorem own_lit (W : World) (cs : Array Value) (t : TypeId) (base size n : Nat) (hs : cs.size = n * size) (hn : n ≤ maxLen) (hb : base ≤ W.heap.size) :
    (W.alloc (.cells cs t)).ownsRow base t size (.slice (some ⟨W.heap.size, 0, none⟩) n n) n cs.toList :=
  ⟨by simp [hs], .inr ⟨W.heap.size, n, cs, rfl, hb, heap_alloc_new W _, Nat.le_refl _, hn, hs, List.take_of_length_le (by simp [hs])⟩⟩
theorem own_lower {W : World} {lo lo' t sz n : Nat} {v : Value} {cells : List Value} (h : W.ownsRow lo t sz v n cells) (hl : lo' ≤ lo) : W.ownsRow lo' t sz v n cells := by
  refine ⟨h.1, ?_⟩
  rcases h.2 with h2 | ⟨g', cap', cur, hv, hg', r⟩
  · exact Or.inl h2
  · exact Or.inr ⟨g', cap', cur, hv, Nat.le_trans hl hg', r⟩

/-- a store into one's own row keeps what is in other blocks -/
theorem below_set {N : Nat} {w : World} {g i j : Nat} {u v : Value} (hg : N ≤ g) : Below N w ((w.setCell ⟨g, i, none⟩ u).setCell ⟨g, j, none⟩ v) :=
  ((Below.refl N w).setCell (p := ⟨g, i, none⟩) hg u).setCell (p := ⟨g, j, none⟩) hg v

/-- from w to W the blocks D alone have changed, of those that were there -/
structure Chg (D : Nat → Prop) (w W : World) : Prop where
  os : W.os = w.os
  tape : W.tape = w.tape
  output : W.output = w.output
  size : w.heap.size ≤ W.heap.size
  block : ∀ k, k < w.heap.size → ¬ D k → W.heap[k]? = w.heap[k]?
theorem Chg.below {w W : World} (h : Below w.heap.size w W) : Chg (fun _ => False) w W := ⟨h.os, h.tape, h.output, h.size, fun k hk _ => h.block k hk⟩
theorem Chg.off {c : Nat} {w W : World} (h : Off c w.heap.size w W) : Chg (fun k => k = c) w W := ⟨h.os, h.tape, h.output, h.size, fun k hk hc => h.block k hk hc⟩
theorem Chg.grown {row : Option Nat} {w W : World} (h : w.grownBy W row) : Chg (fun k => row = some k) w W := ⟨h.os, h.tape, h.output, h.size, fun k hk hc => h.block k hk (fun e => hc e.symm)⟩
theorem Chg.drew (w : World) : Chg (fun _ => False) w w.drew := ⟨rfl, rfl, rfl, Nat.le_refl _, fun _ _ _ => rfl⟩
theorem Chg.drewN (w : World) (n : Nat) : Chg (fun _ => False) w (w.drewN n) := Chg.below (below_drewN (Below.refl _ w) n)
theorem Chg.alloc (w : World) (o : Obj) : Chg (fun _ => False) w (w.alloc o) := Chg.below ((Below.refl _ w).alloc (Nat.le_refl _) o)
theorem Chg.set (w : World) (g i : Nat) (u : Value) : Chg (fun k => k = g) w (w.setCell ⟨g, i, none⟩ u) :=
  ⟨rfl, rfl, rfl, by simp [World.setCell], fun k hk hc => Below.heap_setCell _ _ _ _ hc⟩
/-- a fact that looks at the blocks F alone -/
structure Loc where
  P : World → Prop
  F : Nat → Prop
  keep : ∀ {D : Nat → Prop} {w W : World}, Chg D w W → (∀ k, F k → ¬ D k) → P w → P W

abbrev Loc.k1 (g : Nat) (x : Value) : Loc := ⟨fun w => K1 w g x, fun k => k = g, fun h hd hp => B1.of_block hp (h.block g hp.2.2 (hd g rfl)) h.size⟩
abbrev Loc.k2 (g : Nat) (x y : Value) : Loc := ⟨fun w => K2 w g x y, fun k => k = g, fun h hd hp => B2.of_block hp (h.block g hp.2.2.2.2 (hd g rfl)) h.size⟩
abbrev Loc.k6 (g : Nat) (a b c d e f : Value) : Loc := ⟨fun w => K6 w g a b c d e f, fun k => k = g, fun h hd hp => K6.of_block hp (h.block g hp.2.2.2.2.2.2 (hd g rfl)) h.size⟩
/-- a cell; two cells side by side -/
abbrev C1 (w : World) (b o : Nat) (x : Value) : Prop := w.cell? ⟨b, o, none⟩ = some x
abbrev C2 (w : World) (b o : Nat) (x y : Value) : Prop := w.cell? ⟨b, o, none⟩ = some x ∧ w.cell? ⟨b, o + 1, none⟩ = some y
abbrev Loc.c1 (b o : Nat) (x : Value) : Loc := ⟨fun w => C1 w b o x, fun k => k = b, fun h hd hp => (World.cell?_of_block (h.block b (World.block_lt_of_cell? _ _ hp) (hd b rfl))).trans hp⟩
abbrev Loc.c2 (b o : Nat) (x y : Value) : Loc := ⟨fun w => C2 w b o x y, fun k => k = b, fun h hd hp => ⟨(World.cell?_of_block (h.block b (World.block_lt_of_cell? _ _ hp.1) (hd b rfl))).trans hp.1, (World.cell?_of_block (h.block b (World.block_lt_of_cell? _ _ hp.1) (hd b rfl))).trans hp.2⟩⟩
/-- the call's frame: below block N all but block c is as it was in w0 -/
abbrev Loc.fr (c N : Nat) (w0 : World) : Loc :=
  ⟨fun W => Off c N w0 W ∧ N ≤ W.heap.size, fun k => k < N ∧ k ≠ c, fun h hd hp => ⟨hp.1.trans ⟨h.os, h.tape, h.output, h.size, fun k hk hc => h.block k (Nat.lt_of_lt_of_le hk hp.2) (hd k ⟨hk, hc⟩)⟩, Nat.le_trans hp.2 h.size⟩⟩
/-- a row of the call's own -/
abbrev Loc.own (lo hi : Nat) (t : TypeId) (sz : Nat) (v : Value) (n : Nat) (xs : List Value) : Loc :=
  ⟨fun w => w.ownsRow lo t sz v n xs ∧ ∀ k, v.ownBlock = some k → k < hi, fun k => lo ≤ k ∧ k < hi ∧ v.ownBlock = some k, fun h hd hp => by
    refine ⟨⟨hp.1.1, ?_⟩, hp.2⟩
    rcases hp.1.2 with h2 | ⟨g, cap, cur, hv, hg, hh, r⟩
    · exact Or.inl h2
    · have hvg : v.ownBlock = some g := by rw [hv]; rfl
      exact Or.inr ⟨g, cap, cur, hv, hg, (h.block g (Array.getElem?_eq_some_iff.1 hh).1 (hd g ⟨hg, hp.2 g hvg, hvg⟩)).trans hh, r⟩⟩
/-- below block N all is as it was in w0 -/
abbrev Loc.bl (N : Nat) (w0 : World) : Loc :=
  ⟨fun W => Below N w0 W ∧ N ≤ W.heap.size, fun k => k < N, fun h hd hp => ⟨hp.1.trans ⟨h.os, h.tape, h.output, h.size, fun k hk => h.block k (Nat.lt_of_lt_of_le hk hp.2) (hd k hk)⟩, Nat.le_trans hp.2 h.size⟩⟩
/-- the heap has grown to N -/
abbrev Loc.sz (N : Nat) : Loc := ⟨fun w => N ≤ w.heap.size, fun _ => False, fun h _ hp => Nat.le_trans hp h.size⟩

def Mem : List Loc → World → Prop
  | [], _ => True
  | a :: l, w => a.P w ∧ Mem l w
def Apart (D : Nat → Prop) : List Loc → Prop
  | [] => True
  | a :: l => (∀ k, a.F k → D k → False) ∧ Apart D l
theorem Mem.chg {D : Nat → Prop} {w W : World} (h : Chg D w W) : ∀ {l : List Loc}, Mem l w → Apart D l → Mem l W
  | [], _, _ => True.intro
  | a :: l, hm, ha => ⟨a.keep h (fun k hk hd => ha.1 k hk hd) hm.1, Mem.chg h hm.2 ha.2⟩
theorem Apart.none : ∀ {l : List Loc}, Apart (fun _ => False) l
  | [] => True.intro
  | _ :: _ => ⟨fun _ _ h => h, Apart.none⟩
theorem Mem.below {w W : World} {l : List Loc} (hm : Mem l w) (h : Below w.heap.size w W) : Mem l W := hm.chg (Chg.below h) Apart.none
theorem Mem.drew {w : World} {l : List Loc} (hm : Mem l w) : Mem l w.drew := hm.chg (Chg.drew w) Apart.none
theorem Mem.drewN {w : World} {l : List Loc} (hm : Mem l w) (n : Nat) : Mem l (w.drewN n) := hm.chg (Chg.drewN w n) Apart.none
theorem Mem.alloc {w : World} {l : List Loc} (hm : Mem l w) (o : Obj) : Mem l (w.alloc o) := hm.chg (Chg.alloc w o) Apart.none
theorem Mem.off {c : Nat} {w W : World} {l : List Loc} (hm : Mem l w) (h : Off c w.heap.size w W) (ha : Apart (fun k => k = c) l) : Mem l W := hm.chg (Chg.off h) ha
theorem Mem.set {g i : Nat} {u : Value} {w : World} {l : List Loc} (hm : Mem l w) (ha : Apart (fun k => k = g) l) : Mem l (w.setCell ⟨g, i, none⟩ u) := hm.chg (Chg.set w g i u) ha
theorem Mem.grown {row : Option Nat} {w W : World} {l : List Loc} (hm : Mem l w) (h : w.grownBy W row) (ha : Apart (fun k => row = some k) l) : Mem l W := hm.chg (Chg.grown h) ha
/-- a fact more -/
theorem Mem.cons {a : Loc} {w : World} {l : List Loc} (h : a.P w) (hm : Mem l w) : Mem (a :: l) w := ⟨h, hm⟩


/-- a slice that reads as the cells xs (n elements of size cells each), in blocks from lo on, below hi -/
def RdC (size : Nat) (w : World) (lo hi : Nat) (v : Value) (n : Nat) (xs : List Value) : Prop :=
  xs.length = n * size ∧ ∃ A c, v = .slice A n c ∧ n ≤ c ∧ n ≤ maxLen ∧ (0 < n → ∃ b off, A = some ⟨b, off, none⟩ ∧ lo ≤ b ∧ b < hi ∧ ∀ j u, xs[j]? = some u → w.cell? ⟨b, off + j, none⟩ = some u)
section
variable {size : Nat} {w W : World} {lo hi : Nat} {v : Value} {n : Nat} {xs : List Value}
theorem RdC.of_blocks (h : RdC size w lo hi v n xs) (hk : ∀ b, lo ≤ b → b < hi → b < w.heap.size → W.heap[b]? = w.heap[b]?) : RdC size W lo hi v n xs := by
  obtain ⟨h1, A, c, hv, h2, h3, h4⟩ := h
  refine ⟨h1, A, c, hv, h2, h3, fun hn => ?_⟩
  obtain ⟨b, off, hA, hlo, hhi, hc⟩ := h4 hn
  exact ⟨b, off, hA, hlo, hhi, fun j u hu => (World.cell?_of_block (hk b hlo hhi (World.block_lt_of_cell? _ _ (hc j u hu)))).trans (hc j u hu)⟩
theorem RdC.after (h : RdC size w lo hi v n xs) (hb : Below w.heap.size w W) : RdC size W lo hi v n xs := h.of_blocks fun b _ _ hb' => hb.block b hb'
theorem RdC.mono {lo' hi' : Nat} (h : RdC size w lo hi v n xs) (hl : lo' ≤ lo) (hh : hi ≤ hi') : RdC size w lo' hi' v n xs := by
  obtain ⟨h1, A, c, hv, h2, h3, h4⟩ := h
  refine ⟨h1, A, c, hv, h2, h3, fun hn => ?_⟩
  obtain ⟨b, off, hA, hlo, hhi, hc⟩ := h4 hn
  exact ⟨b, off, hA, by omega, by omega, hc⟩
theorem RdC.form (h : RdC size w lo hi v n xs) : ∃ A c, v = .slice A n c ∧ n ≤ c ∧ n ≤ 9223372036854775807 := by
  obtain ⟨h1, A, c, hv, h2, h3, h4⟩ := h
  exact ⟨A, c, hv, h2, by unfold maxLen at h3; omega⟩
theorem RdC.cells {A : Option Addr} {c : Nat} (h : RdC size w lo hi (.slice A n c) n xs) (hn : 0 < n) : ∃ b off, A = some ⟨b, off, none⟩ ∧ lo ≤ b ∧ b < hi ∧ ∀ j u, xs[j]? = some u → w.cell? ⟨b, off + j, none⟩ = some u := by
  obtain ⟨h1, A', c', hv, h2, h3, h4⟩ := h
  injection hv with hA _ hc
  subst hA
  exact h4 hn
theorem RdC.nil (w : World) (lo hi : Nat) : RdC size w lo hi (.slice none 0 0) 0 [] := ⟨by simp, none, 0, rfl, Nat.le_refl _, by simp, fun h => by omega⟩
end
end Go.Proofs.YtanfaepjamkbjaaGreat
end
section
namespace Go.Proofs.YtanfaepjamkbjaaGreat
set_option linter.unusedSimpArgs false
set_option linter.unusedVariables false
open Go.RowKit

theorem findIdx_some {α : Type} {p : α → Bool} : ∀ {l : List α} {k : Nat} {a : α}, l[k]? = some a → p a = true → (∀ j a, j < k → l[j]? = some a → p a = false) → l.findIdx? p = some k
  | [], _, _, h, _, _ => by simp at h
  | b :: l, 0, a, h, hp, _ => by simp at h; subst h; simp [List.findIdx?_cons, hp]
  | b :: l, k + 1, a, h, hp, hn => by
    have hb : p b = false := hn 0 b (by omega) (by simp)
    rw [List.findIdx?_cons, hb]
    simp only [Bool.false_eq_true, if_false]
    rw [findIdx_some (l := l) (k := k) (a := a) (by simpa using h) hp (fun j a hj hja => hn (j + 1) a (by omega) (by simpa using hja))]
    rfl
theorem findIdx_none {α : Type} {p : α → Bool} {l : List α} (hn : ∀ j a, j < l.length → l[j]? = some a → p a = false) : l.findIdx? p = none := by
  rw [List.findIdx?_eq_none_iff]
  intro x hx
  obtain ⟨i, hi, rfl⟩ := List.mem_iff_getElem.1 hx
  exact hn i _ hi (List.getElem?_eq_getElem hi)
/-- the place of the first element with a property, or -1 -/
def firstAt {α : Type} (p : α → Bool) (l : List α) : Int := match l.findIdx? p with | some i => (i : Int) | none => -1
theorem firstAt_some {α : Type} {p : α → Bool} {l : List α} {k : Nat} {a : α} (h : l[k]? = some a) (hp : p a = true) (hn : ∀ j a, j < k → l[j]? = some a → p a = false) : firstAt p l = k := by
  unfold firstAt; rw [findIdx_some h hp hn]
theorem firstAt_none {α : Type} {p : α → Bool} {l : List α} (hn : ∀ j a, j < l.length → l[j]? = some a → p a = false) : firstAt p l = -1 := by
  unfold firstAt; rw [findIdx_none hn]
theorem firstAt_any {α : Type} (p : α → Bool) (l : List α) : decide (0 ≤ firstAt p l) = l.any p := by
  unfold firstAt
  cases h : l.findIdx? p with
  | none =>
    rw [List.findIdx?_eq_none_iff] at h
    rw [Bool.eq_iff_iff, decide_eq_true_eq, List.any_eq_true]
    constructor
    · intro h; simp only at h; omega
    · rintro ⟨x, hx, hp⟩; rw [h x hx] at hp; cases hp
  | some i =>
    obtain ⟨hlt, hp, _⟩ := List.findIdx?_eq_some_iff_getElem.1 h
    rw [Bool.eq_iff_iff, decide_eq_true_eq, List.any_eq_true]
    exact ⟨fun _ => ⟨_, List.getElem_mem hlt, hp⟩, fun _ => by simp only; omega⟩
/-- a slice that reads as the list l; each element lies in size cells, as enc says -/
def Rd {α : Type} (size : Nat) (enc : α → List Value) (w : World) (lo hi : Nat) (v : Value) (l : List α) : Prop := RdC size w lo hi v l.length (l.flatMap enc)

theorem flatMap_get {α : Type} {size : Nat} {enc : α → List Value} (he : ∀ a, (enc a).length = size) : ∀ (l : List α) (k : Nat) (a : α) (j : Nat) (u : Value), l[k]? = some a → (enc a)[j]? = some u → (l.flatMap enc)[k * size + j]? = some u
  | [], k, a, j, u, h, _ => by simp at h
  | b :: l, 0, a, j, u, h, hu => by
    simp at h
    subst h
    rw [List.flatMap_cons, Nat.zero_mul, Nat.zero_add, List.getElem?_append_left (by
      rcases Nat.lt_or_ge j (enc b).length with h | h
      · exact h
      · rw [List.getElem?_eq_none h] at hu; cases hu)]
    exact hu
  | b :: l, k + 1, a, j, u, h, hu => by
    simp at h
    rw [List.flatMap_cons, List.getElem?_append_right (by rw [he]; rw [Nat.add_mul]; omega), he]
    have e : (k + 1) * size + j - size = k * size + j := by rw [Nat.add_mul]; omega
    rw [e]
    exact flatMap_get he l k a j u h hu
theorem flatMap_len {α : Type} {size : Nat} {enc : α → List Value} (he : ∀ a, (enc a).length = size) : ∀ l : List α, (l.flatMap enc).length = l.length * size
  | [] => by simp
  | b :: l => by rw [List.flatMap_cons, List.length_append, he, flatMap_len he l, List.length_cons, Nat.add_mul]; omega

section
variable {α : Type} {size : Nat} {enc : α → List Value} {w W : World} {lo hi : Nat} {v : Value} {l : List α}
theorem Rd.form (h : Rd size enc w lo hi v l) : ∃ A c, v = .slice A l.length c ∧ l.length ≤ c ∧ l.length ≤ 9223372036854775807 := RdC.form h
theorem Rd.after (h : Rd size enc w lo hi v l) (hb : Below w.heap.size w W) : Rd size enc W lo hi v l := RdC.after h hb
theorem Rd.of_blocks (h : Rd size enc w lo hi v l) (hk : ∀ b, lo ≤ b → b < hi → b < w.heap.size → W.heap[b]? = w.heap[b]?) : Rd size enc W lo hi v l := RdC.of_blocks h hk
theorem Rd.mono {lo' hi' : Nat} (h : Rd size enc w lo hi v l) (hl : lo' ≤ lo) (hh : hi ≤ hi') : Rd size enc w lo' hi' v l := RdC.mono h hl hh
theorem Rd.nil (w : World) (lo hi : Nat) : Rd size enc w lo hi (.slice none 0 0) [] := RdC.nil w lo hi
theorem Rd.at_ {A : Option Addr} {c : Nat} (h : Rd size enc w lo hi (.slice A l.length c) l) (he : ∀ a, (enc a).length = size) {k : Nat} {a : α} (hk : l[k]? = some a) :
    ∃ b off, A = some ⟨b, off, none⟩ ∧ lo ≤ b ∧ b < hi ∧ ∀ j u, (enc a)[j]? = some u → w.cell? ⟨b, off + (k * size + j), none⟩ = some u := by
  have hlt : k < l.length := by
    rcases Nat.lt_or_ge k l.length with h | h
    · exact h
    · rw [List.getElem?_eq_none h] at hk; cases hk
  obtain ⟨b, off, hA, h1, h2, hc⟩ := RdC.cells h (by omega)
  exact ⟨b, off, hA, h1, h2, fun j u hu => hc _ u (flatMap_get he l k a j u hk hu)⟩
end
abbrev Loc.rd {α : Type} (size : Nat) (enc : α → List Value) (lo hi : Nat) (v : Value) (l : List α) : Loc :=
  ⟨fun w => Rd size enc w lo hi v l, fun k => lo ≤ k ∧ k < hi, fun h hd hp => Rd.of_blocks hp (fun b h1 h2 h3 => h.block b h3 (hd b ⟨h1, h2⟩))⟩

/-- the element k, or the first that there is none -/
def gti {α : Type} [Inhabited α] (l : List α) (k : Nat) : α := l[k]?.getD default
theorem gti_get {α : Type} [Inhabited α] {l : List α} {k : Nat} (h : k < l.length) : l[k]? = some (gti l k) := by unfold gti; rw [List.getElem?_eq_getElem h]; rfl

abbrev encI (x : Int) : List Value := [.int .i64 x]
abbrev encS (s : ByteArray) : List Value := [.string s]
structure Stp where
  kind : Int
  trans : Int
  act : ByteArray
  deriving Inhabited
abbrev encM (m : Stp) : List Value := [.int .i64 m.kind, .int .i64 m.trans, .string m.act]
abbrev RdI := Rd 1 encI
abbrev RdS := Rd 1 encS
abbrev RdM := Rd 3 encM

theorem RdI.at1 {w : World} {lo hi : Nat} {A : Option Addr} {c : Nat} {l : List Int} (h : RdI w lo hi (.slice A l.length c) l) {k : Nat} (hk : k < l.length) :
    ∃ b off, A = some ⟨b, off, none⟩ ∧ lo ≤ b ∧ b < hi ∧ C1 w b (off + k) (.int .i64 (gti l k)) := by
  obtain ⟨b, off, hA, h1, h2, hc⟩ := Rd.at_ h (fun _ => rfl) (gti_get hk)
  exact ⟨b, off, hA, h1, h2, by have := hc 0 _ rfl; rw [Nat.mul_one] at this; exact this⟩
theorem RdS.at1 {w : World} {lo hi : Nat} {A : Option Addr} {c : Nat} {l : List ByteArray} (h : RdS w lo hi (.slice A l.length c) l) {k : Nat} (hk : k < l.length) :
    ∃ b off, A = some ⟨b, off, none⟩ ∧ lo ≤ b ∧ b < hi ∧ C1 w b (off + k) (.string (gti l k)) := by
  obtain ⟨b, off, hA, h1, h2, hc⟩ := Rd.at_ h (fun _ => rfl) (gti_get hk)
  exact ⟨b, off, hA, h1, h2, by have := hc 0 _ rfl; rw [Nat.mul_one] at this; exact this⟩
abbrev C3 (w : World) (b o : Nat) (x y z : Value) : Prop := w.cell? ⟨b, o, none⟩ = some x ∧ w.cell? ⟨b, o + 1, none⟩ = some y ∧ w.cell? ⟨b, o + 2, none⟩ = some z
theorem RdM.at3 {w : World} {lo hi : Nat} {A : Option Addr} {c : Nat} {l : List Stp} (h : RdM w lo hi (.slice A l.length c) l) {k : Nat} (hk : k < l.length) :
    ∃ b off, A = some ⟨b, off, none⟩ ∧ lo ≤ b ∧ b < hi ∧ C3 w b (off + k * 3) (.int .i64 (gti l k).kind) (.int .i64 (gti l k).trans) (.string (gti l k).act) := by
  obtain ⟨b, off, hA, h1, h2, hc⟩ := Rd.at_ h (fun _ => rfl) (gti_get hk)
  exact ⟨b, off, hA, h1, h2, hc 0 _ rfl, hc 1 _ rfl, hc 2 _ rfl⟩
/-- the cells of a transition -/
structure TrV where
  label : ByteArray
  vi : Value
  vo : Value
instance : Inhabited TrV := ⟨⟨default, .slice none 0 0, .slice none 0 0⟩⟩
abbrev encV (m : TrV) : List Value := [.string m.label, m.vi, m.vo]
abbrev RdV := Rd 3 encV
theorem RdV.at3 {w : World} {lo hi : Nat} {A : Option Addr} {c : Nat} {l : List TrV} (h : RdV w lo hi (.slice A l.length c) l) {k : Nat} (hk : k < l.length) :
    ∃ b off, A = some ⟨b, off, none⟩ ∧ lo ≤ b ∧ b < hi ∧ C3 w b (off + k * 3) (.string (gti l k).label) (gti l k).vi (gti l k).vo := by
  obtain ⟨b, off, hA, h1, h2, hc⟩ := Rd.at_ h (fun _ => rfl) (gti_get hk)
  exact ⟨b, off, hA, h1, h2, hc 0 _ rfl, hc 1 _ rfl, hc 2 _ rfl⟩
end Go.Proofs.YtanfaepjamkbjaaGreat
end
section
namespace Go.Proofs.YtanfaepjamkbjaaGreat
set_option linter.unusedSimpArgs false
set_option linter.unusedVariables false
open Go.RowKit

theorem snoc_no {α : Type} {p : α → Bool} {l : List α} {k : Nat} {a : α} (h : ∀ j a, j < k → l[j]? = some a → p a = false) (ha : l[k]? = some a) (hp : p a = false) : ∀ j a, j < k + 1 → l[j]? = some a → p a = false := by
  intro j b hj hb
  rcases Nat.lt_or_eq_of_le (Nat.le_of_lt_succ hj) with h1 | rfl
  · exact h j b h1 hb
  · rw [ha] at hb; injection hb with hb; rw [← hb]; exact hp

set_option maxHeartbeats 1000000 in
theorem indexFI_any (f : FuncId) (hent : Ent f) (cap : Array Value) (p : Int → Bool) (l : List Int) (lo hi : Nat) (v : Value) (w : World) (hv : RdI w lo hi v l)
    (hf : ∀ a ∈ l, ∀ W, Below w.heap.size w W → Calls Tryz.prog f (#[.int .i64 a] ++ cap) W fun e W' => e = .returned (.bool (p a)) ∧ Below W.heap.size W W') :
    Calls Tryz.prog 54 #[v, .func (.func f) #[] cap] w fun e w' => e = .returned (.int .i64 (firstAt p l)) ∧ Below w.heap.size w w' := by
  obtain ⟨A, c, rfl, hc, hm⟩ := hv.form
  unfold Ent at hent
  have HF := Lib.hid hf
  clear hf
  have HA := Lib.hid hv
  clear hv
  refine calls_cps fun R hR => ?_
  have HR := Lib.hid hR
  clear hR
  go_enter Tryz.func54, Tryz.ntmps54
  go_wp2
  go_loopw [8] (fun i wr => ∃ k : Nat, k ≤ l.length ∧ i = .int .i64 k ∧ (∀ j a, j < k → l[j]? = some a → p a = false) ∧ Below w.heap.size w wr) (fun i _ => l.length - (intOf i).toNat)
  case atStart => exact ⟨0, Nat.zero_le _, rfl, fun j a h => absurd h (by omega), Below.refl _ _⟩
  case round =>
    obtain ⟨k, hk, rfl, hno, hb⟩ := hrel
    have HNO := Lib.hid hno
    have HB := Lib.hid hb
    clear hno hb
    by_cases hlt : k < l.length
    · obtain ⟨b, off, rfl, _, _, hcell⟩ := RdI.at1 (HA.out.after HB.out) hlt
      have HA2 := Lib.hid (gti_get hlt)
      generalize gti l k = a at *
      go_wp2_with fail
      refine (HF.out a (List.mem_of_getElem? HA2.out) _ HB.out).mono ?_
      rintro e w1 ⟨rfl, hb1⟩
      have HB1 := Lib.hid hb1
      clear hb1
      cases hp : p a with
      | true =>
        have HP := Lib.hid hp
        clear hp
        go_wp2
        exact HR.out _ _ ⟨ret_int (firstAt_some HA2.out HP.out HNO.out).symm, HB.out.trans (HB1.out.mono HB.out.size)⟩
      | false =>
        have HP := Lib.hid hp
        clear hp
        go_wp2
        go_roundw
        case rel => exact ⟨k + 1, by omega, by go_num, snoc_no HNO.out HA2.out HP.out, HB.out.trans (HB1.out.mono HB.out.size)⟩
        case measure => simp [intOf]; omega
    · go_wp2
      have hkl : k = l.length := by omega
      exact HR.out _ _ ⟨ret_int (firstAt_none (by rw [← hkl]; exact HNO.out)).symm, HB.out⟩

set_option maxHeartbeats 400000 in
theorem containsFI_any (f : FuncId) (hent : Ent f) (cap : Array Value) (p : Int → Bool) (l : List Int) (lo hi : Nat) (v : Value) (w : World) (hv : RdI w lo hi v l)
    (hf : ∀ a ∈ l, ∀ W, Below w.heap.size w W → Calls Tryz.prog f (#[.int .i64 a] ++ cap) W fun e W' => e = .returned (.bool (p a)) ∧ Below W.heap.size W W') :
    Calls Tryz.prog 19 #[v, .func (.func f) #[] cap] w fun e w' => e = .returned (.bool (l.any p)) ∧ Below w.heap.size w w' := by
  have HC := Lib.hid (indexFI_any f hent cap p l lo hi v w hv hf)
  clear hf hent hv
  refine calls_cps fun R hR => ?_
  have HR := Lib.hid hR
  clear hR
  go_enter Tryz.func19, Tryz.ntmps19
  go_wp2_with fail
  refine HC.out.mono ?_
  rintro e w1 ⟨rfl, hb1⟩
  have HB1 := Lib.hid hb1
  clear hb1
  go_wp2
  exact HR.out _ _ ⟨congrArg (fun b => Ending.returned (.bool b)) (firstAt_any p l), HB1.out⟩

end Go.Proofs.YtanfaepjamkbjaaGreat
end
section
namespace Go.Proofs.YtanfaepjamkbjaaGreat
set_option linter.unusedSimpArgs false
set_option linter.unusedVariables false
open Go.RowKit

def letB (c : Int) : Bool := decide (65 ≤ c) && decide (c ≤ 90) || decide (97 ≤ c) && decide (c ≤ 122)
def partB (c : Int) : Bool := letB c || decide (48 ≤ c) && decide (c ≤ 57) || decide (c = 95) || decide (c = 45) || decide (c = 46)

set_option maxHeartbeats 2000000 in
theorem letter_any (c : Int) (w : World) : Calls Tryz.prog 77 #[.int .u8 c] w fun e w' => e = .returned (.bool (letB c)) ∧ Below w.heap.size w w' := by
  refine calls_cps fun R hR => ?_
  have HR := Lib.hid hR
  clear hR
  go_enter Tryz.func77, Tryz.ntmps77
  by_cases h1 : (65 : Int) ≤ c <;> by_cases h2 : c ≤ 90 <;> by_cases h3 : (97 : Int) ≤ c <;> by_cases h4 : c ≤ 122 <;> first
    | (exfalso; omega)
    | (have d1 := Lib.hid h1; have d2 := Lib.hid h2; have d3 := Lib.hid h3; have d4 := Lib.hid h4
       go_wp2
       refine HR.out _ _ ⟨?_, ?_⟩
       · simp [letB, h1, h2, h3, h4]
       · (repeat (first | exact Below.refl _ _ | assumption | refine Below.setCell ?_ (by first | omega | (simp; done) | (simp; omega)) _ | refine Below.alloc ?_ (by first | omega | (simp; done) | (simp; omega)) _ | refine Below.drew ?_ | refine below_drewN ?_ _)))

set_option maxHeartbeats 2000000 in
theorem letter2_any (c : Int) (w : World) : Calls Tryz.prog 68 #[.int .u8 c] w fun e w' => e = .returned (.bool (letB c)) ∧ Below w.heap.size w w' := by
  refine calls_cps fun R hR => ?_
  have HR := Lib.hid hR
  clear hR
  go_enter Tryz.func68, Tryz.ntmps68
  by_cases h1 : (65 : Int) ≤ c <;> by_cases h2 : c ≤ 90 <;> by_cases h3 : (97 : Int) ≤ c <;> by_cases h4 : c ≤ 122 <;> first
    | (exfalso; omega)
    | (have d1 := Lib.hid h1; have d2 := Lib.hid h2; have d3 := Lib.hid h3; have d4 := Lib.hid h4
       go_wp2
       refine HR.out _ _ ⟨?_, ?_⟩
       · simp [letB, h1, h2, h3, h4]
       · (repeat (first | exact Below.refl _ _ | assumption | refine Below.setCell ?_ (by first | omega | (simp; done) | (simp; omega)) _ | refine Below.alloc ?_ (by first | omega | (simp; done) | (simp; omega)) _ | refine Below.drew ?_ | refine below_drewN ?_ _)))

set_option maxHeartbeats 2000000 in
theorem part_any (c : Int) (w : World) : Calls Tryz.prog 78 #[.int .u8 c] w fun e w' => e = .returned (.bool (partB c)) ∧ Below w.heap.size w w' := by
  refine calls_cps fun R hR => ?_
  have HR := Lib.hid hR
  clear hR
  go_enter Tryz.func78, Tryz.ntmps78
  go_wp2_with fail
  refine (letter_any _ _).mono ?_
  rintro e w1 ⟨rfl, hb⟩
  have HB := Lib.hid hb
  clear hb
  cases hl : letB c
  · have HL := Lib.hid hl
    by_cases h1 : (48 : Int) ≤ c <;> by_cases h2 : c ≤ 57 <;> by_cases h3 : c = 95 <;> by_cases h4 : c = 45 <;> by_cases h5 : c = 46 <;> first
      | (exfalso; omega)
      | (go_wp2
         refine HR.out _ _ ⟨congrArg Ending.returned (congrArg Value.bool ?_), HB.out⟩
         rw [Bool.eq_iff_iff]
         simp [partB, hl]
         try omega)
  · go_wp2
    refine HR.out _ _ ⟨?_, HB.out⟩
    simp [partB, hl]

/-- byte k of a string, as a number -/
def byt (s : ByteArray) (k : Nat) : Int := if h : k < s.size then (s[k].toNat : Int) else 0
theorem byt_lt {s : ByteArray} {k : Nat} (h : k < s.size) : (s[k].toNat : Int) = byt s k := by unfold byt; rw [dif_pos h]
def nameB (s : ByteArray) : Bool := decide (1 ≤ s.size) && decide (s.size ≤ 40) && letB (byt s 0) && (List.range s.size).all fun k => partB (byt s k)
theorem nameB_false {s : ByteArray} (h : s.size < 1 ∨ 40 < s.size ∨ letB (byt s 0) = false ∨ ∃ k, k < s.size ∧ partB (byt s k) = false) : nameB s = false := by
  unfold nameB
  rcases h with h | h | h | ⟨k, h1, h2⟩
  · have : decide (1 ≤ s.size) = false := decide_eq_false (by omega)
    simp [this]
  · have : decide (s.size ≤ 40) = false := decide_eq_false (by omega)
    simp [this]
  · simp [h]
  · have : (List.range s.size).all (fun k => partB (byt s k)) = false := by
      rw [List.all_eq_false]
      exact ⟨k, by simp [h1], by simp [h2]⟩
    simp [this]
theorem nameB_true {s : ByteArray} (h1 : ¬ s.size < 1) (h2 : ¬ 40 < s.size) (h3 : letB (byt s 0) = true) (h4 : ∀ k, k < s.size → partB (byt s k) = true) : nameB s = true := by
  unfold nameB
  have e1 : decide (1 ≤ s.size) = true := decide_eq_true (by omega)
  have e2 : decide (s.size ≤ 40) = true := decide_eq_true (by omega)
  have : (List.range s.size).all (fun k => partB (byt s k)) = true := by
    rw [List.all_eq_true]
    intro k hk
    exact h4 k (by simpa using hk)
  rw [e1, e2, h3, this]
  rfl

set_option maxHeartbeats 2000000 in
theorem isName_any (s : ByteArray) (w : World) : Calls Tryz.prog 52 #[.string s] w fun e w' => e = .returned (.bool (nameB s)) ∧ Below w.heap.size w w' := by
  refine calls_cps fun R hR => ?_
  have HR := Lib.hid hR
  clear hR
  go_enter Tryz.func52, Tryz.ntmps52
  by_cases h1 : s.size < 1
  · have HF := Lib.hid (nameB_false (.inl h1))
    go_wp2
    refine HR.out _ _ ⟨by rw [HF.out], Below.refl _ _⟩
  · by_cases h2 : 40 < s.size
    · have HF := Lib.hid (nameB_false (.inr (.inl h2)))
      go_wp2
      refine HR.out _ _ ⟨by rw [HF.out], Below.refl _ _⟩
    · have d1 : decide ((s.size : Int) < 1) = false := decide_eq_false (by omega)
      have d2 : decide ((40 : Int) < (s.size : Int)) = false := decide_eq_false (by omega)
      have H1 := Lib.hid h1
      have H2 := Lib.hid h2
      have hpos : 0 < s.size := by omega
      have hb0 := byt_lt hpos
      go_wp2_with fail
      refine (letter_any _ _).mono ?_
      rintro e w1 ⟨rfl, hb⟩
      cases hl : letB (byt s 0)
      · have HF := Lib.hid (nameB_false (.inr (.inr (.inl hl))))
        go_wp2
        refine HR.out _ _ ⟨(by first | (rw [HF.out]; done) | (rw [HF.out]; rfl)), hb⟩
      · have HL := Lib.hid hl
        have HB := Lib.hid hb
        clear hb hl
        clear hb0 d1 d2
        go_wp2
        go_loopw [20, 3] (fun v20 v3 wr => ∃ (k : Nat), k ≤ s.size ∧ v20 = .int .i64 k ∧ Hid (∀ j, j < k → partB (byt s j) = true) ∧ Below w.heap.size w wr) (fun v20 _ _ => s.size - (intOf v20).toNat)
        case atStart => exact ⟨0, by omega, rfl, Lib.hid (fun j hj => by omega), HB.out⟩
        case round =>
          obtain ⟨k, hk, rfl, HP, hbr⟩ := hrel
          have HBR := Lib.hid hbr
          clear hbr
          by_cases hlt : k < s.size
          · have hkd : decide ((k : Int) < (s.size : Int)) = true := by simp; omega
            have hbk := byt_lt hlt
            go_wp2_with fail
            refine (part_any _ _).mono ?_
            rintro e w2 ⟨rfl, hb2⟩
            have HB2 := Lib.hid (Ext.trans HBR.out hb2)
            clear hb2
            cases hp : partB (byt s k)
            · have HF := Lib.hid (nameB_false (.inr (.inr (.inr ⟨k, hlt, hp⟩))))
              go_wp2
              refine HR.out _ _ ⟨(by first | (rw [HF.out]; done) | (rw [HF.out]; rfl)), HB2.out⟩
            · have HPk := Lib.hid hp
              clear hp
              go_wp2
              go_roundw
              case rel =>
                refine ⟨k + 1, by omega, by go_num, Lib.hid (fun j hj => ?_), HB2.out⟩
                by_cases hjk : j < k
                · exact HP.out j hjk
                · obtain rfl : j = k := by omega
                  exact HPk.out
              case measure => simp [intOf]; omega
          · have hkd : decide ((k : Int) < (s.size : Int)) = false := by simp; omega
            go_wp2
            refine HR.out _ _ ⟨?_, HBR.out⟩
            have HF := nameB_true H1.out H2.out HL.out (fun j hj => HP.out j (by omega))
            exact (by first | (rw [HF]; done) | (rw [HF]; rfl))

theorem partB_of_let {c : Int} (h : letB c = true) : partB c = true := by simp [partB, h]

set_option maxHeartbeats 4000000 in
theorem isName2_any (s : ByteArray) (w : World) : Calls Tryz.prog 39 #[.string s] w fun e w' => e = .returned (.bool (nameB s)) ∧ Below w.heap.size w w' := by
  refine calls_cps fun R hR => ?_
  have HR := Lib.hid hR
  clear hR
  go_enter Tryz.func39, Tryz.ntmps39
  by_cases h1 : s.size < 1
  · have HF := Lib.hid (nameB_false (.inl h1))
    go_wp2
    refine HR.out _ _ ⟨(by first | (rw [HF.out]; done) | (rw [HF.out]; rfl)), Below.refl _ _⟩
  · by_cases h2 : 40 < s.size
    · have HF := Lib.hid (nameB_false (.inr (.inl h2)))
      go_wp2
      refine HR.out _ _ ⟨(by first | (rw [HF.out]; done) | (rw [HF.out]; rfl)), Below.refl _ _⟩
    · have d1 : decide ((s.size : Int) < 1) = false := decide_eq_false (by omega)
      have d2 : decide ((40 : Int) < (s.size : Int)) = false := decide_eq_false (by omega)
      have H1 := Lib.hid h1
      have H2 := Lib.hid h2
      have hpos : 0 < s.size := by omega
      have hb0 := byt_lt hpos
      go_wp2_with fail
      refine (letter2_any _ _).mono ?_
      rintro e w1 ⟨rfl, hb⟩
      cases hl : letB (byt s 0)
      · have HF := Lib.hid (nameB_false (.inr (.inr (.inl hl))))
        go_wp2
        refine HR.out _ _ ⟨(by first | (rw [HF.out]; done) | (rw [HF.out]; rfl)), hb⟩
      · have HL := Lib.hid hl
        have HB := Lib.hid hb
        clear hb hl
        clear hb0 d1 d2
        go_wp2
        go_loopw [3] (fun v3 wr => ∃ (k : Nat), 1 ≤ k ∧ k ≤ s.size ∧ v3 = .int .i64 k ∧ Hid (∀ j, j < k → partB (byt s j) = true) ∧ Below w.heap.size w wr) (fun v3 _ => s.size - (intOf v3).toNat)
        case atStart => exact ⟨1, by omega, by omega, rfl, Lib.hid (fun j hj => by (obtain rfl : j = 0 := by omega); exact partB_of_let HL.out), HB.out⟩
        case round =>
          obtain ⟨k, hk1, hk, rfl, HP, hbr⟩ := hrel
          have HBR := Lib.hid hbr
          clear hbr
          by_cases hlt : k < s.size
          · have hkd : decide ((k : Int) < (s.size : Int)) = true := by simp; omega
            have hbk := byt_lt hlt
            go_wp2_with fail
            refine (letter2_any _ _).mono ?_
            rintro e w2 ⟨rfl, hb2⟩
            have HB2 := Lib.hid (Ext.trans HBR.out hb2)
            clear hb2
            cases hl : letB (byt s k)
            · have HK := Lib.hid hl
              clear hl
              have HX : partB (byt s k) = true ↔ ((48 ≤ byt s k ∧ byt s k ≤ 57) ∨ byt s k = 95 ∨ byt s k = 45 ∨ byt s k = 46) := by simp [partB, HK.out, or_assoc]
              have HXX := Lib.hid HX
              clear HX
              have HG : partB (byt s k) = true → Hid (∀ j, j < k + 1 → partB (byt s j) = true) := fun h => Lib.hid (fun j hj => by
                by_cases hjk : j < k
                · exact HP.out j hjk
                · (obtain rfl : j = k := by omega)
                  exact h)
              have HF : partB (byt s k) = false → Hid (nameB s = false) := fun hp => Lib.hid (nameB_false (.inr (.inr (.inr ⟨k, hlt, hp⟩))))
              have HGG := Lib.hid HG
              have HFF := Lib.hid HF
              clear HG HF HP
              generalize byt s k = c at *
              by_cases g1 : (48 : Int) ≤ c <;> by_cases g2 : c ≤ 57 <;> by_cases g3 : c = 95 <;> by_cases g4 : c = 45 <;> by_cases g5 : c = 46 <;> first
                | (exfalso; omega)
                | (have HP := HGG.out (HXX.out.2 (by omega))
                   (try subst c)
                   clear HXX HFF HGG
                   go_wp2
                   go_roundw
                   case rel => exact ⟨k + 1, by omega, by omega, by go_num, HP, HB2.out⟩
                   case measure => (simp [intOf]; omega))
                | (have HP := HFF.out (by rw [← Bool.not_eq_true]; intro h; have := HXX.out.1 h; omega)
                   have b1 : (c == 95) = false := beq_false_of_ne g3
                   have b2 : (c == 45) = false := beq_false_of_ne g4
                   have b3 : (c == 46) = false := beq_false_of_ne g5
                   have b4 : (decide (48 ≤ c) && decide (c ≤ 57)) = false := by simp; omega
                   first | have b5 := decide_eq_false g1 | have b5 := decide_eq_true g1
                   first | have b6 := decide_eq_false g2 | have b6 := decide_eq_true g2
                   clear g1 g2
                   go_wp2 <;> first
                     | exact HR.out _ _ ⟨(by first | (rw [HP.out]; done) | (rw [HP.out]; rfl)), HB2.out⟩
                     | (exfalso; clear HXX HGG HFF HP HK HB2 HBR HL HB H1 H2; simp_all; done))
            · have HPk := Lib.hid (partB_of_let hl)
              clear hl
              go_wp2
              go_roundw
              case rel =>
                refine ⟨k + 1, by omega, by omega, by go_num, Lib.hid (fun j hj => ?_), HB2.out⟩
                by_cases hjk : j < k
                · exact HP.out j hjk
                · obtain rfl : j = k := by omega
                  exact HPk.out
              case measure => simp [intOf]; omega
          · have hkd : decide ((k : Int) < (s.size : Int)) = false := by simp; omega
            go_wp2
            refine HR.out _ _ ⟨?_, HBR.out⟩
            have HF := nameB_true H1.out H2.out HL.out (fun j hj => HP.out j (by omega))
            exact (by first | (rw [HF]; done) | (rw [HF]; rfl))
end Go.Proofs.YtanfaepjamkbjaaGreat
end
section
namespace Go.Proofs.YtanfaepjamkbjaaGreat
set_option linter.unusedSimpArgs false
set_option linter.unusedVariables false
open Go.RowKit

end Go.Proofs.YtanfaepjamkbjaaGreat
end
section
namespace Go.Proofs.YtanfaepjamkbjaaGreat
set_option linter.unusedSimpArgs false
set_option linter.unusedVariables false
open Go.RowKit

structure Tr where
  label : ByteArray
  inn : List Int
  out : List Int
  deriving Inhabited
structure Net where
  places : Int
  trans : List Tr
  source : Int
  sink : Int

/-- a slice that reads as a list of transitions -/
def RdT (w : World) (lo hi : Nat) (v : Value) (ts : List Tr) : Prop :=
  ∃ vs : List TrV, RdV w lo hi v vs ∧ vs.length = ts.length ∧ ∀ k, k < ts.length → (gti vs k).label = (gti ts k).label ∧ RdI w lo hi (gti vs k).vi (gti ts k).inn ∧ RdI w lo hi (gti vs k).vo (gti ts k).out
section
variable {w W : World} {lo hi : Nat} {v : Value} {l : List Tr}
theorem RdT.of_blocks (h : RdT w lo hi v l) (hk : ∀ b, lo ≤ b → b < hi → b < w.heap.size → W.heap[b]? = w.heap[b]?) : RdT W lo hi v l := by
  obtain ⟨vs, h1, h2, h3⟩ := h
  exact ⟨vs, h1.of_blocks hk, h2, fun k hk' => ⟨(h3 k hk').1, (h3 k hk').2.1.of_blocks hk, (h3 k hk').2.2.of_blocks hk⟩⟩
theorem RdT.after (h : RdT w lo hi v l) (hb : Below w.heap.size w W) : RdT W lo hi v l := h.of_blocks fun b _ _ hb' => hb.block b hb'
theorem RdT.mono {lo' hi' : Nat} (h : RdT w lo hi v l) (hl : lo' ≤ lo) (hh : hi ≤ hi') : RdT w lo' hi' v l := by
  obtain ⟨vs, h1, h2, h3⟩ := h
  exact ⟨vs, h1.mono hl hh, h2, fun k hk' => ⟨(h3 k hk').1, (h3 k hk').2.1.mono hl hh, (h3 k hk').2.2.mono hl hh⟩⟩
theorem RdT.form (h : RdT w lo hi v l) : ∃ A c, v = .slice A l.length c ∧ l.length ≤ c ∧ l.length ≤ 9223372036854775807 := by
  obtain ⟨vs, h1, h2, h3⟩ := h
  rw [← h2]
  exact h1.form
theorem RdT.at3 {A : Option Addr} {c : Nat} (h : RdT w lo hi (.slice A l.length c) l) {k : Nat} (hk : k < l.length) :
    ∃ b off vi vo, A = some ⟨b, off, none⟩ ∧ lo ≤ b ∧ b < hi ∧ C3 w b (off + k * 3) (.string (gti l k).label) vi vo ∧ RdI w lo hi vi (gti l k).inn ∧ RdI w lo hi vo (gti l k).out := by
  obtain ⟨vs, h1, h2, h3⟩ := h
  rw [← h2] at h1
  obtain ⟨b, off, hA, hl, hh, hc⟩ := RdV.at3 (k := k) h1 (by omega)
  rw [(h3 k hk).1] at hc
  exact ⟨b, off, _, _, hA, hl, hh, hc, (h3 k hk).2⟩
end
abbrev Loc.rdT (lo hi : Nat) (v : Value) (l : List Tr) : Loc :=
  ⟨fun w => RdT w lo hi v l, fun k => lo ≤ k ∧ k < hi, fun h hd hp => RdT.of_blocks hp (fun b h1 h2 h3 => h.block b h3 (hd b ⟨h1, h2⟩))⟩
abbrev K4 (w : World) (g : Nat) (a b c d : Value) : Prop := w.cell? ⟨g, 0, none⟩ = some a ∧ w.cell? ⟨g, 1, none⟩ = some b ∧ w.cell? ⟨g, 2, none⟩ = some c ∧ w.cell? ⟨g, 3, none⟩ = some d ∧ g < w.heap.size
theorem K4.of_block {W W' : World} {g : Nat} {a b c d : Value} (h : K4 W g a b c d) (he : W'.heap[g]? = W.heap[g]?) (hs : W.heap.size ≤ W'.heap.size) : K4 W' g a b c d := by
  obtain ⟨h1, h2, h3, h4, h7⟩ := h
  exact ⟨(World.cell?_of_block (w := W) he).trans h1, (World.cell?_of_block (w := W) he).trans h2, (World.cell?_of_block (w := W) he).trans h3, (World.cell?_of_block (w := W) he).trans h4, Nat.lt_of_lt_of_le h7 hs⟩
theorem K4.aft {W w1 : World} {g : Nat} {a b c d : Value} (hb : Below W.heap.size W w1) (h : K4 W g a b c d) : K4 w1 g a b c d := K4.of_block h (hb.block g h.2.2.2.2) hb.size
theorem K4.new (W : World) (a b c d : Value) (t : TypeId) : K4 (W.alloc (.cells #[a, b, c, d] t)) W.heap.size a b c d := by simp [K4, go_sem]
abbrev Loc.k4 (g : Nat) (a b c d : Value) : Loc := ⟨fun w => K4 w g a b c d, fun k => k = g, fun h hd hp => K4.of_block hp (h.block g hp.2.2.2.2 (hd g rfl)) h.size⟩

/-- a net, as an argument: n's transitions lie in blocks from lo on, below hi -/
abbrev netV (n : Net) (vt : Value) : Value := .agg #[.int .i64 n.places, vt, .int .i64 n.source, .int .i64 n.sink]

end Go.Proofs.YtanfaepjamkbjaaGreat
end
section
namespace Go.Proofs.YtanfaepjamkbjaaGreat
set_option linter.unusedSimpArgs false
set_option linter.unusedVariables false
open Go.RowKit

/-- element k is no place, or not behind the one before it -/
def badP (n : Int) (l : List Int) (k : Nat) : Prop := gti l k < 0 ∨ n ≤ gti l k ∨ (0 < k ∧ gti l k ≤ gti l (k - 1))
instance (n : Int) (l : List Int) (k : Nat) : Decidable (badP n l k) := by unfold badP; infer_instance
def placesB (n : Int) (l : List Int) : Bool := (List.range l.length).all fun k => !decide (badP n l k)
theorem placesB_false {n : Int} {l : List Int} {k : Nat} (h : k < l.length) (hb : badP n l k) : placesB n l = false := by
  unfold placesB
  rw [List.all_eq_false]
  exact ⟨k, by simp [h], by simp [hb]⟩
theorem placesB_true {n : Int} {l : List Int} (h : ∀ k, k < l.length → ¬ badP n l k) : placesB n l = true := by
  unfold placesB
  rw [List.all_eq_true]
  intro k hk
  simp [h k (by simpa using hk)]

set_option maxHeartbeats 2000000 in
theorem places_any (n : Net) (vt : Value) (l : List Int) (lo hi : Nat) (v : Value) (w : World) (hv : RdI w lo hi v l) :
    Calls Tryz.prog 53 #[netV n vt, v] w fun e w' => e = .returned (.bool (placesB n.places l)) ∧ Below w.heap.size w w' := by
  obtain ⟨A, c, rfl, hc, hm⟩ := hv.form
  have HV := Lib.hid (hv.after ((Below.refl _ w).alloc (Nat.le_refl _) (.cells #[.int .i64 n.places, vt, .int .i64 n.source, .int .i64 n.sink] 24)))
  have hk4 := K4.new w (.int .i64 n.places) vt (.int .i64 n.source) (.int .i64 n.sink) 24
  have HB := Lib.hid ((Below.refl w.heap.size w).alloc (Nat.le_refl _) (.cells #[.int .i64 n.places, vt, .int .i64 n.source, .int .i64 n.sink] 24))
  clear hv
  refine calls_cps fun R hR => ?_
  have HR := Lib.hid hR
  clear hR
  go_enter Tryz.func53, Tryz.ntmps53
  go_wp2
  generalize w.alloc (.cells #[.int .i64 n.places, vt, .int .i64 n.source, .int .i64 n.sink] 24) = W at *
  go_loopw [9, 5, 6] (fun v9 _ _ wr => ∃ k : Nat, k ≤ l.length ∧ v9 = .int .i64 k ∧ Hid (∀ j, j < k → ¬ badP n.places l j) ∧ wr = W) (fun v9 _ _ _ => l.length - (intOf v9).toNat)
  case atStart => exact ⟨0, by omega, rfl, Lib.hid (fun j h => by omega), rfl⟩
  case round =>
    obtain ⟨k, hk, rfl, HP, rfl⟩ := hrel
    by_cases hlt : k < l.length
    · have hkd : decide ((k : Int) < (l.length : Int)) = true := by simp; omega
      obtain ⟨b, off, rfl, _, _, hcell⟩ := RdI.at1 HV.out hlt
      have HF : badP n.places l k → Hid (placesB n.places l = false) := fun h => Lib.hid (placesB_false hlt h)
      have HG : ¬ badP n.places l k → Hid (∀ j, j < k + 1 → ¬ badP n.places l j) := fun h => Lib.hid (fun j hj => by
        by_cases hjk : j < k
        · exact HP.out j hjk
        · (obtain rfl : j = k := by omega)
          exact h)
      unfold badP at HF HG
      have HFF := Lib.hid HF
      have HGG := Lib.hid HG
      clear HF HG HP
      by_cases g1 : gti l k < 0
      · have HF := HFF.out (.inl g1)
        have b1 := decide_eq_true g1
        go_wp2
        exact HR.out _ _ ⟨(by first | (rw [HF.out]; done) | (rw [HF.out]; rfl)), HB.out⟩
      · have b1 := decide_eq_false g1
        by_cases g2 : n.places ≤ gti l k
        · have HF := HFF.out (.inr (.inl g2))
          have b2 := decide_eq_true g2
          go_wp2
          exact HR.out _ _ ⟨(by first | (rw [HF.out]; done) | (rw [HF.out]; rfl)), HB.out⟩
        · have b2 := decide_eq_false g2
          rcases Nat.eq_zero_or_pos k with rfl | hpos
          · have HP := HGG.out (by omega)
            have hcell0 : C1 wr b off (.int .i64 (gti l 0)) := hcell
            go_wp2
            go_roundw
            case rel => exact ⟨0 + 1, by omega, by go_num, HP, by trivial⟩
            case measure => simp [intOf]; omega
          · have b3 : decide ((0 : Int) < (k : Int)) = true := decide_eq_true (by omega)
            obtain ⟨j, rfl⟩ : ∃ j, k = j + 1 := ⟨k - 1, by omega⟩
            obtain ⟨_, _, e, _, _, hcell2⟩ := RdI.at1 HV.out (k := j) (by omega)
            injection e with e
            injection e with e1 e2
            subst e1 e2
            by_cases g3 : gti l (j + 1) ≤ gti l j
            · have HF := HFF.out (.inr (.inr ⟨hpos, g3⟩))
              have b4 := decide_eq_true g3
              go_wp2
              exact HR.out _ _ ⟨(by first | (rw [HF.out]; done) | (rw [HF.out]; rfl)), HB.out⟩
            · have b4 := decide_eq_false g3
              have HP := HGG.out (by simp only [Nat.add_sub_cancel]; omega)
              go_wp2
              go_roundw
              case rel => exact ⟨j + 1 + 1, by omega, by go_num, HP, by trivial⟩
              case measure => simp [intOf]; omega
    · have hkd : decide ((k : Int) < (l.length : Int)) = false := by simp; omega
      go_wp2
      have HF := placesB_true (fun j hj => HP.out j (by omega))
      exact HR.out _ _ ⟨(by first | (rw [HF]; done) | (rw [HF]; rfl)), HB.out⟩
end Go.Proofs.YtanfaepjamkbjaaGreat
end
section
namespace Go.Proofs.YtanfaepjamkbjaaGreat
set_option linter.unusedSimpArgs false
set_option linter.unusedVariables false
open Go.RowKit

set_option maxHeartbeats 2000000 in
theorem places2_any (n : Int) (l : List Int) (lo hi : Nat) (v : Value) (w : World) (hv : RdI w lo hi v l) :
    Calls Tryz.prog 40 #[.int .i64 n, v] w fun e w' => e = .returned (.bool (placesB n l)) ∧ Below w.heap.size w w' := by
  obtain ⟨A, c, rfl, hc, hm⟩ := hv.form
  have HV := Lib.hid hv
  clear hv
  refine calls_cps fun R hR => ?_
  have HR := Lib.hid hR
  clear hR
  go_enter Tryz.func40, Tryz.ntmps40
  go_wp2
  go_loopw [5] (fun v9 wr => ∃ k : Nat, k ≤ l.length ∧ v9 = .int .i64 k ∧ Hid (∀ j, j < k → ¬ badP n l j) ∧ ∃ m, wr = w.drewN m) (fun v9 _ => l.length - (intOf v9).toNat)
  case atStart => exact ⟨0, by omega, rfl, Lib.hid (fun j h => by omega), 0, rfl⟩
  case round =>
    obtain ⟨k, hk, rfl, HP, m, rfl⟩ := hrel
    by_cases hlt : k < l.length
    · have hkd : decide ((k : Int) < (l.length : Int)) = true := by simp; omega
      have hkb : (k : Int) < (l.length : Int) := by omega
      obtain ⟨b, off, rfl, _, _, hcell⟩ := RdI.at1 HV.out hlt
      have HF : badP n l k → Hid (placesB n l = false) := fun h => Lib.hid (placesB_false hlt h)
      have HG : ¬ badP n l k → Hid (∀ j, j < k + 1 → ¬ badP n l j) := fun h => Lib.hid (fun j hj => by
        by_cases hjk : j < k
        · exact HP.out j hjk
        · (obtain rfl : j = k := by omega)
          exact h)
      unfold badP at HF HG
      have HFF := Lib.hid HF
      have HGG := Lib.hid HG
      clear HF HG HP
      by_cases g1 : gti l k < 0
      · have HF := HFF.out (.inl g1)
        have b1 := decide_eq_true g1
        go_wp2
        go_quiet (fail)
        go_wp2
        exact HR.out _ _ ⟨(by first | (rw [HF.out]; done) | (rw [HF.out]; rfl)), by first | exact below_drewN (Below.refl _ _) _ | exact below_drewN (below_drewN (Below.refl _ _) _) _⟩
      · have b1 := decide_eq_false g1
        by_cases g2 : n ≤ gti l k
        · have HF := HFF.out (.inr (.inl g2))
          have b2 := decide_eq_true g2
          go_wp2
          go_quiet (fail)
          go_wp2
          exact HR.out _ _ ⟨(by first | (rw [HF.out]; done) | (rw [HF.out]; rfl)), by first | exact below_drewN (Below.refl _ _) _ | exact below_drewN (below_drewN (Below.refl _ _) _) _⟩
        · have b2 := decide_eq_false g2
          rcases Nat.eq_zero_or_pos k with rfl | hpos
          · have HP := HGG.out (by omega)
            have hcell0 : C1 w b off (.int .i64 (gti l 0)) := hcell
            go_wp2
            go_quiet (fail)
            go_wp2
            go_roundw
            case rel => exact ⟨0 + 1, by omega, by go_num, HP, m + nq, by first | rfl | rw [World.drewN_drewN]⟩
            case measure => simp [intOf]; omega
          · have b3 : decide ((0 : Int) < (k : Int)) = true := decide_eq_true (by omega)
            obtain ⟨j, rfl⟩ : ∃ j, k = j + 1 := ⟨k - 1, by omega⟩
            obtain ⟨_, _, e, _, _, hcell2⟩ := RdI.at1 HV.out (k := j) (by omega)
            injection e with e
            injection e with e1 e2
            subst e1 e2
            by_cases g3 : gti l (j + 1) ≤ gti l j
            · have HF := HFF.out (.inr (.inr ⟨hpos, g3⟩))
              have b4 := decide_eq_true g3
              go_wp2
              go_quiet (fail)
              go_wp2
              exact HR.out _ _ ⟨(by first | (rw [HF.out]; done) | (rw [HF.out]; rfl)), by first | exact below_drewN (Below.refl _ _) _ | exact below_drewN (below_drewN (Below.refl _ _) _) _⟩
            · have b4 := decide_eq_false g3
              have HP := HGG.out (by simp only [Nat.add_sub_cancel]; omega)
              go_wp2
              go_quiet (fail)
              go_wp2
              go_roundw
              case rel => exact ⟨j + 1 + 1, by omega, by go_num, HP, m + nq, by first | rfl | rw [World.drewN_drewN]⟩
              case measure => simp [intOf]; omega
    · have hkd : decide ((k : Int) < (l.length : Int)) = false := by simp; omega
      go_wp2
      have HF := placesB_true (fun j hj => HP.out j (by omega))
      exact HR.out _ _ ⟨(by first | (rw [HF]; done) | (rw [HF]; rfl)), by first | exact below_drewN (Below.refl _ _) _ | exact below_drewN (below_drewN (Below.refl _ _) _) _⟩
end Go.Proofs.YtanfaepjamkbjaaGreat
end
section
namespace Go.Proofs.YtanfaepjamkbjaaGreat
set_option linter.unusedSimpArgs false
set_option linter.unusedVariables false
open Go.RowKit

/-- what is known of a slice type: its elements' type, their cells and bytes, their zero -/
def TI (t e size bytes : Nat) (z : Value) : Prop := ∃ i, Tryz.prog.underlying t = some (.slice e) ∧ Tryz.prog.info? e = some i ∧ i.zero = some z ∧ i.size = size ∧ i.bytes = bytes ∧ z.cells.size = size ∧ 0 < size
theorem TI.mk {t e size bytes : Nat} {z : Value} (h1 : Tryz.prog.underlying t = some (.slice e)) (h2 : (Tryz.prog.info? e).map (fun i => (i.zero, i.size, i.bytes)) = some (some z, size, bytes)) (h3 : z.cells.size = size) (h4 : 0 < size) : TI t e size bytes z := by
  obtain ⟨i, hi, a, b, c⟩ := info_parts h2
  exact ⟨i, h1, hi, a, b, c, h3, h4⟩
theorem ti_int : TI 25 3 1 8 (.int .i64 0) := TI.mk Tryz.underlying25 (by kernel_rfl) rfl (by decide)

/-- a row of the call's own that reads as l: nil, or one block from lo on, below hi -/
def Own {α : Type} (e size : Nat) (enc : α → List Value) (w : World) (lo hi : Nat) (v : Value) (l : List α) : Prop :=
  w.ownsRow lo e size v l.length (l.flatMap enc) ∧ ∀ k, v.ownBlock = some k → k < hi
section
variable {α : Type} {e size : Nat} {enc : α → List Value} {w W : World} {lo hi : Nat} {v : Value} {l : List α}
theorem Own.nil (w : World) (lo hi : Nat) : Own e size enc w lo hi (.slice none 0 0) [] := ⟨⟨by simp, .inl ⟨rfl, rfl⟩⟩, fun k h => by cases h⟩
theorem Own.mono {lo' hi' : Nat} (h : Own e size enc w lo hi v l) (hl : lo' ≤ lo) (hh : hi ≤ hi') : Own e size enc w lo' hi' v l := ⟨own_lower h.1 hl, fun k hk => Nat.lt_of_lt_of_le (h.2 k hk) hh⟩
theorem Own.keep {D : Nat → Prop} (hc : Chg D w W) (hd : ∀ k, lo ≤ k ∧ k < hi → ¬ D k) (h : Own e size enc w lo hi v l) : Own e size enc W lo hi v l := by
  refine ⟨⟨h.1.1, ?_⟩, h.2⟩
  rcases h.1.2 with h2 | ⟨g, cap, cur, hv, hg, hh, r⟩
  · exact Or.inl h2
  · have hvg : v.ownBlock = some g := by rw [hv]; rfl
    exact Or.inr ⟨g, cap, cur, hv, hg, (hc.block g (Array.getElem?_eq_some_iff.1 hh).1 (hd g ⟨hg, h.2 g hvg⟩)).trans hh, r⟩
theorem Own.form (h : Own e size enc w lo hi v l) : ∃ A c, v = .slice A l.length c ∧ l.length ≤ c ∧ l.length ≤ 9223372036854775807 := by
  rcases h.1.2 with ⟨rfl, h2⟩ | ⟨g, cap, cur, hv, hg, hh, h1, h2, _⟩
  · exact ⟨none, 0, by rw [h2], by omega, by omega⟩
  · exact ⟨_, _, hv, h1, by unfold maxLen at h2; omega⟩
theorem Own.rd (h : Own e size enc w lo hi v l) : Rd size enc w lo hi v l := by
  rcases h.1.2 with ⟨rfl, h2⟩ | ⟨g, cap, cur, hv, hg, hh, h1, h2, h3, h4⟩
  · have : l = [] := List.eq_nil_of_length_eq_zero h2
    subst this
    exact Rd.nil w lo hi
  · refine ⟨h.1.1, _, _, hv, h1, Nat.le_trans h1 h2, fun _ => ⟨g, 0, rfl, hg, h.2 g (by rw [hv]; rfl), fun j u hu => ?_⟩⟩
    rw [cell_of_row w g (0 + j) cur e (0, 0) hh, Nat.zero_add]
    rw [← h4, List.getElem?_take] at hu
    split at hu
    · simpa using hu
    · cases hu
/-- the block of a row that is not empty -/
theorem Own.blk (h : Own e size enc w lo hi v l) (hn : 0 < l.length) : ∃ g cap, v = .slice (some ⟨g, 0, none⟩) l.length cap ∧ lo ≤ g ∧ g < hi ∧ g < w.heap.size := by
  rcases h.1.2 with ⟨rfl, h2⟩ | ⟨g, cap, cur, hv, hg, hh, h1, h2, h3, h4⟩
  · omega
  · exact ⟨g, cap, hv, hg, h.2 g (by rw [hv]; rfl), (Array.getElem?_eq_some_iff.1 hh).1⟩
theorem Own.cell {g n cap : Nat} (h : Own e size enc w lo hi (.slice (some ⟨g, 0, none⟩) n cap) l) (he : ∀ a, (enc a).length = size) {k : Nat} {a : α} (hk : l[k]? = some a) {j : Nat} {u : Value} (hu : (enc a)[j]? = some u) :
    w.cell? ⟨g, k * size + j, none⟩ = some u ∧ w.frozen? ⟨g, k * size + j, none⟩ = false := by
  rcases h.1.2 with ⟨h0, _⟩ | ⟨g', c', cur, hv, hb, hg, _, _, hs, ht⟩
  · cases h0
  · injection hv with hA _ _
    injection hA with hA
    injection hA with hA
    subst hA
    refine ⟨?_, by simp [World.frozen?, hg]⟩
    rw [cell_of_row w g _ cur e (0, 0) hg]
    have hf := flatMap_get he l k a j u hk hu
    rw [← ht, List.getElem?_take] at hf
    split at hf
    · simpa using hf
    · cases hf
/-- a store of an element of one cell -/
theorem Own.set1 {enc : α → List Value} {g n cap : Nat} (h : Own e 1 enc w lo hi (.slice (some ⟨g, 0, none⟩) n cap) l) {k : Nat} {a : α} {u : Value} (he : ∀ a, (enc a).length = 1) (hu : enc a = [u]) :
    Own e 1 enc (w.setCell ⟨g, k, none⟩ u) lo hi (.slice (some ⟨g, 0, none⟩) n cap) (l.set k a) := by
  refine ⟨?_, h.2⟩
  rcases h.1.2 with ⟨h0, _⟩ | ⟨g', c', cur, hv, hb, hg, h1, h2, hs, ht⟩
  · cases h0
  · injection hv with hA hn hc
    injection hA with hA
    injection hA with hA
    subst hA hc hn
    have hset : ∀ (l : List α) (k : Nat), (l.set k a).flatMap enc = (l.flatMap enc).set k u := by
      intro l
      induction l with
      | nil => intro k; simp
      | cons b l ih =>
        intro k
        obtain ⟨y, hy⟩ : ∃ y, enc b = [y] := List.length_eq_one_iff.1 (he b)
        cases k with
        | zero => simp [hu, hy]
        | succ k => simp [hy, ih k]
    refine ⟨by rw [flatMap_len he, List.length_set], .inr ⟨g, cap, cur.setIfInBounds k u, by rw [List.length_set], hb, ?_, by rw [List.length_set]; exact h1, h2, by simp [hs], ?_⟩⟩
    · simp [World.setCell, Array.getElem?_modify, hg]
    · rw [hset, ← ht, List.length_set]
      simp only [Array.toList_setIfInBounds]
      rw [List.take_set]
end
abbrev Loc.ow {α : Type} (e size : Nat) (enc : α → List Value) (lo hi : Nat) (v : Value) (l : List α) : Loc :=
  ⟨fun w => Own e size enc w lo hi v l, fun k => lo ≤ k ∧ k < hi, fun h hd hp => Own.keep h hd hp⟩
abbrev OwnI := Own 3 1 encI
abbrev Loc.owI (lo hi : Nat) (v : Value) (l : List Int) : Loc := Loc.ow 3 1 encI lo hi v l
abbrev Loc.rdI (lo hi : Nat) (v : Value) (l : List Int) : Loc := Loc.rd 1 encI lo hi v l
abbrev Loc.rdS (lo hi : Nat) (v : Value) (l : List ByteArray) : Loc := Loc.rd 1 encS lo hi v l
abbrev Loc.rdM (lo hi : Nat) (v : Value) (l : List Stp) : Loc := Loc.rd 3 encM lo hi v l
theorem OwnI.at1 {w : World} {lo hi g n cap : Nat} {l : List Int} (h : OwnI w lo hi (.slice (some ⟨g, 0, none⟩) n cap) l) {k : Nat} (hk : k < l.length) :
    w.cell? ⟨g, k, none⟩ = some (.int .i64 (gti l k)) ∧ w.frozen? ⟨g, k, none⟩ = false := by
  have := Own.cell h (fun _ => rfl) (gti_get hk) (j := 0) (u := .int .i64 (gti l k)) rfl
  simpa using this
theorem OwnI.set {w : World} {lo hi g n cap : Nat} {l : List Int} (h : OwnI w lo hi (.slice (some ⟨g, 0, none⟩) n cap) l) (k : Nat) (x : Int) :
    OwnI (w.setCell ⟨g, k, none⟩ (.int .i64 x)) lo hi (.slice (some ⟨g, 0, none⟩) n cap) (l.set k x) := Own.set1 h (fun _ => rfl) rfl

/-- a new literal of one element, read and owned -/
theorem Own.lit {α : Type} {size : Nat} {enc : α → List Value} (W : World) (t : TypeId) (lo : Nat) (l : List α) (cs : Array Value) (n : Nat) (hn : n = l.length) (hcs : cs.toList = l.flatMap enc) (hl : lo ≤ W.heap.size) (hm : n ≤ maxLen) (he : ∀ a, (enc a).length = size) :
    Own t size enc (W.alloc (.cells cs t)) lo (W.heap.size + 1) (.slice (some ⟨W.heap.size, 0, none⟩) n n) l := by
  subst hn
  have hsz : cs.size = l.length * size := by rw [← Array.length_toList, hcs, flatMap_len he]
  have h := own_lit W cs t lo size l.length hsz hm hl
  rw [hcs] at h
  exact ⟨h, fun k hk => by simp [Value.ownBlock] at hk; omega⟩
theorem Rd.lit {α : Type} {size : Nat} {enc : α → List Value} (W : World) (t : TypeId) (l : List α) (cs : Array Value) (n : Nat) (hn : n = l.length) (hcs : cs.toList = l.flatMap enc) (hm : n ≤ maxLen) (he : ∀ a, (enc a).length = size) :
    Rd size enc (W.alloc (.cells cs t)) 0 (W.heap.size + 1) (.slice (some ⟨W.heap.size, 0, none⟩) n n) l := (Own.lit W t 0 l cs n hn hcs (Nat.zero_le _) hm he).rd
theorem RdI.lit1 (W : World) (x : Int) (t : TypeId) : RdI (W.alloc (.cells #[.int .i64 x] t)) 0 (W.heap.size + 1) (.slice (some ⟨W.heap.size, 0, none⟩) 1 1) [x] := Rd.lit W t [x] _ 1 rfl rfl (by decide) (fun _ => rfl)

theorem add_off (b off j : Nat) : (⟨b, off, none⟩ : Addr).add j = ⟨b, off + j, none⟩ := by unfold Addr.add; split <;> simp_all
/-- the law of append, onto a row of the call's own, whatever the source -/
theorem run_app {α : Type} {t e size bytes : Nat} {z : Value} {enc : α → List Value} (ti : TI t e size bytes z) (he : ∀ a, (enc a).length = size) (h1 : ∀ a, ∀ u ∈ enc a, u.oneCell' = true) (w : World) (ty : TypeId) {lo hi lo' hi' : Nat} {v vx : Value} {l xs : List α} {rest : List Loc}
    (hM : Mem (Loc.ow e size enc lo hi v l :: rest) w) (hA : Apart (fun k => lo ≤ k ∧ k < hi) rest) (hx : Rd size enc w lo' hi' vx xs) (hlen : (l.length + xs.length) * bytes ≤ 140737488355328) (hlen2 : l.length + xs.length ≤ maxLen) (hlo : lo ≤ w.heap.size) :
    ∃ A c w', (Builtin.append_ #[t, t] ty #[v, vx]).run Tryz.prog w = .ok (.slice A (l.length + xs.length) c) w' ∧ Mem (Loc.ow e size enc lo w'.heap.size (.slice A (l.length + xs.length) c) (l ++ xs) :: rest) w' ∧ w.heap.size ≤ w'.heap.size ∧ Chg (fun k => lo ≤ k ∧ k < hi) w w' := by
  obtain ⟨i, ht, hi0, hz, hsize, hby, hzs, hsz⟩ := ti
  obtain ⟨ho, hr⟩ := hM
  obtain ⟨A, c, rfl, _, _⟩ := hx.form
  have fin : ∀ (v' : Value) (w' : World), w'.ownsRow lo e size v' (l.length + xs.length) (l.flatMap enc ++ xs.flatMap enc) → w.grownBy w' v.ownBlock → (v'.ownBlock = v.ownBlock ∨ v'.ownBlock = some w.heap.size) →
      ∃ A c, v' = .slice A (l.length + xs.length) c ∧ Mem (Loc.ow e size enc lo w'.heap.size (.slice A (l.length + xs.length) c) (l ++ xs) :: rest) w' ∧ w.heap.size ≤ w'.heap.size ∧ Chg (fun k => lo ≤ k ∧ k < hi) w w' := by
    intro v' w' h2 h3 h4
    have hown : Own e size enc w' lo w'.heap.size v' (l ++ xs) := by
      refine ⟨by rw [List.length_append, List.flatMap_append]; exact h2, fun k hk => (h2.lt k hk).2⟩
    obtain ⟨A', c', hv', _, _⟩ := hown.form
    rw [List.length_append] at hv'
    subst hv'
    have hch : Chg (fun k => lo ≤ k ∧ k < hi) w w' := ⟨h3.os, h3.tape, h3.output, h3.size, fun k hk hd => h3.block k hk (fun e => hd ⟨(ho.1.lt k e.symm).1, ho.2 k e.symm⟩)⟩
    exact ⟨A', c', rfl, ⟨hown, hr.chg hch hA⟩, h3.size, hch⟩
  rcases A with _ | ad
  · have hm : xs.length = 0 := by
      rcases Nat.eq_zero_or_pos xs.length with h0 | h0
      · exact h0
      · obtain ⟨b, off, h, _⟩ := RdC.cells hx h0
        cases h
    have hxs : xs = [] := List.eq_nil_of_length_eq_zero hm
    subst hxs
    have hrun : (Builtin.append_ #[t, t] ty #[v, .slice none ([] : List α).length c]).run Tryz.prog w = .ok v w := by
      rcases ho.1.2 with ⟨rfl, h0⟩ | ⟨g, cap, cur, rfl, _, _, hnc, _⟩
      · simp [Builtin.append_, run_underlying ht, sizeOf, typeInfo, hi0, Builtin.lenOf, Builtin.firstCells]
      · simp [Builtin.append_, run_underlying ht, sizeOf, typeInfo, hi0, Builtin.lenOf, Builtin.firstCells, hnc, storeCells]
    obtain ⟨A', c', hv, hM', h5, h6⟩ := fin v w (by simpa using ho.1) (World.grownBy.refl w _) (.inl rfl)
    exact ⟨A', c', w, hrun.trans (by rw [hv]), hM', h5, h6⟩
  · have hcells : ∀ j u, (xs.flatMap enc)[j]? = some u → w.cell? (ad.add j) = some u := by
      intro j u hu
      rcases Nat.eq_zero_or_pos xs.length with h0 | h0
      · have : xs = [] := List.eq_nil_of_length_eq_zero h0
        subst this
        simp at hu
      · obtain ⟨b, off, h, _, _, hc⟩ := RdC.cells hx h0
        rw [Option.some.inj h, add_off]
        exact hc j u hu
    obtain ⟨v', w', hrun, h2, h3, _, h5⟩ := run_append_own_at (P := Tryz.prog) w lo t ty e i z size bytes ht hi0 hz hsize hby hzs hsz v l.length (l.flatMap enc) ho.1 ad xs.length c (xs.flatMap enc) (flatMap_len he xs) hcells
      (fun u hu => by obtain ⟨a, _, ha⟩ := List.mem_flatMap.1 hu; exact h1 a u ha) hlen2 hlen hlo
    obtain ⟨A', c', hv, hM', h6, h7⟩ := fin v' w' h2 h3 h5
    exact ⟨A', c', w', hrun.trans (by rw [hv]), hM', h6, h7⟩

section
variable {α : Type} {t e size bytes : Nat} {z : Value} {enc : α → List Value}
theorem wp_app {o : Oper} {a : Act} {K : Act → World → Prop} {Q : Exit → Act → World → Prop} (s x : Operand) (ho : o.op = .call { callee := .builtin .append, args := #[s, x], argTypes := #[t, t] })
    (ti : TI t e size bytes z) (he : ∀ a, (enc a).length = size) (h1 : ∀ a, ∀ u ∈ enc a, u.oneCell' = true) {w : World} {lo hi lo' hi' : Nat} {v vx : Value} {l xs : List α} {rest : List Loc} (hs : a.eval s = v) (hvx : a.eval x = vx)
    (hM : Mem (Loc.ow e size enc lo hi v l :: rest) w) (hA : Apart (fun k => lo ≤ k ∧ k < hi) rest) (hx : Rd size enc w lo' hi' vx xs) (hlen : (l.length + xs.length) * bytes ≤ 140737488355328) (hlen2 : l.length + xs.length ≤ 9223372036854775807) (hlo : lo ≤ w.heap.size)
    (h : ∀ A c w', Mem (Loc.ow e size enc lo w'.heap.size (.slice A (l.length + xs.length) c) (l ++ xs) :: rest) w' → w.heap.size ≤ w'.heap.size → Chg (fun k => lo ≤ k ∧ k < hi) w w' → K (a.put o.dst (.slice A (l.length + xs.length) c)) w') : o.wp Tryz.prog a w K Q := by
  obtain ⟨A, c, w', hrun, h2, h3, h4⟩ := run_app ti he h1 w o.type hM hA hx hlen (by unfold maxLen; omega) hlo
  unfold Oper.wp execOp
  simp only [ho, resolve, invoke, builtin, Sem.run_bind, Sem.run_pure, Result.andThen_ok, List.map_toArray, List.map_cons, List.map_nil, hs, hvx, hrun]
  exact h A c w' h2 h3 h4
theorem wpList_app {ops : Array Oper} {restO : List Oper} {o : Oper} {a : Act} {Q : Exit → Act → World → Prop} (hgd : o.guard = none) (s x : Operand) (ho : o.op = .call { callee := .builtin .append, args := #[s, x], argTypes := #[t, t] })
    (ti : TI t e size bytes z) (he : ∀ a, (enc a).length = size) (h1 : ∀ a, ∀ u ∈ enc a, u.oneCell' = true) {w : World} {lo hi lo' hi' : Nat} {v vx : Value} {l xs : List α} {rest : List Loc} (hs : a.eval s = v) (hvx : a.eval x = vx)
    (hM : Mem (Loc.ow e size enc lo hi v l :: rest) w) (hA : Apart (fun k => lo ≤ k ∧ k < hi) rest) (hx : Rd size enc w lo' hi' vx xs) (hlen : (l.length + xs.length) * bytes ≤ 140737488355328) (hlen2 : l.length + xs.length ≤ 9223372036854775807) (hlo : lo ≤ w.heap.size)
    (h : ∀ A c w', Mem (Loc.ow e size enc lo w'.heap.size (.slice A (l.length + xs.length) c) (l ++ xs) :: rest) w' → w.heap.size ≤ w'.heap.size → Chg (fun k => lo ≤ k ∧ k < hi) w w' → wpList Tryz.prog ops Q restO (a.put o.dst (.slice A (l.length + xs.length) c)) w') : wpList Tryz.prog ops Q (o :: restO) a w :=
  wpList_plain hgd fun _ hK => wp_app s x ho ti he h1 hs hvx hM hA hx hlen hlen2 hlo fun A c w' h2 h3 h4 => hK _ _ (h A c w' h2 h3 h4)
end

/-- make([]T, n): the run, and the row -/
theorem run_mk {t e size bytes : Nat} {z : Value} (ti : TI t e size bytes z) (w : World) (n : Nat) (hn : bytes * n ≤ 140737488355328) (h63 : n ≤ 9223372036854775807) :
    (Instr.makeSlice t (.int .i64 (n : Int)) (.int .i64 (n : Int))).run Tryz.prog w = .ok (.slice (some ⟨w.heap.size, 0, none⟩) n n) (w.alloc (.cells (madeCells z.cells (n * size)) e)) := by
  obtain ⟨i, ht, hi0, hz, hsize, hby, hzs, hsz⟩ := ti
  have := run_make (P := Tryz.prog) w t e i z ht hi0 hz .i64 .i64 (n : Int) (n : Int) (by omega) (by omega) (by rw [hby]; omega) (by omega)
  rw [Int.toNat_natCast, hsize] at this
  exact this
theorem made_rep {α : Type} {size : Nat} {enc : α → List Value} {z : Value} (a : α) (hz : z.cells.toList = enc a) (hs : z.cells.size = size) (hpos : 0 < size) : ∀ n, (madeCells z.cells (n * size)).toList = (List.replicate n a).flatMap enc := by
  intro n
  apply List.ext_getElem?
  intro j
  have hlen : (enc a).length = size := by rw [← hz, Array.length_toList, hs]
  have hL : ((List.replicate n a).flatMap enc).length = n * size := by
    induction n with
    | zero => simp
    | succ n ih => rw [List.replicate_succ, List.flatMap_cons, List.length_append, ih, hlen, Nat.add_mul]; omega
  by_cases hj : j < n * size
  · have hq : j / size < n := (Nat.div_lt_iff_lt_mul hpos).2 hj
    have hmod : j % size < size := Nat.mod_lt _ hpos
    have e1 : (madeCells z.cells (n * size)).toList[j]? = some (z.cells[j % size]!) := by
      simp [madeCells, hj, hs]
    have e2 : (enc a)[j % size]? = some (z.cells[j % size]!) := by
      rw [← hz]
      simp [hs, hmod]
    have e3 : ((List.replicate n a).flatMap enc)[j]? = (enc a)[j % size]? := by
      clear e1 e2 hL
      induction n generalizing j with
      | zero => simp at hj
      | succ n ih =>
        rw [List.replicate_succ, List.flatMap_cons]
        by_cases hjs : j < size
        · rw [List.getElem?_append_left (by omega), Nat.mod_eq_of_lt hjs]
        · rw [List.getElem?_append_right (by omega), hlen]
          have hlt : j - size < n * size := by rw [Nat.add_mul] at hj; omega
          rw [ih (j - size) hlt ((Nat.div_lt_iff_lt_mul hpos).2 hlt) (Nat.mod_lt _ hpos)]
          rw [← Nat.mod_eq_sub_mod (by omega)]
    rw [e1, e3, e2]
  · rw [List.getElem?_eq_none (by simp [size_madeCells]; omega), List.getElem?_eq_none (by omega)]
theorem Own.made {α : Type} {t e size bytes : Nat} {z : Value} {enc : α → List Value} (ti : TI t e size bytes z) (W : World) (lo n : Nat) (a : α) (hz : z.cells.toList = enc a) (hl : lo ≤ W.heap.size) (hn : n ≤ 9223372036854775807) (he : ∀ a, (enc a).length = size) :
    Own e size enc (W.alloc (.cells (madeCells z.cells (n * size)) e)) lo (W.heap.size + 1) (.slice (some ⟨W.heap.size, 0, none⟩) n n) (List.replicate n a) := by
  obtain ⟨i, ht, hi0, hzz, hsize, hby, hzs, hsz⟩ := ti
  exact Own.lit W e lo _ _ n (by simp) (made_rep a hz hzs hsz n) hl (by unfold maxLen; omega) he

end Go.Proofs.YtanfaepjamkbjaaGreat
end
section
namespace Go.Proofs.YtanfaepjamkbjaaGreat
set_option linter.unusedSimpArgs false
set_option linter.unusedVariables false
open Go.RowKit

abbrev K3 (w : World) (g : Nat) (a b c : Value) : Prop := w.cell? ⟨g, 0, none⟩ = some a ∧ w.cell? ⟨g, 1, none⟩ = some b ∧ w.cell? ⟨g, 2, none⟩ = some c ∧ g < w.heap.size
theorem K3.of_block {W W' : World} {g : Nat} {a b c : Value} (h : K3 W g a b c) (he : W'.heap[g]? = W.heap[g]?) (hs : W.heap.size ≤ W'.heap.size) : K3 W' g a b c := by
  obtain ⟨h1, h2, h3, h7⟩ := h
  exact ⟨(World.cell?_of_block (w := W) he).trans h1, (World.cell?_of_block (w := W) he).trans h2, (World.cell?_of_block (w := W) he).trans h3, Nat.lt_of_lt_of_le h7 hs⟩
theorem K3.aft {W w1 : World} {g : Nat} {a b c : Value} (hb : Below W.heap.size W w1) (h : K3 W g a b c) : K3 w1 g a b c := K3.of_block h (hb.block g h.2.2.2) hb.size
theorem K3.new (W : World) (a b c : Value) (t : TypeId) : K3 (W.alloc (.cells #[a, b, c] t)) W.heap.size a b c := by simp [K3, go_sem]
abbrev Loc.k3 (g : Nat) (a b c : Value) : Loc := ⟨fun w => K3 w g a b c, fun k => k = g, fun h hd hp => K3.of_block hp (h.block g hp.2.2.2 (hd g rfl)) h.size⟩

def trB (n : Int) (t : Tr) : Bool := (t.label.toList.isEmpty || nameB t.label) && placesB n t.inn && placesB n t.out
def validL (n : Net) : List Tr → Bool
  | [] => placesB n.places [n.source] && placesB n.places [n.sink]
  | t :: ts => if trB n.places t then validL n ts else false
def validB (n : Net) : Bool := if n.places < 1 ∨ 40 < n.places ∨ 60 < n.trans.length then false else validL n n.trans
theorem drop_gti {α : Type} [Inhabited α] {l : List α} {k : Nat} (h : k < l.length) : l.drop k = gti l k :: l.drop (k + 1) := by
  rw [List.drop_eq_getElem_cons h]
  unfold gti
  rw [List.getElem?_eq_getElem h]
  rfl

theorem ret_bool {a b : Bool} (h : a = b) : Ending.returned (.bool a) = .returned (.bool b) := by rw [h]

set_option maxHeartbeats 2000000 in
theorem valid_any (n : Net) (vt : Value) (lo hi : Nat) (w : World) (hv : RdT w lo hi vt n.trans) :
    Calls Tryz.prog 18 #[netV n vt] w fun e w' => e = .returned (.bool (validB n)) ∧ Below w.heap.size w w' := by
  obtain ⟨A, c, rfl, hc, hm⟩ := hv.form
  have HV := Lib.hid hv
  clear hv
  refine calls_cps fun R hR => ?_
  have HR := Lib.hid hR
  clear hR
  go_enter Tryz.func18, Tryz.ntmps18
  have M : Mem [Loc.k4 w.heap.size (.int .i64 n.places) (.slice A n.trans.length c) (.int .i64 n.source) (.int .i64 n.sink), Loc.bl w.heap.size w] (w.alloc (.cells #[.int .i64 n.places, .slice A n.trans.length c, .int .i64 n.source, .int .i64 n.sink] 24)) := ⟨K4.new w _ _ _ _ _, ⟨(Below.refl _ _).alloc (Nat.le_refl _) _, by simp⟩, True.intro⟩
  have HM := Lib.hid M
  clear M
  go_wp2_with fail
  all_goals (try ((with_reducible refine HR.out _ _ ⟨?_, ?_⟩) <;> first | exact ret_bool (by grind [validB]) | exact HM.out.2.1.1))
  have HI : Hid (validB n = validL n n.trans) := Lib.hid (by grind [validB])
  generalize w.alloc (.cells #[.int .i64 n.places, .slice A n.trans.length c, .int .i64 n.source, .int .i64 n.sink] 24) = W at *
  go_loopw [22, 4] (fun v22 _ wr => ∃ k : Nat, k ≤ n.trans.length ∧ v22 = .int .i64 k ∧ Hid (validB n = validL n (n.trans.drop k)) ∧ Hid (Mem [Loc.k4 w.heap.size (.int .i64 n.places) (.slice A n.trans.length c) (.int .i64 n.source) (.int .i64 n.sink), Loc.bl w.heap.size w] wr)) (fun v22 _ _ => n.trans.length - (intOf v22).toNat)
  case atStart => exact ⟨0, by omega, rfl, HI, HM⟩
  case round =>
    clear HM HI
    obtain ⟨k, hk, rfl, HI, HM⟩ := hrel
    have hk4 := HM.out.1
    by_cases hlt : k < n.trans.length
    · obtain ⟨b, off, vi, vo, rfl, _, _, hcell, hri, hro⟩ := RdT.at3 (HV.out.after HM.out.2.1.1) hlt
      have HD := Lib.hid (drop_gti hlt)
      obtain ⟨Ai, ci, rfl, hci, hmi⟩ := hri.form
      obtain ⟨Ao, co, rfl, hco, hmo⟩ := hro.form
      generalize gti n.trans k = t at *
      obtain ⟨lab, tin, tout⟩ := t
      simp only at hri hro hcell hci hmi hco hmo
      have M : Mem [Loc.k4 w.heap.size (.int .i64 n.places) (.slice (some ⟨b, off, none⟩) n.trans.length c) (.int .i64 n.source) (.int .i64 n.sink), Loc.bl w.heap.size w, Loc.k3 wr.heap.size (.string lab) (.slice Ai tin.length ci) (.slice Ao tout.length co), Loc.rd 1 encI lo hi (.slice Ai tin.length ci) tin, Loc.rd 1 encI lo hi (.slice Ao tout.length co) tout] (wr.alloc (.cells #[.string lab, .slice Ai tin.length ci, .slice Ao tout.length co] 29)) := 
        ⟨K4.aft ((Below.refl _ _).alloc (Nat.le_refl _) _) hk4, ⟨(HM.out.2.1.1).alloc HM.out.2.1.2 _, by have := HM.out.2.1.2; simp; omega⟩, K3.new wr _ _ _ _, Rd.after hri ((Below.refl _ _).alloc (Nat.le_refl _) _), Rd.after hro ((Below.refl _ _).alloc (Nat.le_refl _) _), True.intro⟩
      clear hri hro
      replace M := Lib.hid M
      have hq4 := M.out.1
      have hq3 := M.out.2.2.1
      go_wp2_with (first
        | (go_at_call 52; refine (isName_any _ _).mono ?_; rintro e w1 ⟨rfl, hb1⟩; replace M := Lib.hid (M.out.below hb1); clear hb1; replace hq4 := M.out.1; replace hq3 := M.out.2.2.1)
        | (go_at_call 53; refine (places_any n _ _ lo hi _ _ (by first | exact M.out.2.2.2.1 | exact M.out.2.2.2.2.1)).mono ?_; rintro e w1 ⟨rfl, hb1⟩; replace M := Lib.hid (M.out.below hb1); clear hb1; replace hq4 := M.out.1; replace hq3 := M.out.2.2.1))
      all_goals (have HJ : validB n = if trB n.places ⟨lab, tin, tout⟩ then validL n (n.trans.drop (k + 1)) else false := by rw [HI.out, HD.out]; rfl)
      all_goals first
        | ((with_reducible refine HR.out _ _ ⟨?_, ?_⟩) <;> first | exact ret_bool (by go_light; grind [trB]) | exact M.out.2.1.1)
        | (refine ⟨⟨k + 1, by omega, by go_num, Lib.hid (by go_light; grind [trB]), Lib.hid ⟨M.out.1, M.out.2.1, True.intro⟩⟩, by simp [intOf]; omega⟩)
    · obtain rfl : k = n.trans.length := by omega
      have HE : Hid (validB n = (placesB n.places [n.source] && placesB n.places [n.sink])) := Lib.hid (by rw [HI.out]; simp [validL])
      clear HI
      have M := HM
      clear HM
      go_wp2_with (go_at_call 53; refine (places_any n _ _ 0 _ _ _ (RdI.lit1 _ _ _)).mono ?_; rintro e w1 ⟨rfl, hb1⟩; replace M := Lib.hid ((M.out.alloc _).below hb1); clear hb1; replace hk4 := M.out.1)
      all_goals ((with_reducible refine HR.out _ _ ⟨?_, ?_⟩) <;> first | exact ret_bool (by rw [HE.out]; go_light; grind) | exact M.out.2.1.1)
end Go.Proofs.YtanfaepjamkbjaaGreat
end
section
namespace Go.Proofs.YtanfaepjamkbjaaGreat
set_option linter.unusedSimpArgs false
set_option linter.unusedVariables false
open Go.RowKit

def valid2L (n : Net) : List Tr → Bool
  | [] => true
  | t :: ts => if trB n.places t then valid2L n ts else false
def valid2B (n : Net) : Bool := if n.places < 1 ∨ 40 < n.places ∨ 60 < n.trans.length ∨ n.source < 0 ∨ n.places ≤ n.source ∨ n.sink < 0 ∨ n.places ≤ n.sink then false else valid2L n n.trans
theorem placesB_one (n x : Int) : placesB n [x] = (decide (0 ≤ x) && decide (x < n)) := by
  simp [placesB, badP, gti, List.range_succ]
  grind
theorem validL_eq (n : Net) : ∀ l, validL n l = (valid2L n l && (placesB n.places [n.source] && placesB n.places [n.sink]))
  | [] => by simp [validL, valid2L]
  | t :: ts => by
    simp only [validL, valid2L]
    rw [validL_eq n ts]
    cases trB n.places t <;> simp
theorem valid2_eq (n : Net) : valid2B n = validB n := by
  unfold valid2B validB
  rw [validL_eq, placesB_one, placesB_one]
  grind

set_option maxHeartbeats 2000000 in
theorem rvalid_any (n : Net) (vt : Value) (lo hi : Nat) (w : World) (hv : RdT w lo hi vt n.trans) :
    Calls Tryz.prog 11 #[netV n vt] w fun e w' => e = .returned (.bool (validB n)) ∧ Below w.heap.size w w' := by
  rw [← valid2_eq]
  obtain ⟨A, c, rfl, hc, hm⟩ := hv.form
  have HV := Lib.hid hv
  clear hv
  refine calls_cps fun R hR => ?_
  have HR := Lib.hid hR
  clear hR
  go_enter Tryz.func11, Tryz.ntmps11
  have M : Hid (Mem [Loc.k4 w.heap.size (.int .i64 n.places) (.slice A n.trans.length c) (.int .i64 n.source) (.int .i64 n.sink), Loc.bl w.heap.size w] (w.alloc (.cells #[.int .i64 n.places, .slice A n.trans.length c, .int .i64 n.source, .int .i64 n.sink] 24))) := Lib.hid ⟨K4.new w _ _ _ _ _, ⟨(Below.refl _ _).alloc (Nat.le_refl _) _, by simp⟩, True.intro⟩
  have hk4 := M.out.1
  go_wp2_with fail
  all_goals (try ((with_reducible refine HR.out _ _ ⟨?_, ?_⟩) <;> first | exact ret_bool (by go_light; grind [valid2B]) | exact M.out.2.1.1))
  have HI : Hid (valid2B n = valid2L n n.trans) := Lib.hid (by go_light; grind [valid2B])
  generalize w.alloc (.cells #[.int .i64 n.places, .slice A n.trans.length c, .int .i64 n.source, .int .i64 n.sink] 24) = W at *
  go_loopw [3, 4] (fun v3 _ wr => ∃ k : Nat, k ≤ n.trans.length ∧ v3 = .int .i64 k ∧ Hid (valid2B n = valid2L n (n.trans.drop k)) ∧ Hid (Mem [Loc.k4 w.heap.size (.int .i64 n.places) (.slice A n.trans.length c) (.int .i64 n.source) (.int .i64 n.sink), Loc.bl w.heap.size w] wr)) (fun v3 _ _ => n.trans.length - (intOf v3).toNat)
  case atStart => exact ⟨0, by omega, rfl, HI, M⟩
  case round =>
    clear M HI
    obtain ⟨k, hk, rfl, HI, HM⟩ := hrel
    have hk4 := HM.out.1
    by_cases hlt : k < n.trans.length
    · obtain ⟨b, off, vi, vo, rfl, _, _, hcell, hri, hro⟩ := RdT.at3 (HV.out.after HM.out.2.1.1) hlt
      have HD := Lib.hid (drop_gti hlt)
      obtain ⟨Ai, ci, rfl, hci, hmi⟩ := hri.form
      obtain ⟨Ao, co, rfl, hco, hmo⟩ := hro.form
      generalize gti n.trans k = t at *
      obtain ⟨lab, tin, tout⟩ := t
      simp only at hri hro hcell hci hmi hco hmo
      have M : Mem [Loc.k4 w.heap.size (.int .i64 n.places) (.slice (some ⟨b, off, none⟩) n.trans.length c) (.int .i64 n.source) (.int .i64 n.sink), Loc.bl w.heap.size w, Loc.k3 wr.heap.size (.string lab) (.slice Ai tin.length ci) (.slice Ao tout.length co), Loc.rd 1 encI lo hi (.slice Ai tin.length ci) tin, Loc.rd 1 encI lo hi (.slice Ao tout.length co) tout] (wr.alloc (.cells #[.string lab, .slice Ai tin.length ci, .slice Ao tout.length co] 29)) := 
        ⟨K4.aft ((Below.refl _ _).alloc (Nat.le_refl _) _) hk4, ⟨(HM.out.2.1.1).alloc HM.out.2.1.2 _, by have := HM.out.2.1.2; simp; omega⟩, K3.new wr _ _ _ _, Rd.after hri ((Below.refl _ _).alloc (Nat.le_refl _) _), Rd.after hro ((Below.refl _ _).alloc (Nat.le_refl _) _), True.intro⟩
      clear hri hro
      replace M := Lib.hid M
      have hq4 := M.out.1
      have hq3 := M.out.2.2.1
      go_wp2_with (first
        | (go_at_call 39; refine (isName2_any _ _).mono ?_; rintro e w1 ⟨rfl, hb1⟩; replace M := Lib.hid (M.out.below hb1); clear hb1; replace hq4 := M.out.1; replace hq3 := M.out.2.2.1)
        | (go_at_call 40; refine (places2_any _ _ lo hi _ _ (by first | exact M.out.2.2.2.1 | exact M.out.2.2.2.2.1)).mono ?_; rintro e w1 ⟨rfl, hb1⟩; replace M := Lib.hid (M.out.below hb1); clear hb1; replace hq4 := M.out.1; replace hq3 := M.out.2.2.1))
      all_goals (have HJ : valid2B n = if trB n.places ⟨lab, tin, tout⟩ then valid2L n (n.trans.drop (k + 1)) else false := by rw [HI.out, HD.out]; rfl)
      all_goals first
        | ((with_reducible refine HR.out _ _ ⟨?_, ?_⟩) <;> first | exact ret_bool (by go_light; grind [trB]) | exact M.out.2.1.1)
        | (refine ⟨⟨k + 1, by omega, by go_num, Lib.hid (by go_light; grind [trB]), Lib.hid ⟨M.out.1, M.out.2.1, True.intro⟩⟩, by simp [intOf]; omega⟩)
    · obtain rfl : k = n.trans.length := by omega
      have HE : Hid (valid2B n = true) := Lib.hid (by rw [HI.out]; simp [valid2L])
      clear HI
      go_wp2_with fail
      all_goals ((with_reducible refine HR.out _ _ ⟨?_, ?_⟩) <;> first | exact ret_bool (by rw [HE.out]) | exact HM.out.2.1.1)

def all01 : List Int → Bool
  | [] => true
  | k :: l => if k < 0 ∨ 100 < k then false else all01 l
def mark2B (n : Net) (m : List Int) : Bool := if (m.length : Int) ≠ n.places then false else all01 m
set_option maxHeartbeats 2000000 in
theorem rmarking_any (n : Net) (vt : Value) (m : List Int) (v : Value) (lo hi : Nat) (w : World) (hv : RdI w lo hi v m) :
    Calls Tryz.prog 61 #[netV n vt, v] w fun e w' => e = .returned (.bool (mark2B n m)) ∧ Below w.heap.size w w' := by
  obtain ⟨A, c, rfl, hc, hm⟩ := hv.form
  have HV := Lib.hid hv
  clear hv
  refine calls_cps fun R hR => ?_
  have HR := Lib.hid hR
  clear hR
  go_enter Tryz.func61, Tryz.ntmps61
  have M : Hid (Mem [Loc.k4 w.heap.size (.int .i64 n.places) (vt) (.int .i64 n.source) (.int .i64 n.sink), Loc.bl w.heap.size w] (w.alloc (.cells #[.int .i64 n.places, vt, .int .i64 n.source, .int .i64 n.sink] 24))) := Lib.hid ⟨K4.new w _ _ _ _ _, ⟨(Below.refl _ _).alloc (Nat.le_refl _) _, by simp⟩, True.intro⟩
  have hk4 := M.out.1
  go_wp2_with fail
  all_goals (try ((with_reducible refine HR.out _ _ ⟨?_, ?_⟩) <;> first | exact ret_bool (by go_light; grind [mark2B]) | exact M.out.2.1.1))
  have HI : Hid (mark2B n m = all01 m) := Lib.hid (by go_light; grind [mark2B])
  generalize w.alloc (.cells #[.int .i64 n.places, vt, .int .i64 n.source, .int .i64 n.sink] 24) = W at *
  go_loop [5] (fun v3 => ∃ k : Nat, k ≤ m.length ∧ v3 = .int .i64 k ∧ Hid (mark2B n m = all01 (m.drop k))) (fun v3 => m.length - (intOf v3).toNat)
  case atStart => exact ⟨0, by omega, rfl, HI⟩
  case round =>
    clear HI
    obtain ⟨k, hk, rfl, HI⟩ := hrel
    by_cases hlt : k < m.length
    · obtain ⟨b, off, rfl, _, _, hcell⟩ := RdI.at1 (HV.out.after M.out.2.1.1) hlt
      have HD := Lib.hid (drop_gti hlt)
      generalize gti m k = x at *
      go_wp2_with fail
      all_goals (have HJ : mark2B n m = if x < 0 ∨ 100 < x then false else all01 (m.drop (k + 1)) := by rw [HI.out, HD.out]; rfl)
      all_goals first
        | ((with_reducible refine HR.out _ _ ⟨?_, ?_⟩) <;> first | exact ret_bool (by go_light; grind) | exact M.out.2.1.1)
        | (refine ⟨⟨k + 1, by omega, by go_num, Lib.hid (by go_light; grind)⟩, by simp [intOf]; omega⟩)
    · obtain rfl : k = m.length := by omega
      have HE : Hid (mark2B n m = true) := Lib.hid (by rw [HI.out]; simp [all01])
      clear HI
      go_wp2_with fail
      all_goals ((with_reducible refine HR.out _ _ ⟨?_, ?_⟩) <;> first | exact ret_bool (by rw [HE.out]) | exact M.out.2.1.1)
end Go.Proofs.YtanfaepjamkbjaaGreat
end
section
namespace Go.Proofs.YtanfaepjamkbjaaGreat
set_option linter.unusedSimpArgs false
set_option linter.unusedVariables false
open Go.RowKit

theorem oneI : ∀ a : Int, ∀ u ∈ encI a, u.oneCell' = true := by intro a u hu; simp at hu; subst hu; rfl
/-- a list and an error number, returned: the list lies in new memory -/
def RetI (w : World) (r : List Int × Int) (e : Ending) (w' : World) : Prop :=
  ∃ A c, e = .returned (.tuple #[.slice A r.1.length c, .int .i64 r.2]) ∧ RdI w' w.heap.size w'.heap.size (.slice A r.1.length c) r.1 ∧ Below w.heap.size w w'
theorem RetI.nil {w w' : World} {r : List Int × Int} {c : Int} (h : r = ([], c)) (hb : Below w.heap.size w w') : RetI w r (.returned (.tuple #[.slice none 0 0, .int .i64 c])) w' := by
  subst h
  exact ⟨none, 0, rfl, Rd.nil _ _ _, hb⟩
theorem RetI.mk {w w' : World} {r : List Int × Int} {l : List Int} {n k : Nat} {A : Option Addr} {c : Int} (h : r = (l, c)) (hn : n = l.length) {lo hi : Nat} (hr : RdI w' lo hi (.slice A n k) l) (hlo : w.heap.size ≤ lo) (hhi : hi ≤ w'.heap.size) (hb : Below w.heap.size w w') : RetI w r (.returned (.tuple #[.slice A n k, .int .i64 c])) w' := by
  subst h hn
  exact ⟨A, k, rfl, hr.mono hlo hhi, hb⟩

def oneL (k : Nat) (p : Int) : List Int := (List.replicate k 0).set p.toNat 1
def oneE (n : Net) (p : Int) : List Int × Int := if validB n then (oneL n.places.toNat p, 0) else ([], 1)
theorem validB_ends {n : Net} (h : validB n = true) : (0 ≤ n.source ∧ n.source < n.places) ∧ (0 ≤ n.sink ∧ n.sink < n.places) := by
  rw [← valid2_eq] at h
  unfold valid2B at h
  split at h
  · cases h
  · omega
theorem validB_places {n : Net} (h : validB n = true) : 1 ≤ n.places ∧ n.places ≤ 40 ∧ n.trans.length ≤ 60 := by
  unfold validB at h
  split at h
  · cases h
  · omega

theorem valid_is {n : Net} {b : Bool} (hb : validB n = b) (vt : Value) (lo hi : Nat) (w : World) (hv : RdT w lo hi vt n.trans) :
    Calls Tryz.prog 18 #[netV n vt] w fun e w' => e = .returned (.bool b) ∧ Below w.heap.size w w' := hb ▸ valid_any n vt lo hi w hv
theorem rvalid_is {n : Net} {b : Bool} (hb : validB n = b) (vt : Value) (lo hi : Nat) (w : World) (hv : RdT w lo hi vt n.trans) :
    Calls Tryz.prog 11 #[netV n vt] w fun e w' => e = .returned (.bool b) ∧ Below w.heap.size w w' := hb ▸ rvalid_any n vt lo hi w hv
theorem mk_int {x : Int} {k : Nat} (h : x = k) (hk : k ≤ 1000000) : ∀ w : World, (Instr.makeSlice 25 (.int .i64 x) (.int .i64 x)).run Tryz.prog w = .ok (.slice (some ⟨w.heap.size, 0, none⟩) k k) (w.alloc (.cells (madeCells #[.int .i64 0] k) 3)) := by
  intro w
  subst h
  have := run_mk ti_int w k (by omega) (by omega)
  rw [Nat.mul_one] at this
  exact this
theorem OwnI.made (W : World) (n : Nat) (hn : n ≤ 1000000) : OwnI (W.alloc (.cells (madeCells #[.int .i64 0] n) 3)) W.heap.size (W.heap.size + 1) (.slice (some ⟨W.heap.size, 0, none⟩) n n) (List.replicate n 0) := by
  have := Own.made (enc := encI) ti_int W W.heap.size n 0 rfl (Nat.le_refl _) (by omega) (fun _ => rfl)
  rw [Nat.mul_one] at this
  exact this

theorem set_new (W : World) (cs : Array Value) (t : TypeId) (k : Nat) (u : Value) : (W.alloc (.cells cs t)).setCell ⟨W.heap.size, k, none⟩ u = W.alloc (.cells (cs.setIfInBounds k u) t) := by
  simp [go_sem]
set_option maxHeartbeats 1000000 in
theorem one_any (n : Net) (p : Int) (vt : Value) (lo hi : Nat) (w : World) (hv : RdT w lo hi vt n.trans) (hp : validB n = true → 0 ≤ p ∧ p < n.places) :
    Calls Tryz.prog 55 #[netV n vt, .int .i64 p] w (RetI w (oneE n p)) := by
  obtain ⟨A, c, rfl, hc, hm⟩ := hv.form
  have HV := Lib.hid hv
  clear hv
  cases hvb : validB n
  · have HVB := Lib.hid hvb
    clear hvb hp
    refine calls_cps fun R hR => ?_
    have HR := Lib.hid hR
    clear hR
    go_enter Tryz.func55, Tryz.ntmps55
    have M : Hid (Mem [Loc.k4 w.heap.size (.int .i64 n.places) (.slice A n.trans.length c) (.int .i64 n.source) (.int .i64 n.sink), Loc.bl w.heap.size w] (w.alloc (.cells #[.int .i64 n.places, .slice A n.trans.length c, .int .i64 n.source, .int .i64 n.sink] 24))) := Lib.hid ⟨K4.new w _ _ _ _ _, ⟨(Below.refl _ _).alloc (Nat.le_refl _) _, by simp⟩, True.intro⟩
    have hk4 := M.out.1
    go_wp2_with (go_at_call 18; refine (valid_is HVB.out _ lo hi _ (HV.out.after M.out.2.1.1)).mono ?_; rintro e w1 ⟨rfl, hb1⟩; replace M := Lib.hid (M.out.below hb1); clear hb1; replace hk4 := M.out.1)
    exact HR.out _ _ (RetI.nil (by rw [oneE, HVB.out]; rfl) M.out.2.1.1)
  · have HVB := Lib.hid hvb
    have hpl := validB_places hvb
    have hpp := hp hvb
    clear hvb hp
    obtain ⟨np, hnp⟩ : ∃ k : Nat, n.places = k := ⟨n.places.toNat, by omega⟩
    obtain ⟨kp, rfl⟩ : ∃ k : Nat, p = k := ⟨p.toNat, by omega⟩
    have hlt : kp < np := by omega
    have hmk := mk_int hnp (by omega)
    have HNP := Lib.hid hnp
    have hn40 : np ≤ 40 := by omega
    clear hnp hpl hpp
    refine calls_cps fun R hR => ?_
    have HR := Lib.hid hR
    clear hR
    go_enter Tryz.func55, Tryz.ntmps55
    have M : Hid (Mem [Loc.k4 w.heap.size (.int .i64 n.places) (.slice A n.trans.length c) (.int .i64 n.source) (.int .i64 n.sink), Loc.bl w.heap.size w] (w.alloc (.cells #[.int .i64 n.places, .slice A n.trans.length c, .int .i64 n.source, .int .i64 n.sink] 24))) := Lib.hid ⟨K4.new w _ _ _ _ _, ⟨(Below.refl _ _).alloc (Nat.le_refl _) _, by simp⟩, True.intro⟩
    have hk4 := M.out.1
    go_wp2_with (first
      | (go_at_call 18; refine (valid_is HVB.out _ lo hi _ (HV.out.after M.out.2.1.1)).mono ?_; rintro e w1 ⟨rfl, hb1⟩; replace M := Lib.hid (M.out.below hb1); clear hb1; replace hk4 := M.out.1; have HO := Lib.hid (OwnI.made w1 np (by omega)); have hat := OwnI.at1 HO.out (k := kp) (by simp; omega)))
    refine HR.out _ _ (RetI.mk (l := oneL np kp) (by simp [oneE, HVB.out, HNP.out]) (by simp [oneL]) (Own.rd (set_new w1 _ _ kp _ ▸ OwnI.set HO.out kp 1)) M.out.2.1.2 (by simp) ?_)
    exact (M.out.2.1.1).alloc M.out.2.1.2 _

set_option maxHeartbeats 400000 in
theorem initial_any (n : Net) (vt : Value) (lo hi : Nat) (w : World) (hv : RdT w lo hi vt n.trans) :
    Calls Tryz.prog 21 #[netV n vt] w (RetI w (oneE n n.source)) := by
  have HV := Lib.hid hv
  have HP := Lib.hid (@validB_ends n)
  obtain ⟨A, c, rfl, hc, hm⟩ := hv.form
  clear hv
  refine calls_cps fun R hR => ?_
  have HR := Lib.hid hR
  clear hR
  go_enter Tryz.func21, Tryz.ntmps21
  have M : Hid (Mem [Loc.k4 w.heap.size (.int .i64 n.places) (.slice A n.trans.length c) (.int .i64 n.source) (.int .i64 n.sink), Loc.bl w.heap.size w] (w.alloc (.cells #[.int .i64 n.places, .slice A n.trans.length c, .int .i64 n.source, .int .i64 n.sink] 24))) := Lib.hid ⟨K4.new w _ _ _ _ _, ⟨(Below.refl _ _).alloc (Nat.le_refl _) _, by simp⟩, True.intro⟩
  have hk4 := M.out.1
  go_wp2_with (go_at_call 55; refine (one_any n _ _ lo hi _ (HV.out.after M.out.2.1.1) (fun h => (HP.out h).1)).mono ?_; rintro e w1 ⟨A1, c1, rfl, hr1, hb1⟩; have HR1 := Lib.hid hr1; replace M := Lib.hid (M.out.below hb1); clear hb1 hr1)
  exact HR.out _ _ ⟨_, _, rfl, (HR1.out.mono (by simp) (Nat.le_refl _)), M.out.2.1.1⟩

def markB (n : Net) (m : List Int) : Bool := validB n && mark2B n m
theorem all01_any : ∀ m : List Int, all01 m = !m.any fun k => decide (k < 0) || decide (100 < k)
  | [] => rfl
  | k :: l => by
    simp only [all01, List.any_cons]
    rw [all01_any l]
    grind
theorem ent_marking1 : Ent 79 := ent_of Tryz.func79 (by kernel_rfl) rfl
set_option maxHeartbeats 400000 in
theorem marking1_any (k : Int) (w : World) : Calls Tryz.prog 79 #[.int .i64 k] w fun e w' => e = .returned (.bool (decide (k < 0) || decide (100 < k))) ∧ Below w.heap.size w w' := by
  refine calls_cps fun R hR => ?_
  have HR := Lib.hid hR
  clear hR
  go_enter Tryz.func79, Tryz.ntmps79
  go_wp2_with fail
  all_goals (refine HR.out _ _ ⟨ret_bool ?_, Below.refl _ _⟩ <;> (go_light; grind))

set_option maxHeartbeats 1000000 in
theorem marking_any (n : Net) (m : List Int) (vt v : Value) (lo hi lo' hi' : Nat) (w : World) (hv : RdT w lo hi vt n.trans) (hm : RdI w lo' hi' v m) :
    Calls Tryz.prog 56 #[netV n vt, v] w fun e w' => e = .returned (.bool (markB n m)) ∧ Below w.heap.size w w' := by
  have HC := Lib.hid (fun (W : World) (hW : Below w.heap.size w W) => containsFI_any 79 ent_marking1 #[] (fun k => decide (k < 0) || decide (100 < k)) m lo' hi' v W (hm.after hW) (fun a _ W _ => marking1_any a W))
  obtain ⟨A, c, rfl, hc, hmm⟩ := hv.form
  obtain ⟨A2, c2, rfl, hc2, hmm2⟩ := hm.form
  have HV := Lib.hid hv
  clear hv hm
  refine calls_cps fun R hR => ?_
  have HR := Lib.hid hR
  clear hR
  go_enter Tryz.func56, Tryz.ntmps56
  have M : Hid (Mem [Loc.k4 w.heap.size (.int .i64 n.places) (.slice A n.trans.length c) (.int .i64 n.source) (.int .i64 n.sink), Loc.bl w.heap.size w] (w.alloc (.cells #[.int .i64 n.places, .slice A n.trans.length c, .int .i64 n.source, .int .i64 n.sink] 24))) := Lib.hid ⟨K4.new w _ _ _ _ _, ⟨(Below.refl _ _).alloc (Nat.le_refl _) _, by simp⟩, True.intro⟩
  have hk4 := M.out.1
  go_wp2_with (first
    | (go_at_call 18; refine (valid_any n _ lo hi _ (HV.out.after M.out.2.1.1)).mono ?_; rintro e w1 ⟨rfl, hb1⟩; replace M := Lib.hid (M.out.below hb1); clear hb1; replace hk4 := M.out.1)
    | (go_at_call 19; refine (HC.out _ M.out.2.1.1).mono ?_; rintro e w1 ⟨rfl, hb1⟩; replace M := Lib.hid (M.out.below hb1); clear hb1; replace hk4 := M.out.1))
  all_goals ((with_reducible refine HR.out _ _ ⟨?_, ?_⟩) <;> first | exact ret_bool (by go_light; simp only [markB, mark2B, all01_any]; grind) | exact M.out.2.1.1)
end Go.Proofs.YtanfaepjamkbjaaGreat
end
