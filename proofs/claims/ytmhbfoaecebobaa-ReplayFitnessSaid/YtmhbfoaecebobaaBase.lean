/-
  Small words that all walks of this seat share. Conditions: none.
-/
import Derived.Test.YtmhbfoaecebobaaProg
import Derived.WalkKit
import Derived.WalkSpells
import Derived.WalkLawsBesides
import Derived.Deep.QuietTactic
import Derived.BigQuiet
import Derived.Lib.Hide
import Derived.Deep.RegionHeld3
import Derived.Deep.LoopGhost
import Derived.Deep.DeepCutAuto
namespace Go.Proofs.Ytmhbfoaecebobaa
set_option linter.unusedSimpArgs false
set_option linter.unusedVariables false
open Go.RowKit

theorem ret_int {k : IntKind} {a b : Int} (h : a = b) : Ending.returned (.int k a) = .returned (.int k b) := by rw [h]

/-- the post out of the walk's reach -/
theorem calls_cps {P : Program} {f : FuncId} {args : Array Value} {w : World} {Post : Ending → World → Prop}
    (h : ∀ R : Ending → World → Prop, (∀ e w', Post e w' → R e w') → Calls P f args w R) : Calls P f args w Post := h Post fun _ _ h => h

/-- f has a body: a call of it enters it -/
def Ent (f : FuncId) : Prop := ∀ args w, (callFunc f args).run Try.prog w = .ok (.enter f args) w
theorem ent_of {f : FuncId} {fn : Func} {c : Code} (hf : Try.prog.funcs[f]? = some fn) (hname : (fn.name == "runtime.NumGoroutine") = false) (hb : fn.body = some c) : Ent f := fun args w => by
  have h1 : fn.name ≠ "runtime.NumGoroutine" := by simpa using hname
  simp [callFunc, hf, h1, hb]

/-- what was there is as it was -/
def Ext (w w' : World) : Prop := Below w.heap.size w w'
theorem Ext.refl (w : World) : Ext w w := Below.refl _ _
theorem Ext.trans {a b c : World} (h : Ext a b) (k : Ext b c) : Ext a c := Below.trans h (Below.mono k (Below.size h))

/-- a block of two cells of the call's own -/
def B2 (w : World) (g : Nat) (x y : Value) : Prop :=
  w.cell? ⟨g, 0, none⟩ = some x ∧ w.cell? ⟨g, 1, none⟩ = some y ∧ w.frozen? ⟨g, 0, none⟩ = false ∧ w.frozen? ⟨g, 1, none⟩ = false ∧ g < w.heap.size
theorem B2.after {B : Nat} {W w1 : World} {g : Nat} {x y : Value} (hb : Below B W w1) (h : B2 W g x y) (hg : g < B) : B2 w1 g x y :=
  ⟨(hb.cell hg).trans h.1, (hb.cell hg).trans h.2.1, (hb.frozen hg).trans h.2.2.1, (hb.frozen hg).trans h.2.2.2.1, Nat.lt_of_lt_of_le h.2.2.2.2 hb.size⟩
theorem B2.drewN {W : World} {g : Nat} {x y : Value} (h : B2 W g x y) (n : Nat) : B2 (W.drewN n) g x y := h
theorem B2.drew {W : World} {g : Nat} {x y : Value} (h : B2 W g x y) : B2 W.drew g x y := h
theorem B2.set {W : World} {g : Nat} {x y : Value} (h : B2 W g x y) (u v : Value) : B2 ((W.setCell ⟨g, 0, none⟩ u).setCell ⟨g, 1, none⟩ v) g u v := by
  obtain ⟨h1, h2, h3, h4, h5⟩ := h
  exact ⟨by simp [go_sem, h1], by simp [go_sem, h2], by simp [go_sem, h3], by simp [go_sem, h4], by simpa using h5⟩
theorem cell_set2 {W : World} {g g' o : Nat} {v x y : Value} (h : W.cell? ⟨g, o, none⟩ = some v) (hne : g ≠ g') : ((W.setCell ⟨g', 0, none⟩ x).setCell ⟨g', 1, none⟩ y).cell? ⟨g, o, none⟩ = some v := by
  rw [World.cell?_setCell_other _ _ _ _ (fun e => hne (congrArg Addr.block e).symm), World.cell?_setCell_other _ _ _ _ (fun e => hne (congrArg Addr.block e).symm)]
  exact h
theorem cell_set1 {W : World} {g g' o o' : Nat} {v x : Value} (h : W.cell? ⟨g, o, none⟩ = some v) (hne : g ≠ g') : (W.setCell ⟨g', o', none⟩ x).cell? ⟨g, o, none⟩ = some v := by
  rw [World.cell?_setCell_other _ _ _ _ (fun e => hne (congrArg Addr.block e).symm)]
  exact h
/-- a block of one cell of the call's own -/
def B1 (w : World) (g : Nat) (x : Value) : Prop :=
  w.cell? ⟨g, 0, none⟩ = some x ∧ w.frozen? ⟨g, 0, none⟩ = false ∧ g < w.heap.size
theorem B1.after {B : Nat} {W w1 : World} {g : Nat} {x : Value} (hb : Below B W w1) (h : B1 W g x) (hg : g < B) : B1 w1 g x :=
  ⟨(hb.cell hg).trans h.1, (hb.frozen hg).trans h.2.1, Nat.lt_of_lt_of_le h.2.2 hb.size⟩

theorem B1.drewN {W : World} {g : Nat} {x : Value} (h : B1 W g x) (n : Nat) : B1 (W.drewN n) g x := h
theorem B1.lt {w : World} {g : Nat} {x : Value} (h : B1 w g x) : g < w.heap.size := h.2.2
theorem B2.lt {w : World} {g : Nat} {x y : Value} (h : B2 w g x y) : g < w.heap.size := h.2.2.2.2

/-- below block N the world W is as w was, but for block c -/
structure Off (c N : Nat) (w W : World) : Prop where
  os : W.os = w.os
  tape : W.tape = w.tape
  output : W.output = w.output
  size : w.heap.size ≤ W.heap.size
  block : ∀ k, k < N → k ≠ c → W.heap[k]? = w.heap[k]?
theorem Off.refl (c N : Nat) (w : World) : Off c N w w := ⟨rfl, rfl, rfl, Nat.le_refl _, fun _ _ _ => rfl⟩
theorem Off.trans {c N : Nat} {a b d : World} (h : Off c N a b) (k : Off c N b d) : Off c N a d :=
  ⟨k.os.trans h.os, k.tape.trans h.tape, k.output.trans h.output, Nat.le_trans h.size k.size, fun i hi hc => (k.block i hi hc).trans (h.block i hi hc)⟩
theorem Off.mono {c N N' : Nat} {w W : World} (h : Off c N w W) (hN : N' ≤ N) : Off c N' w W := ⟨h.os, h.tape, h.output, h.size, fun k hk hc => h.block k (Nat.lt_of_lt_of_le hk hN) hc⟩
theorem Off.of_below {c N : Nat} {w W : World} (h : Below N w W) : Off c N w W := ⟨h.os, h.tape, h.output, h.size, fun k hk _ => h.block k hk⟩
theorem Off.to_below {c N : Nat} {w W : World} (h : Off c N w W) (hc : N ≤ c) : Below N w W := ⟨h.os, h.tape, h.output, h.size, fun k hk => h.block k hk (by omega)⟩
theorem Off.step {c N N' : Nat} {w W W' : World} (h : Off c N w W) (k : Off c N' W W') (hN : N ≤ N') : Off c N w W' := h.trans (k.mono hN)
theorem Off.stepB {c N N' : Nat} {w W W' : World} (h : Off c N w W) (k : Below N' W W') (hN : N ≤ N') : Off c N w W' := h.trans (Off.of_below (k.mono hN))
theorem Off.drew {c N : Nat} {w W : World} (h : Off c N w W) : Off c N w W.drew := ⟨h.os, h.tape, h.output, h.size, h.block⟩
theorem Off.drewN {c N : Nat} {w W : World} (h : Off c N w W) (n : Nat) : Off c N w (W.drewN n) := ⟨h.os, h.tape, h.output, h.size, h.block⟩
theorem Off.alloc {c N : Nat} {w W : World} (h : Off c N w W) (hN : N ≤ W.heap.size) (o : Obj) : Off c N w (W.alloc o) := h.stepB ((Below.refl N W).alloc hN o) (Nat.le_refl _)
theorem Off.setCell {c N : Nat} {w W : World} (h : Off c N w W) {p : Addr} (hp : N ≤ p.block ∨ p.block = c) (u : Value) : Off c N w (W.setCell p u) :=
  h.trans ⟨rfl, rfl, rfl, by simp [World.setCell], fun k hk hc => Below.heap_setCell _ _ _ _ (by omega)⟩
theorem Off.cell {c N : Nat} {w W : World} (h : Off c N w W) {p : Addr} (hp : p.block < N) (hc : p.block ≠ c) : W.cell? p = w.cell? p := World.cell?_of_block (w := w) (h.block p.block hp hc)
theorem Off.frozen {c N : Nat} {w W : World} (h : Off c N w W) {p : Addr} (hp : p.block < N) (hc : p.block ≠ c) : W.frozen? p = w.frozen? p := World.frozen?_of_block (w := w) (h.block p.block hp hc)
theorem Off.grownBy {c : Nat} {w W : World} (h : Off c w.heap.size w W) : w.grownBy W (some c) := ⟨h.os, h.tape, h.output, h.size, fun k hk hne => h.block k hk (fun e => hne (by rw [e]))⟩
theorem B2.off {c N : Nat} {W w1 : World} {g : Nat} {x y : Value} (hb : Off c N W w1) (h : B2 W g x y) (hg : g < N) (hc : g ≠ c) : B2 w1 g x y :=
  ⟨(hb.cell hg hc).trans h.1, (hb.cell hg hc).trans h.2.1, (hb.frozen hg hc).trans h.2.2.1, (hb.frozen hg hc).trans h.2.2.2.1, Nat.lt_of_lt_of_le h.2.2.2.2 hb.size⟩
theorem B1.off {c N : Nat} {W w1 : World} {g : Nat} {x : Value} (hb : Off c N W w1) (h : B1 W g x) (hg : g < N) (hc : g ≠ c) : B1 w1 g x :=
  ⟨(hb.cell hg hc).trans h.1, (hb.frozen hg hc).trans h.2.1, Nat.lt_of_lt_of_le h.2.2 hb.size⟩
theorem B1.set {W : World} {g : Nat} {x : Value} (h : B1 W g x) (u : Value) : B1 (W.setCell ⟨g, 0, none⟩ u) g u := by
  obtain ⟨h1, h2, h3⟩ := h
  exact ⟨by simp [go_sem, h1], by simp [go_sem, h2], by simpa using h3⟩
theorem B1.set2 {W : World} {g g' : Nat} {x u v : Value} (h : B1 W g x) (hne : g ≠ g') : B1 ((W.setCell ⟨g', 0, none⟩ u).setCell ⟨g', 1, none⟩ v) g x := by
  obtain ⟨h1, h2, h3⟩ := h
  refine ⟨cell_set2 h1 hne, ?_, by simpa using h3⟩
  simp [go_sem, h2]
theorem B1.alloc {W : World} {g : Nat} {x : Value} (h : B1 W g x) (o : Obj) : B1 (W.alloc o) g x :=
  B1.after ((Below.refl W.heap.size W).alloc (Nat.le_refl _) o) h h.lt

theorem Below.step {B B' : Nat} {w W w1 : World} (h : Below B w W) (hb : Below B' W w1) (hB : B ≤ B') : Below B w w1 := h.trans (hb.mono hB)

end Go.Proofs.Ytmhbfoaecebobaa
