/-
  A bundle of facts about memory, each of which looks at known blocks alone, and what a change of other blocks leaves of it. Conditions: none.
-/
import Derived.Test.YthlgkomhnhkooaaQueue5
namespace Go.Proofs.Ythlgkomhnhkooaa
set_option linter.unusedSimpArgs false
set_option linter.unusedVariables false
open Go.RowKit

/-- from w to W the blocks D alone have changed, of those that were there -/
structure Chg (D : Nat → Prop) (w W : World) : Prop where
  os : W.os = w.os
  tape : W.tape = w.tape
  output : W.output = w.output
  size : w.heap.size ≤ W.heap.size
  block : ∀ k, k < w.heap.size → ¬ D k → W.heap[k]? = w.heap[k]?
theorem Chg.below {w W : World} (h : Below w.heap.size w W) : Chg (fun _ => False) w W := ⟨h.os, h.tape, h.output, h.size, fun k hk _ => h.block k hk⟩
theorem Chg.belowN {N : Nat} {w W : World} (h : Below N w W) : Chg (fun k => N ≤ k) w W := ⟨h.os, h.tape, h.output, h.size, fun k _ hk => h.block k (by omega)⟩
theorem Chg.off {c : Nat} {w W : World} (h : Off c w.heap.size w W) : Chg (fun k => k = c) w W := ⟨h.os, h.tape, h.output, h.size, fun k hk hc => h.block k hk hc⟩
theorem Chg.grown {row : Option Nat} {w W : World} (h : w.grownBy W row) : Chg (fun k => row = some k) w W := ⟨h.os, h.tape, h.output, h.size, fun k hk hc => h.block k hk (fun e => hc e.symm)⟩
theorem Chg.drew (w : World) : Chg (fun _ => False) w w.drew := ⟨rfl, rfl, rfl, Nat.le_refl _, fun _ _ _ => rfl⟩
theorem Chg.drewN (w : World) (n : Nat) : Chg (fun _ => False) w (w.drewN n) := Chg.below (below_drewN (Below.refl _ w) n)
theorem Chg.alloc (w : World) (o : Obj) : Chg (fun _ => False) w (w.alloc o) := Chg.below ((Below.refl _ w).alloc (Nat.le_refl _) o)
theorem Chg.set (w : World) (g i : Nat) (u : Value) : Chg (fun k => k = g) w (w.setCell ⟨g, i, none⟩ u) :=
  ⟨rfl, rfl, rfl, by simp [World.setCell], fun k hk hc => Below.heap_setCell _ _ _ _ hc⟩
theorem Chg.set2 (w : World) (g i j : Nat) (u v : Value) : Chg (fun k => k = g) w ((w.setCell ⟨g, i, none⟩ u).setCell ⟨g, j, none⟩ v) :=
  ⟨rfl, rfl, rfl, by simp [World.setCell], fun k hk hc => (Below.heap_setCell _ _ _ _ hc).trans (Below.heap_setCell _ _ _ _ hc)⟩

/-- a fact that looks at the blocks F alone -/
structure Loc where
  P : World → Prop
  F : Nat → Prop
  keep : ∀ {D : Nat → Prop} {w W : World}, Chg D w W → (∀ k, F k → ¬ D k) → P w → P W

abbrev Loc.k1 (g : Nat) (x : Value) : Loc := ⟨fun w => K1 w g x, fun k => k = g, fun h hd hp => B1.of_block hp (h.block g hp.2.2 (hd g rfl)) h.size⟩
abbrev Loc.k2 (g : Nat) (x y : Value) : Loc := ⟨fun w => K2 w g x y, fun k => k = g, fun h hd hp => B2.of_block hp (h.block g hp.2.2.2.2 (hd g rfl)) h.size⟩
abbrev Loc.k6 (g : Nat) (a b c d e f : Value) : Loc := ⟨fun w => K6 w g a b c d e f, fun k => k = g, fun h hd hp => K6.of_block hp (h.block g hp.2.2.2.2.2.2 (hd g rfl)) h.size⟩
/-- a cell; two cells side by side -/
abbrev C1 (w : World) (b o : Nat) (x : Value) : Prop := w.cell? ⟨b, o, none⟩ = some x
abbrev C2 (w : World) (b o : Nat) (x y : Value) : Prop := w.cell? ⟨b, o, none⟩ = some x ∧ w.cell? ⟨b, o + 1, none⟩ = some y
abbrev Loc.c1 (b o : Nat) (x : Value) : Loc := ⟨fun w => C1 w b o x, fun k => k = b, fun h hd hp => (World.cell?_of_block (h.block b (World.block_lt_of_cell? _ _ hp) (hd b rfl))).trans hp⟩
abbrev Loc.c2 (b o : Nat) (x y : Value) : Loc := ⟨fun w => C2 w b o x y, fun k => k = b, fun h hd hp => ⟨(World.cell?_of_block (h.block b (World.block_lt_of_cell? _ _ hp.1) (hd b rfl))).trans hp.1, (World.cell?_of_block (h.block b (World.block_lt_of_cell? _ _ hp.1) (hd b rfl))).trans hp.2⟩⟩
abbrev Loc.rdF (lo hi : Nat) (v : Value) (l : List Fr) : Loc := ⟨fun w => RdF w lo hi v l, fun k => lo ≤ k ∧ k < hi, fun h hd hp => RdG.of_blocks hp (fun b h1 h2 h3 _ => h.block b h3 (hd b ⟨h1, h2⟩))⟩
abbrev Loc.rdFF (lo hi : Nat) (v : Value) (ll : List (List Fr)) : Loc :=
  ⟨fun w => RdFF w lo hi v ll, fun k => lo ≤ k ∧ k < hi, fun h hd hp => by
    obtain ⟨vs, h1, h2⟩ := hp
    exact ⟨vs, h1.of_blocks (fun b e1 e2 e3 _ => h.block b e3 (hd b ⟨e1, e2⟩)), h2.1, fun i u l a1 a2 => RdG.of_blocks (h2.2 i u l a1 a2) (fun b e1 e2 e3 _ => h.block b e3 (hd b ⟨e1, e2⟩))⟩⟩
abbrev Loc.all2 (lo hi : Nat) (us : List Value) (ll : List (List Fr)) : Loc :=
  ⟨fun w => All2 w lo hi us ll, fun k => lo ≤ k ∧ k < hi, fun h hd h2 => ⟨h2.1, fun i u l a1 a2 => RdG.of_blocks (h2.2 i u l a1 a2) (fun b e1 e2 e3 _ => h.block b e3 (hd b ⟨e1, e2⟩))⟩⟩
/-- the call's frame: below block N all but block c is as it was in w0 -/
abbrev Loc.fr (c N : Nat) (w0 : World) : Loc :=
  ⟨fun W => Off c N w0 W ∧ N ≤ W.heap.size, fun k => k < N ∧ k ≠ c, fun h hd hp => ⟨hp.1.trans ⟨h.os, h.tape, h.output, h.size, fun k hk hc => h.block k (Nat.lt_of_lt_of_le hk hp.2) (hd k ⟨hk, hc⟩)⟩, Nat.le_trans hp.2 h.size⟩⟩
/-- a row of the call's own -/
abbrev Loc.own (lo hi : Nat) (t : TypeId) (sz : Nat) (v : Value) (n : Nat) (xs : List Value) : Loc :=
  ⟨fun w => w.ownsRow lo t sz v n xs ∧ ∀ k, v.ownBlock = some k → k < hi, fun k => lo ≤ k ∧ k < hi ∧ v.ownBlock = some k, fun h hd hp => by
    refine ⟨⟨hp.1.1, ?_⟩, hp.2⟩
    rcases hp.1.2 with h2 | ⟨g, cap, cur, hv, hg, hh, r⟩
    · exact Or.inl h2
    · have hvg : v.ownBlock = some g := by rw [hv]; rfl
      exact Or.inr ⟨g, cap, cur, hv, hg, (h.block g (Array.getElem?_eq_some_iff.1 hh).1 (hd g ⟨hg, hp.2 g hvg, hvg⟩)).trans hh, r⟩⟩
/-- below block N all is as it was in w0 -/
abbrev Loc.bl (N : Nat) (w0 : World) : Loc :=
  ⟨fun W => Below N w0 W ∧ N ≤ W.heap.size, fun k => k < N, fun h hd hp => ⟨hp.1.trans ⟨h.os, h.tape, h.output, h.size, fun k hk => h.block k (Nat.lt_of_lt_of_le hk hp.2) (hd k hk)⟩, Nat.le_trans hp.2 h.size⟩⟩
/-- the heap has grown to N -/
abbrev Loc.sz (N : Nat) : Loc := ⟨fun w => N ≤ w.heap.size, fun _ => False, fun h _ hp => Nat.le_trans hp h.size⟩

def Mem : List Loc → World → Prop
  | [], _ => True
  | a :: l, w => a.P w ∧ Mem l w
def Apart (D : Nat → Prop) : List Loc → Prop
  | [] => True
  | a :: l => (∀ k, a.F k → D k → False) ∧ Apart D l
theorem Mem.chg {D : Nat → Prop} {w W : World} (h : Chg D w W) : ∀ {l : List Loc}, Mem l w → Apart D l → Mem l W
  | [], _, _ => True.intro
  | a :: l, hm, ha => ⟨a.keep h (fun k hk hd => ha.1 k hk hd) hm.1, Mem.chg h hm.2 ha.2⟩
theorem Apart.none : ∀ {l : List Loc}, Apart (fun _ => False) l
  | [] => True.intro
  | _ :: _ => ⟨fun _ _ h => h, Apart.none⟩
theorem Mem.below {w W : World} {l : List Loc} (hm : Mem l w) (h : Below w.heap.size w W) : Mem l W := hm.chg (Chg.below h) Apart.none
theorem Mem.drew {w : World} {l : List Loc} (hm : Mem l w) : Mem l w.drew := hm.chg (Chg.drew w) Apart.none
theorem Mem.drewN {w : World} {l : List Loc} (hm : Mem l w) (n : Nat) : Mem l (w.drewN n) := hm.chg (Chg.drewN w n) Apart.none
theorem Mem.alloc {w : World} {l : List Loc} (hm : Mem l w) (o : Obj) : Mem l (w.alloc o) := hm.chg (Chg.alloc w o) Apart.none
theorem Mem.off {c : Nat} {w W : World} {l : List Loc} (hm : Mem l w) (h : Off c w.heap.size w W) (ha : Apart (fun k => k = c) l) : Mem l W := hm.chg (Chg.off h) ha
theorem Mem.set {g i : Nat} {u : Value} {w : World} {l : List Loc} (hm : Mem l w) (ha : Apart (fun k => k = g) l) : Mem l (w.setCell ⟨g, i, none⟩ u) := hm.chg (Chg.set w g i u) ha
theorem Mem.set2 {g i j : Nat} {u v : Value} {w : World} {l : List Loc} (hm : Mem l w) (ha : Apart (fun k => k = g) l) : Mem l ((w.setCell ⟨g, i, none⟩ u).setCell ⟨g, j, none⟩ v) := hm.chg (Chg.set2 w g i j u v) ha
theorem Mem.grown {row : Option Nat} {w W : World} {l : List Loc} (hm : Mem l w) (h : w.grownBy W row) (ha : Apart (fun k => row = some k) l) : Mem l W := hm.chg (Chg.grown h) ha
/-- apart from what lies from N on -/
theorem Apart.weaken {D E : Nat → Prop} (h : ∀ k, E k → D k) : ∀ {l : List Loc}, Apart D l → Apart E l
  | [], _ => True.intro
  | _ :: _, ha => ⟨fun k hf he => ha.1 k hf (h k he), Apart.weaken h ha.2⟩
theorem Mem.grownO {base e sz n : Nat} {v : Value} {xs : List Value} {w W : World} {l : List Loc} (hm : Mem l w) (h : w.grownBy W v.ownBlock) (ho : w.ownsRow base e sz v n xs) (ha : Apart (fun k => base ≤ k) l) : Mem l W :=
  hm.grown h (ha.weaken fun k hk => (ho.lt k hk).1)
/-- an own row, behind a store into another block -/
theorem own_far2 {w : World} {base : Nat} {t : TypeId} {sz g n cap : Nat} {xs : List Value} {b i j : Nat} {u v : Value} (h : w.ownsRow base t sz (.slice (some ⟨g, 0, none⟩) n cap) n xs) (hne : g ≠ b) :
    ((w.setCell ⟨b, i, none⟩ u).setCell ⟨b, j, none⟩ v).ownsRow base t sz (.slice (some ⟨g, 0, none⟩) n cap) n xs := by
  refine ⟨h.1, ?_⟩
  rcases h.2 with h2 | ⟨g', cap', cur, hv, hg', hh', r⟩
  · exact Or.inl h2
  · refine Or.inr ⟨g', cap', cur, hv, hg', ?_, r⟩
    have : g' = g := by injection hv with hA; injection hA with hA; injection hA with hA; exact hA.symm
    rw [block_far (by omega), block_far (by omega)]
    exact hh'
/-- a fact more -/
theorem Mem.cons {a : Loc} {w : World} {l : List Loc} (h : a.P w) (hm : Mem l w) : Mem (a :: l) w := ⟨h, hm⟩

end Go.Proofs.Ythlgkomhnhkooaa
