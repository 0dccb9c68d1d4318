/-
  Words for memory that all walks of this seat share: own blocks, slices, bundles of facts with the blocks that they look at. Conditions: none.
-/
import Derived.Test.YtmhbfoaecebobaaBase
import Derived.Deep.AppendLies
import Derived.Laws.MakeOwn
namespace Go.Proofs.Ytmhbfoaecebobaa
set_option linter.unusedSimpArgs false
set_option linter.unusedVariables false
open Go.RowKit

theorem B2.alloc {W : World} {g : Nat} {x y : Value} (h : B2 W g x y) (o : Obj) : B2 (W.alloc o) g x y :=
  B2.after ((Below.refl W.heap.size W).alloc (Nat.le_refl _) o) h h.lt
theorem block_far {W : World} {g g' o : Nat} {u : Value} (hne : g ≠ g') : (W.setCell ⟨g', o, none⟩ u).heap[g]? = W.heap[g]? := Below.heap_setCell _ _ _ _ hne
theorem B2.of_block {W W' : World} {g : Nat} {x y : Value} (h : B2 W g x y) (he : W'.heap[g]? = W.heap[g]?) (hs : W.heap.size ≤ W'.heap.size) : B2 W' g x y := by
  obtain ⟨h1, h2, h3, h4, h5⟩ := h
  exact ⟨(World.cell?_of_block (w := W) he).trans h1, (World.cell?_of_block (w := W) he).trans h2, (World.frozen?_of_block (w := W) he).trans h3, (World.frozen?_of_block (w := W) he).trans h4, Nat.lt_of_lt_of_le h5 hs⟩
theorem B1.of_block {W W' : World} {g : Nat} {x : Value} (h : B1 W g x) (he : W'.heap[g]? = W.heap[g]?) (hs : W.heap.size ≤ W'.heap.size) : B1 W' g x := by
  obtain ⟨h1, h2, h5⟩ := h
  exact ⟨(World.cell?_of_block (w := W) he).trans h1, (World.frozen?_of_block (w := W) he).trans h2, Nat.lt_of_lt_of_le h5 hs⟩
theorem size_setCell (W : World) (p : Addr) (u : Value) : (W.setCell p u).heap.size = W.heap.size := by simp [World.setCell]
theorem B2.far {W : World} {g : Nat} {x y : Value} (h : B2 W g x y) {g' o : Nat} (hne : g ≠ g') (u : Value) : B2 (W.setCell ⟨g', o, none⟩ u) g x y :=
  h.of_block (block_far hne) (by rw [size_setCell]; exact Nat.le_refl _)
theorem B1.far {W : World} {g : Nat} {x : Value} (h : B1 W g x) {g' o : Nat} (hne : g ≠ g') (u : Value) : B1 (W.setCell ⟨g', o, none⟩ u) g x :=
  h.of_block (block_far hne) (by rw [size_setCell]; exact Nat.le_refl _)
theorem B1.new (W : World) (x : Value) (t : TypeId) : B1 (W.alloc (.cells #[x] t)) W.heap.size x := by simp [B1, go_sem]
theorem B2.new (W : World) (x y : Value) (t : TypeId) : B2 (W.alloc (.cells #[x, y] t)) W.heap.size x y := by simp [B2, go_sem]


abbrev K1 (w : World) (g : Nat) (x : Value) : Prop := w.cell? ⟨g, 0, none⟩ = some x ∧ w.frozen? ⟨g, 0, none⟩ = false ∧ g < w.heap.size
abbrev K2 (w : World) (g : Nat) (x y : Value) : Prop := w.cell? ⟨g, 0, none⟩ = some x ∧ w.cell? ⟨g, 1, none⟩ = some y ∧ w.frozen? ⟨g, 0, none⟩ = false ∧ w.frozen? ⟨g, 1, none⟩ = false ∧ g < w.heap.size
abbrev K6 (w : World) (g : Nat) (a b c d e f : Value) : Prop := w.cell? ⟨g, 0, none⟩ = some a ∧ w.cell? ⟨g, 1, none⟩ = some b ∧ w.cell? ⟨g, 2, none⟩ = some c ∧ w.cell? ⟨g, 3, none⟩ = some d ∧ w.cell? ⟨g, 4, none⟩ = some e ∧ w.cell? ⟨g, 5, none⟩ = some f ∧ g < w.heap.size

theorem K1.after {W w1 : World} {g : Nat} {x : Value} (h : K1 W g x) (hb : Below W.heap.size W w1) : K1 w1 g x := B1.after hb h h.2.2
theorem K2.after {W w1 : World} {g : Nat} {x y : Value} (h : K2 W g x y) (hb : Below W.heap.size W w1) : K2 w1 g x y := B2.after hb h h.2.2.2.2
theorem K1.off {c : Nat} {W w1 : World} {g : Nat} {x : Value} (h : K1 W g x) (hb : Off c W.heap.size W w1) (hc : g ≠ c) : K1 w1 g x := B1.off hb h h.2.2 hc
theorem K2.off {c : Nat} {W w1 : World} {g : Nat} {x y : Value} (h : K2 W g x y) (hb : Off c W.heap.size W w1) (hc : g ≠ c) : K2 w1 g x y := B2.off hb h h.2.2.2.2 hc
theorem K6.of_block {W W' : World} {g : Nat} {a b c d e f : Value} (h : K6 W g a b c d e f) (he : W'.heap[g]? = W.heap[g]?) (hs : W.heap.size ≤ W'.heap.size) : K6 W' g a b c d e f := by
  obtain ⟨h1, h2, h3, h4, h5, h6, h7⟩ := h
  exact ⟨(World.cell?_of_block (w := W) he).trans h1, (World.cell?_of_block (w := W) he).trans h2, (World.cell?_of_block (w := W) he).trans h3, (World.cell?_of_block (w := W) he).trans h4, (World.cell?_of_block (w := W) he).trans h5, (World.cell?_of_block (w := W) he).trans h6, Nat.lt_of_lt_of_le h7 hs⟩
theorem K6.after {W w1 : World} {g : Nat} {a b c d e f : Value} (h : K6 W g a b c d e f) (hb : Below W.heap.size W w1) : K6 w1 g a b c d e f := K6.of_block h (hb.block g h.2.2.2.2.2.2) hb.size
theorem K6.off {x : Nat} {W w1 : World} {g : Nat} {a b c d e f : Value} (h : K6 W g a b c d e f) (hb : Off x W.heap.size W w1) (hc : g ≠ x) : K6 w1 g a b c d e f := K6.of_block h (hb.block g h.2.2.2.2.2.2 hc) hb.size

theorem K1.aft {W w1 : World} {g : Nat} {x : Value} (hb : Below W.heap.size W w1) (h : K1 W g x) : K1 w1 g x := K1.after h hb
theorem K2.aft {W w1 : World} {g : Nat} {x y : Value} (hb : Below W.heap.size W w1) (h : K2 W g x y) : K2 w1 g x y := K2.after h hb
theorem K6.aft {W w1 : World} {g : Nat} {a b c d e f : Value} (hb : Below W.heap.size W w1) (h : K6 W g a b c d e f) : K6 w1 g a b c d e f := K6.after h hb
theorem K1.oft {c : Nat} {W w1 : World} {g : Nat} {x : Value} (hb : Off c W.heap.size W w1) (h : K1 W g x) (hc : g ≠ c) : K1 w1 g x := K1.off h hb hc
theorem K2.oft {c : Nat} {W w1 : World} {g : Nat} {x y : Value} (hb : Off c W.heap.size W w1) (h : K2 W g x y) (hc : g ≠ c) : K2 w1 g x y := K2.off h hb hc
theorem K6.oft {x : Nat} {W w1 : World} {g : Nat} {a b c d e f : Value} (hb : Off x W.heap.size W w1) (h : K6 W g a b c d e f) (hc : g ≠ x) : K6 w1 g a b c d e f := K6.off h hb hc

theorem K1.alloc {W : World} {g : Nat} {x : Value} (h : K1 W g x) (o : Obj) : K1 (W.alloc o) g x := K1.after h ((Below.refl W.heap.size W).alloc (Nat.le_refl _) o)
theorem K2.alloc {W : World} {g : Nat} {x y : Value} (h : K2 W g x y) (o : Obj) : K2 (W.alloc o) g x y := K2.after h ((Below.refl W.heap.size W).alloc (Nat.le_refl _) o)
theorem K6.alloc {W : World} {g : Nat} {a b c d e f : Value} (h : K6 W g a b c d e f) (o : Obj) : K6 (W.alloc o) g a b c d e f := K6.after h ((Below.refl W.heap.size W).alloc (Nat.le_refl _) o)
theorem K1.new (W : World) (x : Value) (t : TypeId) : K1 (W.alloc (.cells #[x] t)) W.heap.size x := B1.new W x t
theorem K2.new (W : World) (x y : Value) (t : TypeId) : K2 (W.alloc (.cells #[x, y] t)) W.heap.size x y := B2.new W x y t
theorem K6.new (W : World) (a b c d e f : Value) (t : TypeId) : K6 (W.alloc (.cells #[a, b, c, d, e, f] t)) W.heap.size a b c d e f := by simp [K6, go_sem]
theorem K2.new1d (w : World) (o : Obj) (x y : Value) (t : TypeId) : K2 (((w.alloc o).alloc (.cells #[x, y] t)).drew) (w.heap.size + 1) x y := by
  have := K2.new (w.alloc o) x y t
  rw [World.size_alloc] at this
  exact this
theorem K2.newd (w : World) (x y : Value) (t : TypeId) : K2 ((w.alloc (.cells #[x, y] t)).drew) w.heap.size x y := K2.new w x y t
theorem K2.set {W : World} {g : Nat} {x y : Value} (h : K2 W g x y) (u v : Value) : K2 ((W.setCell ⟨g, 0, none⟩ u).setCell ⟨g, 1, none⟩ v) g u v := B2.set h u v
theorem K1.set {W : World} {g : Nat} {x : Value} (h : K1 W g x) (u : Value) : K1 (W.setCell ⟨g, 0, none⟩ u) g u := B1.set h u
theorem K1.far2 {W : World} {g : Nat} {x : Value} (h : K1 W g x) {g' : Nat} (hne : g ≠ g') (u v : Value) : K1 ((W.setCell ⟨g', 0, none⟩ u).setCell ⟨g', 1, none⟩ v) g x := B1.set2 h hne
theorem K1.far {W : World} {g : Nat} {x : Value} (h : K1 W g x) {g' o : Nat} (hne : g ≠ g') (u : Value) : K1 (W.setCell ⟨g', o, none⟩ u) g x := B1.far h hne u
theorem K2.far {W : World} {g : Nat} {x y : Value} (h : K2 W g x y) {g' o : Nat} (hne : g ≠ g') (u : Value) : K2 (W.setCell ⟨g', o, none⟩ u) g x y := B2.far h hne u
theorem K6.far {W : World} {g : Nat} {a b c d e f : Value} (h : K6 W g a b c d e f) {g' o : Nat} (hne : g ≠ g') (u : Value) : K6 (W.setCell ⟨g', o, none⟩ u) g a b c d e f :=
  K6.of_block h (block_far hne) (by rw [size_setCell]; exact Nat.le_refl _)

theorem K6.far2 {W : World} {g : Nat} {a b c d e f : Value} (h : K6 W g a b c d e f) {g' : Nat} (hne : g ≠ g') (u v : Value) : K6 ((W.setCell ⟨g', 0, none⟩ u).setCell ⟨g', 1, none⟩ v) g a b c d e f := K6.far (K6.far h hne u) hne v

/-- a slice that reads as the cells xs (n elements of size cells each); its block has elements of type t and a number from lo on, below hi -/
def RdG (t : TypeId) (size : Nat) (w : World) (lo hi : Nat) (v : Value) (n : Nat) (xs : List Value) : Prop :=
  xs.length = n * size ∧ ∃ A c, v = .slice A n c ∧ n ≤ c ∧ n ≤ maxLen ∧ (0 < n → ∃ b off cs fr, A = some ⟨b, off, none⟩ ∧ lo ≤ b ∧ b < hi ∧ w.heap[b]? = some (.cells cs t fr) ∧ ∀ j u, xs[j]? = some u → cs[off + j]? = some u)

section
variable {t : TypeId} {size : Nat} {w W : World} {lo hi : Nat} {v : Value} {n : Nat} {xs : List Value}
theorem RdG.of_blocks (h : RdG t size w lo hi v n xs) (hk : ∀ b, lo ≤ b → b < hi → b < w.heap.size → (∃ cs fr, w.heap[b]? = some (.cells cs t fr)) → W.heap[b]? = w.heap[b]?) : RdG t size W lo hi v n xs := by
  obtain ⟨h1, A, c, hv, h2, h3, h4⟩ := h
  refine ⟨h1, A, c, hv, h2, h3, fun hn => ?_⟩
  obtain ⟨b, off, cs, fr, hA, hlo, hhi, hb, hc⟩ := h4 hn
  exact ⟨b, off, cs, fr, hA, hlo, hhi, (hk b hlo hhi (Array.getElem?_eq_some_iff.1 hb).1 ⟨cs, fr, hb⟩).trans hb, hc⟩
theorem RdG.after (h : RdG t size w lo hi v n xs) (hb : Below w.heap.size w W) : RdG t size W lo hi v n xs := h.of_blocks fun b _ _ hb' _ => hb.block b hb'
theorem RdG.off {c : Nat} (h : RdG t size w lo hi v n xs) (hb : Off c w.heap.size w W) (hc : c < lo) : RdG t size W lo hi v n xs := h.of_blocks fun b hl _ hb' _ => hb.block b hb' (by omega)
theorem RdG.grownB {row : Option Nat} (h : RdG t size w lo hi v n xs) (hg : w.grownBy W row) (hr : ∀ g, row = some g → hi ≤ g) : RdG t size W lo hi v n xs :=
  h.of_blocks fun b _ hh hb' _ => hg.block b hb' (fun e => by have := hr b e.symm; omega)
theorem RdG.grownT {base : Nat} {e : TypeId} {sz m : Nat} {u : Value} {ys : List Value} (h : RdG t size w lo hi v n xs) (hg : w.grownBy W u.ownBlock) (ho : w.ownsRow base e sz u m ys) (hne : e ≠ t) : RdG t size W lo hi v n xs :=
  h.of_blocks fun b _ _ hb' ⟨cs, fr, hcs⟩ => hg.block b hb' (fun he => by
    rcases ho.2 with ⟨rfl, _⟩ | ⟨g, cap, cur, rfl, _, hgg, _⟩
    · simp [Value.ownBlock] at he
    · simp [Value.ownBlock] at he
      subst he
      rw [hcs] at hgg
      injection hgg with hgg
      injection hgg with _ h2
      exact hne h2.symm)
theorem RdG.mono {lo' hi' : Nat} (h : RdG t size w lo hi v n xs) (hl : lo' ≤ lo) (hh : hi ≤ hi') : RdG t size w lo' hi' v n xs := by
  obtain ⟨h1, A, c, hv, h2, h3, h4⟩ := h
  refine ⟨h1, A, c, hv, h2, h3, fun hn => ?_⟩
  obtain ⟨b, off, cs, fr, hA, hlo, hhi, hb, hc⟩ := h4 hn
  exact ⟨b, off, cs, fr, hA, by omega, by omega, hb, hc⟩
theorem RdG.of_own (h : w.ownsRow lo t size v n xs) : RdG t size w lo w.heap.size v n xs := by
  refine ⟨h.1, ?_⟩
  rcases h.2 with ⟨rfl, h0⟩ | ⟨g, cap, cur, rfl, hb, hg, h1, h2, h3, h4⟩
  · exact ⟨none, 0, by rw [h0], by omega, by simp [h0, maxLen], fun hn => by omega⟩
  · refine ⟨_, cap, rfl, h1, by omega, fun _ => ⟨g, 0, cur, _, rfl, hb, (Array.getElem?_eq_some_iff.1 hg).1, hg, ?_⟩⟩
    intro j u hu
    rw [← h4, List.getElem?_take] at hu
    split at hu
    · simpa using hu
    · cases hu
/-- the value, written out, and its cells -/
theorem RdG.form (h : RdG t size w lo hi v n xs) : ∃ A c, v = .slice A n c ∧ n ≤ c ∧ n ≤ 9223372036854775807 := by
  obtain ⟨h1, A, c, hv, h2, h3, h4⟩ := h
  exact ⟨A, c, hv, h2, by unfold maxLen at h3; omega⟩
theorem RdG.cells {A : Option Addr} {c : Nat} (h : RdG t size w lo hi (.slice A n c) n xs) (hn : 0 < n) : ∃ b off, A = some ⟨b, off, none⟩ ∧ lo ≤ b ∧ b < hi ∧ b < w.heap.size ∧ ∀ j u, xs[j]? = some u → w.cell? ⟨b, off + j, none⟩ = some u := by
  obtain ⟨h1, A', c', hv, h2, h3, h4⟩ := h
  injection hv with hA _ hc
  subst hA
  obtain ⟨b, off, cs, fr, hA, hlo, hhi, hb, hc⟩ := h4 hn
  refine ⟨b, off, hA, hlo, hhi, (Array.getElem?_eq_some_iff.1 hb).1, fun j u hu => ?_⟩
  rw [cell_of_row w b (off + j) cs t fr hb]
  exact hc j u hu
end

theorem own_off {c : Nat} {w W : World} {base : Nat} {e : TypeId} {size n : Nat} {v : Value} {xs : List Value} (h : w.ownsRow base e size v n xs) (ho : Off c w.heap.size w W) (hc : c < base) : W.ownsRow base e size v n xs :=
  h.kept ho.grownBy (by
    cases hv : v.ownBlock with
    | none => exact .inl rfl
    | some k =>
      right
      intro he
      injection he with he
      have := h.lt k hv
      omega)
theorem own_below {w W : World} {base : Nat} {e : TypeId} {size n : Nat} {v : Value} {xs : List Value} (h : w.ownsRow base e size v n xs) (hb : Below w.heap.size w W) : W.ownsRow base e size v n xs := by
  obtain ⟨h1, h2⟩ := h
  refine ⟨h1, ?_⟩
  rcases h2 with h2 | ⟨g, cap, cur, hv, hg, hh, r⟩
  · exact Or.inl h2
  · exact Or.inr ⟨g, cap, cur, hv, hg, (hb.block g (Array.getElem?_eq_some_iff.1 hh).1).trans hh, r⟩

/-- what an append onto a row of the call's own leaves below block N, if that row is not below N -/
theorem Off.grown {c N : Nat} {w W W' : World} {row : Option Nat} (h : Off c N w W) (hg : W.grownBy W' row) (hN : N ≤ W.heap.size) (hr : ∀ g, row = some g → N ≤ g) : Off c N w W' :=
  h.trans ⟨hg.os, hg.tape, hg.output, hg.size, fun k hk _ => hg.block k (by omega) (fun e => by have := hr k e.symm; omega)⟩
theorem K1.grown {W w1 : World} {g : Nat} {x : Value} {row : Option Nat} (h : K1 W g x) (hg : W.grownBy w1 row) (hr : ∀ k, row = some k → g < k) : K1 w1 g x :=
  B1.of_block h (hg.block g h.2.2 (fun e => by have := hr g e.symm; omega)) hg.size
theorem K2.grown {W w1 : World} {g : Nat} {x y : Value} {row : Option Nat} (h : K2 W g x y) (hg : W.grownBy w1 row) (hr : ∀ k, row = some k → g < k) : K2 w1 g x y :=
  B2.of_block h (hg.block g h.2.2.2.2 (fun e => by have := hr g e.symm; omega)) hg.size
theorem K6.grown {W w1 : World} {g : Nat} {a b c d e f : Value} {row : Option Nat} (h : K6 W g a b c d e f) (hg : W.grownBy w1 row) (hr : ∀ k, row = some k → g < k) : K6 w1 g a b c d e f :=
  K6.of_block h (hg.block g h.2.2.2.2.2.2 (fun e => by have := hr g e.symm; omega)) hg.size


theorem own_lit (W : World) (cs : Array Value) (t : TypeId) (base size n : Nat) (hs : cs.size = n * size) (hn : n ≤ maxLen) (hb : base ≤ W.heap.size) :
    (W.alloc (.cells cs t)).ownsRow base t size (.slice (some ⟨W.heap.size, 0, none⟩) n n) n cs.toList :=
  ⟨by simp [hs], .inr ⟨W.heap.size, n, cs, rfl, hb, heap_alloc_new W _, Nat.le_refl _, hn, hs, List.take_of_length_le (by simp [hs])⟩⟩
theorem own_ne {w : World} {base base' : Nat} {e e' : TypeId} {size size' n n' : Nat} {v v' : Value} {xs xs' : List Value} (h : w.ownsRow base e size v n xs) (h' : w.ownsRow base' e' size' v' n' xs') (hne : e ≠ e') : v.ownBlock = none ∨ v.ownBlock ≠ v'.ownBlock := by
  rcases h.2 with ⟨rfl, _⟩ | ⟨g, cap, cur, rfl, _, hg, _⟩
  · exact .inl rfl
  · right
    rcases h'.2 with ⟨rfl, _⟩ | ⟨g', cap', cur', rfl, _, hg', _⟩
    · simp [Value.ownBlock]
    · intro he
      simp [Value.ownBlock] at he
      subst he
      rw [hg] at hg'
      injection hg' with hg'
      injection hg' with _ h2
      exact hne h2

theorem own_cell {w : World} {base : Nat} {e : TypeId} {n g cap : Nat} {xs : List Value} (h : w.ownsRow base e 1 (.slice (some ⟨g, 0, none⟩) n cap) n xs) {j : Nat} {u : Value} (hj : xs[j]? = some u) : w.cell? ⟨g, j, none⟩ = some u := by
  have := h.cells (g := g) rfl j u hj
  have hadd : (⟨g, 0, none⟩ : Addr).add j = ⟨g, j, none⟩ := by unfold Addr.add; split <;> simp_all
  rw [hadd] at this
  exact this

theorem own_lower {W : World} {lo lo' t sz n : Nat} {v : Value} {cells : List Value} (h : W.ownsRow lo t sz v n cells) (hl : lo' ≤ lo) : W.ownsRow lo' t sz v n cells := by
  refine ⟨h.1, ?_⟩
  rcases h.2 with h2 | ⟨g', cap', cur, hv, hg', r⟩
  · exact Or.inl h2
  · exact Or.inr ⟨g', cap', cur, hv, Nat.le_trans hl hg', r⟩

theorem K2.far' {W : World} {s : Nat} {x y : Value} (h : K2 W s x y) {g i j : Nat} (hne : s ≠ g) (u v : Value) : K2 ((W.setCell ⟨g, i, none⟩ u).setCell ⟨g, j, none⟩ v) s x y := K2.far (K2.far h hne u) hne v
/-- a store into one's own row keeps what is in other blocks -/
theorem below_set {N : Nat} {w : World} {g i j : Nat} {u v : Value} (hg : N ≤ g) : Below N w ((w.setCell ⟨g, i, none⟩ u).setCell ⟨g, j, none⟩ v) :=
  ((Below.refl N w).setCell (p := ⟨g, i, none⟩) hg u).setCell (p := ⟨g, j, none⟩) hg v

theorem cell_oft {c : Nat} {W W' : World} {b o : Nat} {v : Value} (ho : Off c W.heap.size W W') (h : W.cell? ⟨b, o, none⟩ = some v) (hne : b ≠ c) : W'.cell? ⟨b, o, none⟩ = some v :=
  (ho.cell (p := ⟨b, o, none⟩) (World.block_lt_of_cell? W _ h) hne).trans h

/-- from w to W the blocks D alone have changed, of those that were there -/
structure Chg (D : Nat → Prop) (w W : World) : Prop where
  os : W.os = w.os
  tape : W.tape = w.tape
  output : W.output = w.output
  size : w.heap.size ≤ W.heap.size
  block : ∀ k, k < w.heap.size → ¬ D k → W.heap[k]? = w.heap[k]?
theorem Chg.below {w W : World} (h : Below w.heap.size w W) : Chg (fun _ => False) w W := ⟨h.os, h.tape, h.output, h.size, fun k hk _ => h.block k hk⟩
theorem Chg.belowN {N : Nat} {w W : World} (h : Below N w W) : Chg (fun k => N ≤ k) w W := ⟨h.os, h.tape, h.output, h.size, fun k _ hk => h.block k (by omega)⟩
theorem Chg.off {c : Nat} {w W : World} (h : Off c w.heap.size w W) : Chg (fun k => k = c) w W := ⟨h.os, h.tape, h.output, h.size, fun k hk hc => h.block k hk hc⟩
theorem Chg.grown {row : Option Nat} {w W : World} (h : w.grownBy W row) : Chg (fun k => row = some k) w W := ⟨h.os, h.tape, h.output, h.size, fun k hk hc => h.block k hk (fun e => hc e.symm)⟩
theorem Chg.drew (w : World) : Chg (fun _ => False) w w.drew := ⟨rfl, rfl, rfl, Nat.le_refl _, fun _ _ _ => rfl⟩
theorem Chg.drewN (w : World) (n : Nat) : Chg (fun _ => False) w (w.drewN n) := Chg.below (below_drewN (Below.refl _ w) n)
theorem Chg.alloc (w : World) (o : Obj) : Chg (fun _ => False) w (w.alloc o) := Chg.below ((Below.refl _ w).alloc (Nat.le_refl _) o)
theorem Chg.set (w : World) (g i : Nat) (u : Value) : Chg (fun k => k = g) w (w.setCell ⟨g, i, none⟩ u) :=
  ⟨rfl, rfl, rfl, by simp [World.setCell], fun k hk hc => Below.heap_setCell _ _ _ _ hc⟩
theorem Chg.set2 (w : World) (g i j : Nat) (u v : Value) : Chg (fun k => k = g) w ((w.setCell ⟨g, i, none⟩ u).setCell ⟨g, j, none⟩ v) :=
  ⟨rfl, rfl, rfl, by simp [World.setCell], fun k hk hc => (Below.heap_setCell _ _ _ _ hc).trans (Below.heap_setCell _ _ _ _ hc)⟩

/-- a fact that looks at the blocks F alone -/
structure Loc where
  P : World → Prop
  F : Nat → Prop
  keep : ∀ {D : Nat → Prop} {w W : World}, Chg D w W → (∀ k, F k → ¬ D k) → P w → P W

abbrev Loc.k1 (g : Nat) (x : Value) : Loc := ⟨fun w => K1 w g x, fun k => k = g, fun h hd hp => B1.of_block hp (h.block g hp.2.2 (hd g rfl)) h.size⟩
abbrev Loc.k2 (g : Nat) (x y : Value) : Loc := ⟨fun w => K2 w g x y, fun k => k = g, fun h hd hp => B2.of_block hp (h.block g hp.2.2.2.2 (hd g rfl)) h.size⟩
abbrev Loc.k6 (g : Nat) (a b c d e f : Value) : Loc := ⟨fun w => K6 w g a b c d e f, fun k => k = g, fun h hd hp => K6.of_block hp (h.block g hp.2.2.2.2.2.2 (hd g rfl)) h.size⟩
/-- a cell; two cells side by side -/
abbrev C1 (w : World) (b o : Nat) (x : Value) : Prop := w.cell? ⟨b, o, none⟩ = some x
abbrev C2 (w : World) (b o : Nat) (x y : Value) : Prop := w.cell? ⟨b, o, none⟩ = some x ∧ w.cell? ⟨b, o + 1, none⟩ = some y
abbrev Loc.c1 (b o : Nat) (x : Value) : Loc := ⟨fun w => C1 w b o x, fun k => k = b, fun h hd hp => (World.cell?_of_block (h.block b (World.block_lt_of_cell? _ _ hp) (hd b rfl))).trans hp⟩
abbrev Loc.c2 (b o : Nat) (x y : Value) : Loc := ⟨fun w => C2 w b o x y, fun k => k = b, fun h hd hp => ⟨(World.cell?_of_block (h.block b (World.block_lt_of_cell? _ _ hp.1) (hd b rfl))).trans hp.1, (World.cell?_of_block (h.block b (World.block_lt_of_cell? _ _ hp.1) (hd b rfl))).trans hp.2⟩⟩
/-- the call's frame: below block N all but block c is as it was in w0 -/
abbrev Loc.fr (c N : Nat) (w0 : World) : Loc :=
  ⟨fun W => Off c N w0 W ∧ N ≤ W.heap.size, fun k => k < N ∧ k ≠ c, fun h hd hp => ⟨hp.1.trans ⟨h.os, h.tape, h.output, h.size, fun k hk hc => h.block k (Nat.lt_of_lt_of_le hk hp.2) (hd k ⟨hk, hc⟩)⟩, Nat.le_trans hp.2 h.size⟩⟩
/-- a row of the call's own -/
abbrev Loc.own (lo hi : Nat) (t : TypeId) (sz : Nat) (v : Value) (n : Nat) (xs : List Value) : Loc :=
  ⟨fun w => w.ownsRow lo t sz v n xs ∧ ∀ k, v.ownBlock = some k → k < hi, fun k => lo ≤ k ∧ k < hi ∧ v.ownBlock = some k, fun h hd hp => by
    refine ⟨⟨hp.1.1, ?_⟩, hp.2⟩
    rcases hp.1.2 with h2 | ⟨g, cap, cur, hv, hg, hh, r⟩
    · exact Or.inl h2
    · have hvg : v.ownBlock = some g := by rw [hv]; rfl
      exact Or.inr ⟨g, cap, cur, hv, hg, (h.block g (Array.getElem?_eq_some_iff.1 hh).1 (hd g ⟨hg, hp.2 g hvg, hvg⟩)).trans hh, r⟩⟩
/-- below block N all is as it was in w0 -/
abbrev Loc.bl (N : Nat) (w0 : World) : Loc :=
  ⟨fun W => Below N w0 W ∧ N ≤ W.heap.size, fun k => k < N, fun h hd hp => ⟨hp.1.trans ⟨h.os, h.tape, h.output, h.size, fun k hk => h.block k (Nat.lt_of_lt_of_le hk hp.2) (hd k hk)⟩, Nat.le_trans hp.2 h.size⟩⟩
/-- the heap has grown to N -/
abbrev Loc.sz (N : Nat) : Loc := ⟨fun w => N ≤ w.heap.size, fun _ => False, fun h _ hp => Nat.le_trans hp h.size⟩

def Mem : List Loc → World → Prop
  | [], _ => True
  | a :: l, w => a.P w ∧ Mem l w
def Apart (D : Nat → Prop) : List Loc → Prop
  | [] => True
  | a :: l => (∀ k, a.F k → D k → False) ∧ Apart D l
theorem Mem.chg {D : Nat → Prop} {w W : World} (h : Chg D w W) : ∀ {l : List Loc}, Mem l w → Apart D l → Mem l W
  | [], _, _ => True.intro
  | a :: l, hm, ha => ⟨a.keep h (fun k hk hd => ha.1 k hk hd) hm.1, Mem.chg h hm.2 ha.2⟩
theorem Apart.none : ∀ {l : List Loc}, Apart (fun _ => False) l
  | [] => True.intro
  | _ :: _ => ⟨fun _ _ h => h, Apart.none⟩
theorem Mem.below {w W : World} {l : List Loc} (hm : Mem l w) (h : Below w.heap.size w W) : Mem l W := hm.chg (Chg.below h) Apart.none
theorem Mem.drew {w : World} {l : List Loc} (hm : Mem l w) : Mem l w.drew := hm.chg (Chg.drew w) Apart.none
theorem Mem.drewN {w : World} {l : List Loc} (hm : Mem l w) (n : Nat) : Mem l (w.drewN n) := hm.chg (Chg.drewN w n) Apart.none
theorem Mem.alloc {w : World} {l : List Loc} (hm : Mem l w) (o : Obj) : Mem l (w.alloc o) := hm.chg (Chg.alloc w o) Apart.none
theorem Mem.off {c : Nat} {w W : World} {l : List Loc} (hm : Mem l w) (h : Off c w.heap.size w W) (ha : Apart (fun k => k = c) l) : Mem l W := hm.chg (Chg.off h) ha
theorem Mem.set {g i : Nat} {u : Value} {w : World} {l : List Loc} (hm : Mem l w) (ha : Apart (fun k => k = g) l) : Mem l (w.setCell ⟨g, i, none⟩ u) := hm.chg (Chg.set w g i u) ha
theorem Mem.set2 {g i j : Nat} {u v : Value} {w : World} {l : List Loc} (hm : Mem l w) (ha : Apart (fun k => k = g) l) : Mem l ((w.setCell ⟨g, i, none⟩ u).setCell ⟨g, j, none⟩ v) := hm.chg (Chg.set2 w g i j u v) ha
theorem Mem.grown {row : Option Nat} {w W : World} {l : List Loc} (hm : Mem l w) (h : w.grownBy W row) (ha : Apart (fun k => row = some k) l) : Mem l W := hm.chg (Chg.grown h) ha
/-- apart from what lies from N on -/
theorem Apart.weaken {D E : Nat → Prop} (h : ∀ k, E k → D k) : ∀ {l : List Loc}, Apart D l → Apart E l
  | [], _ => True.intro
  | _ :: _, ha => ⟨fun k hf he => ha.1 k hf (h k he), Apart.weaken h ha.2⟩
theorem Mem.grownO {base e sz n : Nat} {v : Value} {xs : List Value} {w W : World} {l : List Loc} (hm : Mem l w) (h : w.grownBy W v.ownBlock) (ho : w.ownsRow base e sz v n xs) (ha : Apart (fun k => base ≤ k) l) : Mem l W :=
  hm.grown h (ha.weaken fun k hk => (ho.lt k hk).1)
/-- an own row, behind a store into another block -/
theorem own_far2 {w : World} {base : Nat} {t : TypeId} {sz g n cap : Nat} {xs : List Value} {b i j : Nat} {u v : Value} (h : w.ownsRow base t sz (.slice (some ⟨g, 0, none⟩) n cap) n xs) (hne : g ≠ b) :
    ((w.setCell ⟨b, i, none⟩ u).setCell ⟨b, j, none⟩ v).ownsRow base t sz (.slice (some ⟨g, 0, none⟩) n cap) n xs := by
  refine ⟨h.1, ?_⟩
  rcases h.2 with h2 | ⟨g', cap', cur, hv, hg', hh', r⟩
  · exact Or.inl h2
  · refine Or.inr ⟨g', cap', cur, hv, hg', ?_, r⟩
    have : g' = g := by injection hv with hA; injection hA with hA; injection hA with hA; exact hA.symm
    rw [block_far (by omega), block_far (by omega)]
    exact hh'
/-- a fact more -/
theorem Mem.cons {a : Loc} {w : World} {l : List Loc} (h : a.P w) (hm : Mem l w) : Mem (a :: l) w := ⟨h, hm⟩


/-- a slice that reads as the cells xs (n elements of size cells each), in blocks from lo on, below hi -/
def RdC (size : Nat) (w : World) (lo hi : Nat) (v : Value) (n : Nat) (xs : List Value) : Prop :=
  xs.length = n * size ∧ ∃ A c, v = .slice A n c ∧ n ≤ c ∧ n ≤ maxLen ∧ (0 < n → ∃ b off, A = some ⟨b, off, none⟩ ∧ lo ≤ b ∧ b < hi ∧ ∀ j u, xs[j]? = some u → w.cell? ⟨b, off + j, none⟩ = some u)
section
variable {size : Nat} {w W : World} {lo hi : Nat} {v : Value} {n : Nat} {xs : List Value}
theorem RdC.of_blocks (h : RdC size w lo hi v n xs) (hk : ∀ b, lo ≤ b → b < hi → b < w.heap.size → W.heap[b]? = w.heap[b]?) : RdC size W lo hi v n xs := by
  obtain ⟨h1, A, c, hv, h2, h3, h4⟩ := h
  refine ⟨h1, A, c, hv, h2, h3, fun hn => ?_⟩
  obtain ⟨b, off, hA, hlo, hhi, hc⟩ := h4 hn
  exact ⟨b, off, hA, hlo, hhi, fun j u hu => (World.cell?_of_block (hk b hlo hhi (World.block_lt_of_cell? _ _ (hc j u hu)))).trans (hc j u hu)⟩
theorem RdC.after (h : RdC size w lo hi v n xs) (hb : Below w.heap.size w W) : RdC size W lo hi v n xs := h.of_blocks fun b _ _ hb' => hb.block b hb'
theorem RdC.mono {lo' hi' : Nat} (h : RdC size w lo hi v n xs) (hl : lo' ≤ lo) (hh : hi ≤ hi') : RdC size w lo' hi' v n xs := by
  obtain ⟨h1, A, c, hv, h2, h3, h4⟩ := h
  refine ⟨h1, A, c, hv, h2, h3, fun hn => ?_⟩
  obtain ⟨b, off, hA, hlo, hhi, hc⟩ := h4 hn
  exact ⟨b, off, hA, by omega, by omega, hc⟩
theorem RdC.of_own {t : TypeId} (h : w.ownsRow lo t size v n xs) : RdC size w lo w.heap.size v n xs := by
  have h' := RdG.of_own h
  obtain ⟨h1, A, c, hv, h2, h3, h4⟩ := h'
  refine ⟨h1, A, c, hv, h2, h3, fun hn => ?_⟩
  obtain ⟨b, off, cs, fr, hA, hlo, hhi, hb, hc⟩ := h4 hn
  exact ⟨b, off, hA, hlo, hhi, fun j u hu => by rw [cell_of_row w b (off + j) cs t fr hb]; exact hc j u hu⟩
theorem RdC.form (h : RdC size w lo hi v n xs) : ∃ A c, v = .slice A n c ∧ n ≤ c ∧ n ≤ 9223372036854775807 := by
  obtain ⟨h1, A, c, hv, h2, h3, h4⟩ := h
  exact ⟨A, c, hv, h2, by unfold maxLen at h3; omega⟩
theorem RdC.cells {A : Option Addr} {c : Nat} (h : RdC size w lo hi (.slice A n c) n xs) (hn : 0 < n) : ∃ b off, A = some ⟨b, off, none⟩ ∧ lo ≤ b ∧ b < hi ∧ ∀ j u, xs[j]? = some u → w.cell? ⟨b, off + j, none⟩ = some u := by
  obtain ⟨h1, A', c', hv, h2, h3, h4⟩ := h
  injection hv with hA _ hc
  subst hA
  exact h4 hn
theorem RdC.nil (w : World) (lo hi : Nat) : RdC size w lo hi (.slice none 0 0) 0 [] := ⟨by simp, none, 0, rfl, Nat.le_refl _, by simp, fun h => by omega⟩
end
abbrev Loc.rdC (size lo hi : Nat) (v : Value) (n : Nat) (xs : List Value) : Loc := ⟨fun w => RdC size w lo hi v n xs, fun k => lo ≤ k ∧ k < hi, fun h hd hp => RdC.of_blocks hp (fun b h1 h2 h3 => h.block b h3 (hd b ⟨h1, h2⟩))⟩

end Go.Proofs.Ytmhbfoaecebobaa
