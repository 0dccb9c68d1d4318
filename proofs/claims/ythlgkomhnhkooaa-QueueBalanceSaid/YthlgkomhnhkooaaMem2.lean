/-
  Words for memory: own blocks whose facts the walk uses as they stand, slices that read as lists, appends. Conditions: none.
-/
import Derived.Test.YthlgkomhnhkooaaMem
import Derived.Deep.AppendLies
namespace Go.Proofs.Ythlgkomhnhkooaa
set_option linter.unusedSimpArgs false
set_option linter.unusedVariables false
open Go.RowKit

abbrev K1 (w : World) (g : Nat) (x : Value) : Prop := w.cell? ⟨g, 0, none⟩ = some x ∧ w.frozen? ⟨g, 0, none⟩ = false ∧ g < w.heap.size
abbrev K2 (w : World) (g : Nat) (x y : Value) : Prop := w.cell? ⟨g, 0, none⟩ = some x ∧ w.cell? ⟨g, 1, none⟩ = some y ∧ w.frozen? ⟨g, 0, none⟩ = false ∧ w.frozen? ⟨g, 1, none⟩ = false ∧ g < w.heap.size
abbrev K6 (w : World) (g : Nat) (a b c d e f : Value) : Prop := w.cell? ⟨g, 0, none⟩ = some a ∧ w.cell? ⟨g, 1, none⟩ = some b ∧ w.cell? ⟨g, 2, none⟩ = some c ∧ w.cell? ⟨g, 3, none⟩ = some d ∧ w.cell? ⟨g, 4, none⟩ = some e ∧ w.cell? ⟨g, 5, none⟩ = some f ∧ g < w.heap.size

theorem K1.after {W w1 : World} {g : Nat} {x : Value} (h : K1 W g x) (hb : Below W.heap.size W w1) : K1 w1 g x := B1.after hb h h.2.2
theorem K2.after {W w1 : World} {g : Nat} {x y : Value} (h : K2 W g x y) (hb : Below W.heap.size W w1) : K2 w1 g x y := B2.after hb h h.2.2.2.2
theorem K1.off {c : Nat} {W w1 : World} {g : Nat} {x : Value} (h : K1 W g x) (hb : Off c W.heap.size W w1) (hc : g ≠ c) : K1 w1 g x := B1.off hb h h.2.2 hc
theorem K2.off {c : Nat} {W w1 : World} {g : Nat} {x y : Value} (h : K2 W g x y) (hb : Off c W.heap.size W w1) (hc : g ≠ c) : K2 w1 g x y := B2.off hb h h.2.2.2.2 hc
theorem K6.of_block {W W' : World} {g : Nat} {a b c d e f : Value} (h : K6 W g a b c d e f) (he : W'.heap[g]? = W.heap[g]?) (hs : W.heap.size ≤ W'.heap.size) : K6 W' g a b c d e f := by
  obtain ⟨h1, h2, h3, h4, h5, h6, h7⟩ := h
  exact ⟨(World.cell?_of_block (w := W) he).trans h1, (World.cell?_of_block (w := W) he).trans h2, (World.cell?_of_block (w := W) he).trans h3, (World.cell?_of_block (w := W) he).trans h4, (World.cell?_of_block (w := W) he).trans h5, (World.cell?_of_block (w := W) he).trans h6, Nat.lt_of_lt_of_le h7 hs⟩
theorem K6.after {W w1 : World} {g : Nat} {a b c d e f : Value} (h : K6 W g a b c d e f) (hb : Below W.heap.size W w1) : K6 w1 g a b c d e f := K6.of_block h (hb.block g h.2.2.2.2.2.2) hb.size
theorem K6.off {x : Nat} {W w1 : World} {g : Nat} {a b c d e f : Value} (h : K6 W g a b c d e f) (hb : Off x W.heap.size W w1) (hc : g ≠ x) : K6 w1 g a b c d e f := K6.of_block h (hb.block g h.2.2.2.2.2.2 hc) hb.size

theorem K1.aft {W w1 : World} {g : Nat} {x : Value} (hb : Below W.heap.size W w1) (h : K1 W g x) : K1 w1 g x := K1.after h hb
theorem K2.aft {W w1 : World} {g : Nat} {x y : Value} (hb : Below W.heap.size W w1) (h : K2 W g x y) : K2 w1 g x y := K2.after h hb
theorem K6.aft {W w1 : World} {g : Nat} {a b c d e f : Value} (hb : Below W.heap.size W w1) (h : K6 W g a b c d e f) : K6 w1 g a b c d e f := K6.after h hb
theorem K1.oft {c : Nat} {W w1 : World} {g : Nat} {x : Value} (hb : Off c W.heap.size W w1) (h : K1 W g x) (hc : g ≠ c) : K1 w1 g x := K1.off h hb hc
theorem K2.oft {c : Nat} {W w1 : World} {g : Nat} {x y : Value} (hb : Off c W.heap.size W w1) (h : K2 W g x y) (hc : g ≠ c) : K2 w1 g x y := K2.off h hb hc
theorem K6.oft {x : Nat} {W w1 : World} {g : Nat} {a b c d e f : Value} (hb : Off x W.heap.size W w1) (h : K6 W g a b c d e f) (hc : g ≠ x) : K6 w1 g a b c d e f := K6.off h hb hc

theorem K1.alloc {W : World} {g : Nat} {x : Value} (h : K1 W g x) (o : Obj) : K1 (W.alloc o) g x := K1.after h ((Below.refl W.heap.size W).alloc (Nat.le_refl _) o)
theorem K2.alloc {W : World} {g : Nat} {x y : Value} (h : K2 W g x y) (o : Obj) : K2 (W.alloc o) g x y := K2.after h ((Below.refl W.heap.size W).alloc (Nat.le_refl _) o)
theorem K6.alloc {W : World} {g : Nat} {a b c d e f : Value} (h : K6 W g a b c d e f) (o : Obj) : K6 (W.alloc o) g a b c d e f := K6.after h ((Below.refl W.heap.size W).alloc (Nat.le_refl _) o)
theorem K1.new (W : World) (x : Value) (t : TypeId) : K1 (W.alloc (.cells #[x] t)) W.heap.size x := B1.new W x t
theorem K2.new (W : World) (x y : Value) (t : TypeId) : K2 (W.alloc (.cells #[x, y] t)) W.heap.size x y := B2.new W x y t
theorem K6.new (W : World) (a b c d e f : Value) (t : TypeId) : K6 (W.alloc (.cells #[a, b, c, d, e, f] t)) W.heap.size a b c d e f := by simp [K6, go_sem]
theorem K2.new1d (w : World) (o : Obj) (x y : Value) (t : TypeId) : K2 (((w.alloc o).alloc (.cells #[x, y] t)).drew) (w.heap.size + 1) x y := by
  have := K2.new (w.alloc o) x y t
  rw [World.size_alloc] at this
  exact this
theorem K2.newd (w : World) (x y : Value) (t : TypeId) : K2 ((w.alloc (.cells #[x, y] t)).drew) w.heap.size x y := K2.new w x y t
theorem K2.set {W : World} {g : Nat} {x y : Value} (h : K2 W g x y) (u v : Value) : K2 ((W.setCell ⟨g, 0, none⟩ u).setCell ⟨g, 1, none⟩ v) g u v := B2.set h u v
theorem K1.set {W : World} {g : Nat} {x : Value} (h : K1 W g x) (u : Value) : K1 (W.setCell ⟨g, 0, none⟩ u) g u := B1.set h u
theorem K1.far2 {W : World} {g : Nat} {x : Value} (h : K1 W g x) {g' : Nat} (hne : g ≠ g') (u v : Value) : K1 ((W.setCell ⟨g', 0, none⟩ u).setCell ⟨g', 1, none⟩ v) g x := B1.set2 h hne
theorem K1.far {W : World} {g : Nat} {x : Value} (h : K1 W g x) {g' o : Nat} (hne : g ≠ g') (u : Value) : K1 (W.setCell ⟨g', o, none⟩ u) g x := B1.far h hne u
theorem K2.far {W : World} {g : Nat} {x y : Value} (h : K2 W g x y) {g' o : Nat} (hne : g ≠ g') (u : Value) : K2 (W.setCell ⟨g', o, none⟩ u) g x y := B2.far h hne u
theorem K6.far {W : World} {g : Nat} {a b c d e f : Value} (h : K6 W g a b c d e f) {g' o : Nat} (hne : g ≠ g') (u : Value) : K6 (W.setCell ⟨g', o, none⟩ u) g a b c d e f :=
  K6.of_block h (block_far hne) (by rw [size_setCell]; exact Nat.le_refl _)

theorem K6.far2 {W : World} {g : Nat} {a b c d e f : Value} (h : K6 W g a b c d e f) {g' : Nat} (hne : g ≠ g') (u v : Value) : K6 ((W.setCell ⟨g', 0, none⟩ u).setCell ⟨g', 1, none⟩ v) g a b c d e f := K6.far (K6.far h hne u) hne v

/-- a slice that reads as the cells xs (n elements of size cells each); its block has elements of type t and a number from lo on, below hi -/
def RdG (t : TypeId) (size : Nat) (w : World) (lo hi : Nat) (v : Value) (n : Nat) (xs : List Value) : Prop :=
  xs.length = n * size ∧ ∃ A c, v = .slice A n c ∧ n ≤ c ∧ n ≤ maxLen ∧ (0 < n → ∃ b off cs fr, A = some ⟨b, off, none⟩ ∧ lo ≤ b ∧ b < hi ∧ w.heap[b]? = some (.cells cs t fr) ∧ ∀ j u, xs[j]? = some u → cs[off + j]? = some u)

section
variable {t : TypeId} {size : Nat} {w W : World} {lo hi : Nat} {v : Value} {n : Nat} {xs : List Value}
theorem RdG.of_blocks (h : RdG t size w lo hi v n xs) (hk : ∀ b, lo ≤ b → b < hi → b < w.heap.size → (∃ cs fr, w.heap[b]? = some (.cells cs t fr)) → W.heap[b]? = w.heap[b]?) : RdG t size W lo hi v n xs := by
  obtain ⟨h1, A, c, hv, h2, h3, h4⟩ := h
  refine ⟨h1, A, c, hv, h2, h3, fun hn => ?_⟩
  obtain ⟨b, off, cs, fr, hA, hlo, hhi, hb, hc⟩ := h4 hn
  exact ⟨b, off, cs, fr, hA, hlo, hhi, (hk b hlo hhi (Array.getElem?_eq_some_iff.1 hb).1 ⟨cs, fr, hb⟩).trans hb, hc⟩
theorem RdG.after (h : RdG t size w lo hi v n xs) (hb : Below w.heap.size w W) : RdG t size W lo hi v n xs := h.of_blocks fun b _ _ hb' _ => hb.block b hb'
theorem RdG.off {c : Nat} (h : RdG t size w lo hi v n xs) (hb : Off c w.heap.size w W) (hc : c < lo) : RdG t size W lo hi v n xs := h.of_blocks fun b hl _ hb' _ => hb.block b hb' (by omega)
theorem RdG.grownB {row : Option Nat} (h : RdG t size w lo hi v n xs) (hg : w.grownBy W row) (hr : ∀ g, row = some g → hi ≤ g) : RdG t size W lo hi v n xs :=
  h.of_blocks fun b _ hh hb' _ => hg.block b hb' (fun e => by have := hr b e.symm; omega)
theorem RdG.grownT {base : Nat} {e : TypeId} {sz m : Nat} {u : Value} {ys : List Value} (h : RdG t size w lo hi v n xs) (hg : w.grownBy W u.ownBlock) (ho : w.ownsRow base e sz u m ys) (hne : e ≠ t) : RdG t size W lo hi v n xs :=
  h.of_blocks fun b _ _ hb' ⟨cs, fr, hcs⟩ => hg.block b hb' (fun he => by
    rcases ho.2 with ⟨rfl, _⟩ | ⟨g, cap, cur, rfl, _, hgg, _⟩
    · simp [Value.ownBlock] at he
    · simp [Value.ownBlock] at he
      subst he
      rw [hcs] at hgg
      injection hgg with hgg
      injection hgg with _ h2
      exact hne h2.symm)
theorem RdG.mono {lo' hi' : Nat} (h : RdG t size w lo hi v n xs) (hl : lo' ≤ lo) (hh : hi ≤ hi') : RdG t size w lo' hi' v n xs := by
  obtain ⟨h1, A, c, hv, h2, h3, h4⟩ := h
  refine ⟨h1, A, c, hv, h2, h3, fun hn => ?_⟩
  obtain ⟨b, off, cs, fr, hA, hlo, hhi, hb, hc⟩ := h4 hn
  exact ⟨b, off, cs, fr, hA, by omega, by omega, hb, hc⟩
theorem RdG.of_own (h : w.ownsRow lo t size v n xs) : RdG t size w lo w.heap.size v n xs := by
  refine ⟨h.1, ?_⟩
  rcases h.2 with ⟨rfl, h0⟩ | ⟨g, cap, cur, rfl, hb, hg, h1, h2, h3, h4⟩
  · exact ⟨none, 0, by rw [h0], by omega, by simp [h0, maxLen], fun hn => by omega⟩
  · refine ⟨_, cap, rfl, h1, by omega, fun _ => ⟨g, 0, cur, _, rfl, hb, (Array.getElem?_eq_some_iff.1 hg).1, hg, ?_⟩⟩
    intro j u hu
    rw [← h4, List.getElem?_take] at hu
    split at hu
    · simpa using hu
    · cases hu
/-- the value, written out, and its cells -/
theorem RdG.form (h : RdG t size w lo hi v n xs) : ∃ A c, v = .slice A n c ∧ n ≤ c ∧ n ≤ 9223372036854775807 := by
  obtain ⟨h1, A, c, hv, h2, h3, h4⟩ := h
  exact ⟨A, c, hv, h2, by unfold maxLen at h3; omega⟩
theorem RdG.cells {A : Option Addr} {c : Nat} (h : RdG t size w lo hi (.slice A n c) n xs) (hn : 0 < n) : ∃ b off, A = some ⟨b, off, none⟩ ∧ lo ≤ b ∧ b < hi ∧ b < w.heap.size ∧ ∀ j u, xs[j]? = some u → w.cell? ⟨b, off + j, none⟩ = some u := by
  obtain ⟨h1, A', c', hv, h2, h3, h4⟩ := h
  injection hv with hA _ hc
  subst hA
  obtain ⟨b, off, cs, fr, hA, hlo, hhi, hb, hc⟩ := h4 hn
  refine ⟨b, off, hA, hlo, hhi, (Array.getElem?_eq_some_iff.1 hb).1, fun j u hu => ?_⟩
  rw [cell_of_row w b (off + j) cs t fr hb]
  exact hc j u hu
end

theorem own_off {c : Nat} {w W : World} {base : Nat} {e : TypeId} {size n : Nat} {v : Value} {xs : List Value} (h : w.ownsRow base e size v n xs) (ho : Off c w.heap.size w W) (hc : c < base) : W.ownsRow base e size v n xs :=
  h.kept ho.grownBy (by
    cases hv : v.ownBlock with
    | none => exact .inl rfl
    | some k =>
      right
      intro he
      injection he with he
      have := h.lt k hv
      omega)
theorem own_below {w W : World} {base : Nat} {e : TypeId} {size n : Nat} {v : Value} {xs : List Value} (h : w.ownsRow base e size v n xs) (hb : Below w.heap.size w W) : W.ownsRow base e size v n xs := by
  obtain ⟨h1, h2⟩ := h
  refine ⟨h1, ?_⟩
  rcases h2 with h2 | ⟨g, cap, cur, hv, hg, hh, r⟩
  · exact Or.inl h2
  · exact Or.inr ⟨g, cap, cur, hv, hg, (hb.block g (Array.getElem?_eq_some_iff.1 hh).1).trans hh, r⟩

/-- what an append onto a row of the call's own leaves below block N, if that row is not below N -/
theorem Off.grown {c N : Nat} {w W W' : World} {row : Option Nat} (h : Off c N w W) (hg : W.grownBy W' row) (hN : N ≤ W.heap.size) (hr : ∀ g, row = some g → N ≤ g) : Off c N w W' :=
  h.trans ⟨hg.os, hg.tape, hg.output, hg.size, fun k hk _ => hg.block k (by omega) (fun e => by have := hr k e.symm; omega)⟩
theorem K1.grown {W w1 : World} {g : Nat} {x : Value} {row : Option Nat} (h : K1 W g x) (hg : W.grownBy w1 row) (hr : ∀ k, row = some k → g < k) : K1 w1 g x :=
  B1.of_block h (hg.block g h.2.2 (fun e => by have := hr g e.symm; omega)) hg.size
theorem K2.grown {W w1 : World} {g : Nat} {x y : Value} {row : Option Nat} (h : K2 W g x y) (hg : W.grownBy w1 row) (hr : ∀ k, row = some k → g < k) : K2 w1 g x y :=
  B2.of_block h (hg.block g h.2.2.2.2 (fun e => by have := hr g e.symm; omega)) hg.size
theorem K6.grown {W w1 : World} {g : Nat} {a b c d e f : Value} {row : Option Nat} (h : K6 W g a b c d e f) (hg : W.grownBy w1 row) (hr : ∀ k, row = some k → g < k) : K6 w1 g a b c d e f :=
  K6.of_block h (hg.block g h.2.2.2.2.2.2 (fun e => by have := hr g e.symm; omega)) hg.size

end Go.Proofs.Ythlgkomhnhkooaa
