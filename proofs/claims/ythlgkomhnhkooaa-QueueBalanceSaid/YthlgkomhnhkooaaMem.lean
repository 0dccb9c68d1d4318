/-
  More words for memory. Conditions: none.
-/
import Derived.Test.YthlgkomhnhkooaaBase
namespace Go.Proofs.Ythlgkomhnhkooaa
set_option linter.unusedSimpArgs false
set_option linter.unusedVariables false
open Go.RowKit

theorem B2.alloc {W : World} {g : Nat} {x y : Value} (h : B2 W g x y) (o : Obj) : B2 (W.alloc o) g x y :=
  B2.after ((Below.refl W.heap.size W).alloc (Nat.le_refl _) o) h h.lt
theorem block_far {W : World} {g g' o : Nat} {u : Value} (hne : g ≠ g') : (W.setCell ⟨g', o, none⟩ u).heap[g]? = W.heap[g]? := Below.heap_setCell _ _ _ _ hne
theorem B2.of_block {W W' : World} {g : Nat} {x y : Value} (h : B2 W g x y) (he : W'.heap[g]? = W.heap[g]?) (hs : W.heap.size ≤ W'.heap.size) : B2 W' g x y := by
  obtain ⟨h1, h2, h3, h4, h5⟩ := h
  exact ⟨(World.cell?_of_block (w := W) he).trans h1, (World.cell?_of_block (w := W) he).trans h2, (World.frozen?_of_block (w := W) he).trans h3, (World.frozen?_of_block (w := W) he).trans h4, Nat.lt_of_lt_of_le h5 hs⟩
theorem B1.of_block {W W' : World} {g : Nat} {x : Value} (h : B1 W g x) (he : W'.heap[g]? = W.heap[g]?) (hs : W.heap.size ≤ W'.heap.size) : B1 W' g x := by
  obtain ⟨h1, h2, h5⟩ := h
  exact ⟨(World.cell?_of_block (w := W) he).trans h1, (World.frozen?_of_block (w := W) he).trans h2, Nat.lt_of_lt_of_le h5 hs⟩
theorem size_setCell (W : World) (p : Addr) (u : Value) : (W.setCell p u).heap.size = W.heap.size := by simp [World.setCell]
theorem B2.far {W : World} {g : Nat} {x y : Value} (h : B2 W g x y) {g' o : Nat} (hne : g ≠ g') (u : Value) : B2 (W.setCell ⟨g', o, none⟩ u) g x y :=
  h.of_block (block_far hne) (by rw [size_setCell]; exact Nat.le_refl _)
theorem B1.far {W : World} {g : Nat} {x : Value} (h : B1 W g x) {g' o : Nat} (hne : g ≠ g') (u : Value) : B1 (W.setCell ⟨g', o, none⟩ u) g x :=
  h.of_block (block_far hne) (by rw [size_setCell]; exact Nat.le_refl _)
theorem B1.new (W : World) (x : Value) (t : TypeId) : B1 (W.alloc (.cells #[x] t)) W.heap.size x := by simp [B1, go_sem]
theorem B2.new (W : World) (x y : Value) (t : TypeId) : B2 (W.alloc (.cells #[x, y] t)) W.heap.size x y := by simp [B2, go_sem]

/-- a struct of two cells as the one result -/
theorem ret_B2 {fn : Func} {R : Ending → World → Prop} {a : Act} {w : World} {t : Tmp} {g : Nat} {x y : Value} (hres : fn.results = #[.cell t 23]) (hd : a.defers = [])
    (ht : a.tmps.getD t undef = .pointer (some ⟨g, 0, none⟩)) (hB : B2 w g x y) (hR : R (.returned (.agg #[x, y])) w) : bodyPost Try.prog fn R .ret a w := by
  obtain ⟨h1, h2, h3, h4, h5⟩ := hB
  rw [Array.getD_eq_getD_getElem?] at ht
  exact bodyPost_ret (by simp only [results, hres]; simp [go_sem, ht, h1, h2]) hd hR
/-- a struct of two cells and a slot as the two results -/
theorem ret_B2_tmp {fn : Func} {R : Ending → World → Prop} {a : Act} {w : World} {t u : Tmp} {g : Nat} {x y z : Value} (hres : fn.results = #[.cell t 23, .tmp u]) (hd : a.defers = [])
    (ht : a.tmps.getD t undef = .pointer (some ⟨g, 0, none⟩)) (hu : a.tmps.getD u undef = z) (hB : B2 w g x y) (hR : R (.returned (.tuple #[.agg #[x, y], z])) w) : bodyPost Try.prog fn R .ret a w := by
  obtain ⟨h1, h2, h3, h4, h5⟩ := hB
  rw [Array.getD_eq_getD_getElem?] at ht hu
  exact bodyPost_ret (by simp only [results, hres]; simp [go_sem, ht, hu, h1, h2]) hd hR

end Go.Proofs.Ythlgkomhnhkooaa
