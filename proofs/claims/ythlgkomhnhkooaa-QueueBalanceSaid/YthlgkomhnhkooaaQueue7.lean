/-
  The memory of casebook/queue's stationary, in its loops. Conditions: none.
-/
import Derived.Test.YthlgkomhnhkooaaQueue5
import Derived.Test.YthlgkomhnhkooaaQSpec5
namespace Go.Proofs.Ythlgkomhnhkooaa
set_option linter.unusedSimpArgs false
set_option linter.unusedVariables false
open Go.RowKit

structure SI (cb qb hi N : Nat) (w : World) (ar se : Fr) (sv cp : Nat) (rowsV bV : Value) (rows b : List (List Fr)) (g cap : Nat) (wl : List Fr) (W : World) (x : Int) : Prop where
  c : K1 W cb (.int .i64 x)
  q : K6 W qb (.int .i64 ar.n) (.int .i64 ar.d) (.int .i64 se.n) (.int .i64 se.d) (.int .i64 sv) (.int .i64 cp)
  rr : RdFF W (qb + 1) hi rowsV rows
  rb : RdFF W (qb + 1) hi bV b
  of : Off cb N w W
  wr : W.ownsRow hi 23 2 (.slice (some ⟨g, 0, none⟩) (cp + 1) cap) (cp + 1) (flat wl)
  hs : hi ≤ W.heap.size
  lt : cb < qb + 1 ∧ cb ≠ qb ∧ qb < hi ∧ N ≤ qb + 1

section
variable {cb qb hi N : Nat} {w : World} {ar se : Fr} {sv cp : Nat} {rowsV bV : Value} {rows b : List (List Fr)} {g cap : Nat} {wl : List Fr} {W : World} {x : Int}
theorem SI.off {W' : World} {x' : Int} (h : SI cb qb hi N w ar se sv cp rowsV bV rows b g cap wl W x) (ho : Off cb W.heap.size W W') (hc : K1 W' cb (.int .i64 x')) : SI cb qb hi N w ar se sv cp rowsV bV rows b g cap wl W' x' := by
  have hl := h.lt
  have hh := h.hs
  exact { c := hc, q := K6.off h.q ho (by omega), rr := h.rr.off ho (by omega), rb := h.rb.off ho (by omega), of := h.of.step ho (by omega), wr := own_off h.wr ho (by omega), hs := Nat.le_trans h.hs ho.size, lt := h.lt }
theorem SI.below {W' : World} (h : SI cb qb hi N w ar se sv cp rowsV bV rows b g cap wl W x) (hbl : Below W.heap.size W W') : SI cb qb hi N w ar se sv cp rowsV bV rows b g cap wl W' x := h.off (Off.of_below hbl) (K1.after h.c hbl)
theorem SI.drew (h : SI cb qb hi N w ar se sv cp rowsV bV rows b g cap wl W x) : SI cb qb hi N w ar se sv cp rowsV bV rows b g cap wl W.drew x := h.below (Below.refl _ W).drew
theorem SI.alloc (h : SI cb qb hi N w ar se sv cp rowsV bV rows b g cap wl W x) (o : Obj) : SI cb qb hi N w ar se sv cp rowsV bV rows b g cap wl (W.alloc o) x := h.below ((Below.refl _ W).alloc (Nat.le_refl _) o)
theorem SI.upd {W' : World} {wl' : List Fr} (h : SI cb qb hi N w ar se sv cp rowsV bV rows b g cap wl W x) (hb : Below hi W W') (ho : W'.ownsRow hi 23 2 (.slice (some ⟨g, 0, none⟩) (cp + 1) cap) (cp + 1) (flat wl')) : SI cb qb hi N w ar se sv cp rowsV bV rows b g cap wl' W' x := by
  have hl := h.lt
  have hh := h.hs
  exact { c := B1.of_block h.c (hb.block _ (by omega)) hb.size, q := K6.of_block h.q (hb.block _ (by omega)) hb.size, rr := h.rr.keep hb (Nat.le_refl _), rb := h.rb.keep hb (Nat.le_refl _), of := h.of.stepB hb (by omega), wr := ho, hs := Nat.le_trans hh hb.size, lt := h.lt }
/-- a store into the weights -/
theorem SI.put (h : SI cb qb hi N w ar se sv cp rowsV bV rows b g cap wl W x) {i : Nat} (hi' : i < wl.length) (a : Fr) :
    SI cb qb hi N w ar se sv cp rowsV bV rows b g cap (wl.set i a) ((W.setCell ⟨g, i * 2, none⟩ (.int .i64 a.n)).setCell ⟨g, i * 2 + 1, none⟩ (.int .i64 a.d)) x :=
  h.upd (below_set (h.wr.lt g rfl).1) (own_set h.wr hi' a)
/-- a store into a variable of the call's own -/
theorem SI.box (h : SI cb qb hi N w ar se sv cp rowsV bV rows b g cap wl W x) {s : Nat} (hs : hi ≤ s) (hg : s ≠ g) (u v : Value) :
    SI cb qb hi N w ar se sv cp rowsV bV rows b g cap wl ((W.setCell ⟨s, 0, none⟩ u).setCell ⟨s, 1, none⟩ v) x := by
  refine h.upd (below_set hs) ⟨h.wr.1, ?_⟩
  rcases h.wr.2 with h2 | ⟨g', cap', cur, hv, hg', hh', r⟩
  · exact Or.inl h2
  · refine Or.inr ⟨g', cap', cur, hv, hg', ?_, r⟩
    have : g' = g := by injection hv with hA; injection hA with hA; injection hA with hA; exact hA.symm
    rw [block_far (by omega), block_far (by omega)]
    exact hh'
theorem SI.glt (h : SI cb qb hi N w ar se sv cp rowsV bV rows b g cap wl W x) : g < W.heap.size ∧ hi ≤ g := ⟨(h.wr.lt g rfl).2, (h.wr.lt g rfl).1⟩
end
theorem K2.far' {W : World} {s : Nat} {x y : Value} (h : K2 W s x y) {g i j : Nat} (hne : s ≠ g) (u v : Value) : K2 ((W.setCell ⟨g, i, none⟩ u).setCell ⟨g, j, none⟩ v) s x y := K2.far (K2.far h hne u) hne v
theorem rw_get {rows : List (List Fr)} {m : Nat} (h : m < rows.length) : rows[m]? = some (rw' rows m) := by
  unfold rw'; rw [List.getElem?_eq_getElem h]; rfl

end Go.Proofs.Ythlgkomhnhkooaa
