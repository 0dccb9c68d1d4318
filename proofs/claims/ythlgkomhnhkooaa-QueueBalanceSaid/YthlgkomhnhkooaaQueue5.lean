/-
  The memory of casebook/queue's chain, in its loops. Conditions: none.
-/
import Derived.Test.YthlgkomhnhkooaaMem3
import Derived.Test.YthlgkomhnhkooaaQSpec2
namespace Go.Proofs.Ythlgkomhnhkooaa
set_option linter.unusedSimpArgs false
set_option linter.unusedVariables false
open Go.RowKit

theorem RdFF.keep {N : Nat} {w W : World} {lo hi : Nat} {v : Value} {ll : List (List Fr)} (h : RdFF w lo hi v ll) (hb : Below N w W) (hN : hi ≤ N) : RdFF W lo hi v ll := by
  obtain ⟨vs, h1, h2⟩ := h
  exact ⟨vs, h1.of_blocks (fun k _ hk _ _ => hb.block k (by omega)), h2.1, fun i u l e1 e2 => RdG.of_blocks (h2.2 i u l e1 e2) (fun k _ hk _ _ => hb.block k (by omega))⟩

theorem cell_oft {c : Nat} {W W' : World} {b o : Nat} {v : Value} (ho : Off c W.heap.size W W') (h : W.cell? ⟨b, o, none⟩ = some v) (hne : b ≠ c) : W'.cell? ⟨b, o, none⟩ = some v :=
  (ho.cell (p := ⟨b, o, none⟩) (World.block_lt_of_cell? W _ h) hne).trans h
theorem RdFF.at2 {w : World} {lo hi bb boff c : Nat} {ll : List (List Fr)} (h : RdFF w lo hi (.slice (some ⟨bb, boff, none⟩) ll.length c) ll) {i : Nat} {l : List Fr} (hil : ll[i]? = some l) :
    lo ≤ bb ∧ bb < hi ∧ ∃ A c', w.cell? ⟨bb, boff + i, none⟩ = some (.slice A l.length c') ∧ RdF w lo hi (.slice A l.length c') l := by
  obtain ⟨us, h1, h2⟩ := h
  have hl : i < ll.length := (List.getElem?_eq_some_iff.1 hil).1
  obtain ⟨b, off, hA, hlo, hhi, hb, hc⟩ := RdG.cells h1 (by omega)
  injection hA with hA
  injection hA with e1 e2
  subst e1 e2
  obtain ⟨u, hu⟩ : ∃ u, us[i]? = some u := ⟨_, List.getElem?_eq_getElem (by rw [h2.1]; exact hl)⟩
  have hr := h2.2 i u l hu hil
  obtain ⟨A, c', rfl, _, _⟩ := RdF.form hr
  exact ⟨hlo, hhi, A, c', hc i _ hu, hr⟩
theorem RdF.at2 {w : World} {lo hi : Nat} {A : Option Addr} {c : Nat} {l : List Fr} (h : RdF w lo hi (.slice A l.length c) l) {i : Nat} {a : Fr} (hil : l[i]? = some a) :
    ∃ b off, A = some ⟨b, off, none⟩ ∧ lo ≤ b ∧ b < hi ∧ w.cell? ⟨b, off + i * 2, none⟩ = some (.int .i64 a.n) ∧ w.cell? ⟨b, off + i * 2 + 1, none⟩ = some (.int .i64 a.d) := by
  have hl : i < l.length := (List.getElem?_eq_some_iff.1 hil).1
  obtain ⟨b, off, hA, hlo, hhi, hb, hc⟩ := RdG.cells h (by omega)
  have := flat_get hil
  exact ⟨b, off, hA, hlo, hhi, hc _ _ this.1, by rw [Nat.add_assoc]; exact hc _ _ this.2⟩

/-- the inner loop's memory: all but the row lies below block hi -/
structure CI (cb nb qb hb hi N : Nat) (w : World) (ar se no : Fr) (sv cp n : Nat) (outV bV : Value) (us : List Value) (ll b : List (List Fr)) (g cap : Nat) (row : List Fr) (W : World) (x : Int) : Prop where
  c : K1 W cb (.int .i64 x)
  z : K2 W nb (.int .i64 no.n) (.int .i64 no.d)
  q : K6 W qb (.int .i64 ar.n) (.int .i64 ar.d) (.int .i64 se.n) (.int .i64 se.d) (.int .i64 sv) (.int .i64 cp)
  rb : RdFF W (qb + 1) hb bV b
  of : Off cb N w W
  out : W.ownsRow (nb + 1) 27 1 outV n us
  ob : ∀ k, outV.ownBlock = some k → k < hi
  al : All2 W (nb + 1) hi us ll
  row : W.ownsRow hi 23 2 (.slice (some ⟨g, 0, none⟩) (cp + 1) cap) (cp + 1) (flat row)
  hs : hi ≤ W.heap.size
  lt : cb < qb + 1 ∧ cb ≠ qb ∧ qb < nb ∧ hb ≤ nb ∧ nb < hi ∧ N ≤ qb + 1

section
variable {cb nb qb hb hi N : Nat} {w : World} {ar se no : Fr} {sv cp n : Nat} {outV bV : Value} {us : List Value} {ll b : List (List Fr)} {g cap : Nat} {row : List Fr} {W : World} {x : Int}
theorem CI.off {W' : World} {x' : Int} (h : CI cb nb qb hb hi N w ar se no sv cp n outV bV us ll b g cap row W x) (ho : Off cb W.heap.size W W') (hc : K1 W' cb (.int .i64 x')) : CI cb nb qb hb hi N w ar se no sv cp n outV bV us ll b g cap row W' x' := by
  have hl := h.lt
  have hh := h.hs
  exact { c := hc, z := K2.off h.z ho (by omega), q := K6.off h.q ho (by omega), rb := h.rb.off ho (by omega), of := h.of.step ho (by omega), out := own_off h.out ho (by omega), ob := h.ob, al := h.al.off ho (by omega), row := own_off h.row ho (by omega), hs := Nat.le_trans h.hs ho.size, lt := h.lt }
theorem CI.below {W' : World} (h : CI cb nb qb hb hi N w ar se no sv cp n outV bV us ll b g cap row W x) (hbl : Below W.heap.size W W') : CI cb nb qb hb hi N w ar se no sv cp n outV bV us ll b g cap row W' x :=
  h.off (Off.of_below hbl) (K1.after h.c hbl)
theorem CI.drew (h : CI cb nb qb hb hi N w ar se no sv cp n outV bV us ll b g cap row W x) : CI cb nb qb hb hi N w ar se no sv cp n outV bV us ll b g cap row W.drew x := h.below (Below.refl _ W).drew
theorem CI.drewN (h : CI cb nb qb hb hi N w ar se no sv cp n outV bV us ll b g cap row W x) (k : Nat) : CI cb nb qb hb hi N w ar se no sv cp n outV bV us ll b g cap row (W.drewN k) x := h.below (below_drewN (Below.refl _ W) k)
/-- a store into the row -/
theorem CI.put (h : CI cb nb qb hb hi N w ar se no sv cp n outV bV us ll b g cap row W x) {i : Nat} (hi' : i < row.length) (a : Fr) :
    CI cb nb qb hb hi N w ar se no sv cp n outV bV us ll b g cap (row.set i a) ((W.setCell ⟨g, i * 2, none⟩ (.int .i64 a.n)).setCell ⟨g, i * 2 + 1, none⟩ (.int .i64 a.d)) x := by
  have hl := h.lt
  have hh := h.hs
  have hg : hi ≤ g := (h.row.lt g rfl).1
  have hbl : Below hi W ((W.setCell ⟨g, i * 2, none⟩ (.int .i64 a.n)).setCell ⟨g, i * 2 + 1, none⟩ (.int .i64 a.d)) := below_set hg
  have hsz : W.heap.size ≤ ((W.setCell ⟨g, i * 2, none⟩ (.int .i64 a.n)).setCell ⟨g, i * 2 + 1, none⟩ (.int .i64 a.d)).heap.size := by rw [size_setCell, size_setCell]; exact Nat.le_refl _
  have hb' : ∀ k, k < hi → ((W.setCell ⟨g, i * 2, none⟩ (.int .i64 a.n)).setCell ⟨g, i * 2 + 1, none⟩ (.int .i64 a.d)).heap[k]? = W.heap[k]? := hbl.block
  have hbb : RdFF ((W.setCell ⟨g, i * 2, none⟩ (.int .i64 a.n)).setCell ⟨g, i * 2 + 1, none⟩ (.int .i64 a.d)) (qb + 1) hb bV b := by
    obtain ⟨vs, h1, h2⟩ := h.rb
    exact ⟨vs, h1.of_blocks (fun k _ hk _ _ => hb' k (by omega)), h2.1, fun i u l e1 e2 => RdG.of_blocks (h2.2 i u l e1 e2) (fun k _ hk _ _ => hb' k (by omega))⟩
  have hout : ((W.setCell ⟨g, i * 2, none⟩ (.int .i64 a.n)).setCell ⟨g, i * 2 + 1, none⟩ (.int .i64 a.d)).ownsRow (nb + 1) 27 1 outV n us := by
    refine ⟨h.out.1, ?_⟩
    rcases h.out.2 with h2 | ⟨g', cap', cur, hv, hg', hh', r⟩
    · exact Or.inl h2
    · exact Or.inr ⟨g', cap', cur, hv, hg', (hb' g' (h.ob g' (by rw [hv]; rfl))).trans hh', r⟩
  exact { c := B1.of_block h.c (hb' _ (by omega)) hsz, z := B2.of_block h.z (hb' _ (by omega)) hsz, q := K6.of_block h.q (hb' _ (by omega)) hsz, rb := hbb, of := h.of.stepB hbl (by omega), out := hout, ob := h.ob, al := ⟨h.al.1, fun i u l e1 e2 => RdG.of_blocks (h.al.2 i u l e1 e2) (fun k _ hk _ _ => hb' k (by omega))⟩, row := own_set h.row hi' a, hs := by omega, lt := h.lt }
end

end Go.Proofs.Ythlgkomhnhkooaa
