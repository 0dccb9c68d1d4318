/-
  The memory of casebook/queue's leave, in its loops. Conditions: none.
-/
import Derived.Test.YthlgkomhnhkooaaQueue2
namespace Go.Proofs.Ythlgkomhnhkooaa
set_option linter.unusedSimpArgs false
set_option linter.unusedVariables false
open Go.RowKit

theorem own_lit (W : World) (cs : Array Value) (t : TypeId) (base size n : Nat) (hs : cs.size = n * size) (hn : n ≤ maxLen) (hb : base ≤ W.heap.size) :
    (W.alloc (.cells cs t)).ownsRow base t size (.slice (some ⟨W.heap.size, 0, none⟩) n n) n cs.toList :=
  ⟨by simp [hs], .inr ⟨W.heap.size, n, cs, rfl, hb, heap_alloc_new W _, Nat.le_refl _, hn, hs, List.take_of_length_le (by simp [hs])⟩⟩
theorem own_ne {w : World} {base base' : Nat} {e e' : TypeId} {size size' n n' : Nat} {v v' : Value} {xs xs' : List Value} (h : w.ownsRow base e size v n xs) (h' : w.ownsRow base' e' size' v' n' xs') (hne : e ≠ e') : v.ownBlock = none ∨ v.ownBlock ≠ v'.ownBlock := by
  rcases h.2 with ⟨rfl, _⟩ | ⟨g, cap, cur, rfl, _, hg, _⟩
  · exact .inl rfl
  · right
    rcases h'.2 with ⟨rfl, _⟩ | ⟨g', cap', cur', rfl, _, hg', _⟩
    · simp [Value.ownBlock]
    · intro he
      simp [Value.ownBlock] at he
      subst he
      rw [hg] at hg'
      injection hg' with hg'
      injection hg' with _ h2
      exact hne h2

theorem own_cell {w : World} {base : Nat} {e : TypeId} {n g cap : Nat} {xs : List Value} (h : w.ownsRow base e 1 (.slice (some ⟨g, 0, none⟩) n cap) n xs) {j : Nat} {u : Value} (hj : xs[j]? = some u) : w.cell? ⟨g, j, none⟩ = some u := by
  have := h.cells (g := g) rfl j u hj
  have hadd : (⟨g, 0, none⟩ : Addr).add j = ⟨g, j, none⟩ := by unfold Addr.add; split <;> simp_all
  rw [hadd] at this
  exact this

/-- slices of fractions, one for each list -/
def All2 (w : World) (lo hi : Nat) (us : List Value) (ll : List (List Fr)) : Prop := us.length = ll.length ∧ ∀ (i : Nat) (u : Value) (l : List Fr), us[i]? = some u → ll[i]? = some l → RdF w lo hi u l
theorem All2.off {c : Nat} {w W : World} {lo hi : Nat} {us : List Value} {ll : List (List Fr)} (h : All2 w lo hi us ll) (hb : Off c w.heap.size w W) (hc : c < lo) : All2 W lo hi us ll := ⟨h.1, fun i u l h1 h2 => RdG.off (h.2 i u l h1 h2) hb hc⟩
theorem All2.grownB {row : Option Nat} {w W : World} {lo hi : Nat} {us : List Value} {ll : List (List Fr)} (h : All2 w lo hi us ll) (hg : w.grownBy W row) (hr : ∀ g, row = some g → hi ≤ g) : All2 W lo hi us ll := ⟨h.1, fun i u l h1 h2 => RdG.grownB (h.2 i u l h1 h2) hg hr⟩
theorem All2.grownT {base : Nat} {e : TypeId} {sz m : Nat} {v : Value} {ys : List Value} {w W : World} {lo hi : Nat} {us : List Value} {ll : List (List Fr)} (h : All2 w lo hi us ll) (hg : w.grownBy W v.ownBlock) (ho : w.ownsRow base e sz v m ys) (hne : e ≠ 23) : All2 W lo hi us ll := ⟨h.1, fun i u l h1 h2 => RdG.grownT (h.2 i u l h1 h2) hg ho hne⟩
theorem All2.mono {w : World} {lo hi hi' : Nat} {us : List Value} {ll : List (List Fr)} (h : All2 w lo hi us ll) (hh : hi ≤ hi') : All2 w lo hi' us ll := ⟨h.1, fun i u l h1 h2 => RdG.mono (h.2 i u l h1 h2) (Nat.le_refl _) hh⟩
theorem All2.snoc {w : World} {lo hi : Nat} {us : List Value} {ll : List (List Fr)} {u : Value} {l : List Fr} (h : All2 w lo hi us ll) (hu : RdF w lo hi u l) : All2 w lo hi (us ++ [u]) (ll ++ [l]) := by
  refine ⟨by simp [h.1], fun i u' l' h1 h2 => ?_⟩
  rcases Nat.lt_or_ge i us.length with hi' | hi'
  · rw [List.getElem?_append_left hi'] at h1
    rw [List.getElem?_append_left (by rw [← h.1]; exact hi')] at h2
    exact h.2 i u' l' h1 h2
  · rw [List.getElem?_append_right hi'] at h1
    rw [List.getElem?_append_right (by rw [← h.1]; exact hi')] at h2
    have h0 : i - us.length = 0 := by
      rcases Nat.eq_zero_or_pos (i - us.length) with h3 | h3
      · exact h3
      · rw [List.getElem?_eq_none (by simp; omega)] at h1; cases h1
    have h0' : i - ll.length = 0 := by rw [← h.1]; exact h0
    rw [h0] at h1
    rw [h0'] at h2
    simp at h1 h2
    subst h1 h2
    exact hu

/-- a slice of slices of fractions -/
def RdFF (w : World) (lo hi : Nat) (v : Value) (ll : List (List Fr)) : Prop := ∃ us, RdG 27 1 w lo hi v ll.length us ∧ All2 w lo hi us ll
theorem All2.after {w W : World} {lo hi : Nat} {us : List Value} {ll : List (List Fr)} (h : All2 w lo hi us ll) (hb : Below w.heap.size w W) : All2 W lo hi us ll := ⟨h.1, fun i u l h1 h2 => RdG.after (h.2 i u l h1 h2) hb⟩
theorem RdFF.after {w W : World} {lo hi : Nat} {v : Value} {ll : List (List Fr)} (h : RdFF w lo hi v ll) (hb : Below w.heap.size w W) : RdFF W lo hi v ll := by
  obtain ⟨us, h1, h2⟩ := h
  exact ⟨us, h1.after hb, h2.after hb⟩
theorem RdFF.off {c : Nat} {w W : World} {lo hi : Nat} {v : Value} {ll : List (List Fr)} (h : RdFF w lo hi v ll) (hb : Off c w.heap.size w W) (hc : c < lo) : RdFF W lo hi v ll := by
  obtain ⟨us, h1, h2⟩ := h
  exact ⟨us, h1.off hb hc, h2.off hb hc⟩
theorem RdFF.mono {w : World} {lo hi lo' hi' : Nat} {v : Value} {ll : List (List Fr)} (h : RdFF w lo hi v ll) (hl : lo' ≤ lo) (hh : hi ≤ hi') : RdFF w lo' hi' v ll := by
  obtain ⟨us, h1, h2⟩ := h
  exact ⟨us, h1.mono hl hh, h2.1, fun i u l a b => RdG.mono (h2.2 i u l a b) hl hh⟩
theorem RdFF.form {w : World} {lo hi : Nat} {v : Value} {ll : List (List Fr)} (h : RdFF w lo hi v ll) : ∃ A c, v = .slice A ll.length c ∧ ll.length ≤ c ∧ ll.length ≤ 9223372036854775807 := by
  obtain ⟨us, h1, h2⟩ := h
  exact h1.form
theorem RdFF.at_ {w : World} {lo hi : Nat} {A : Option Addr} {c : Nat} {ll : List (List Fr)} (h : RdFF w lo hi (.slice A ll.length c) ll) {i : Nat} {l : List Fr} (hil : ll[i]? = some l) :
    ∃ b off u, A = some ⟨b, off, none⟩ ∧ b < w.heap.size ∧ w.cell? ⟨b, off + i, none⟩ = some u ∧ RdF w lo hi u l := by
  obtain ⟨us, h1, h2⟩ := h
  have hl : i < ll.length := (List.getElem?_eq_some_iff.1 hil).1
  obtain ⟨b, off, hA, _, _, hb, hc⟩ := RdG.cells h1 (by omega)
  obtain ⟨u, hu⟩ : ∃ u, us[i]? = some u := ⟨_, List.getElem?_eq_getElem (by rw [h2.1]; exact hl)⟩
  exact ⟨b, off, u, hA, hb, hc i u hu, h2.2 i u l hu hil⟩

/-- the inner loop's memory -/
structure LI (cb sb qb bb lo hi N : Nat) (w : World) (ar se st : Fr) (sv cp J : Nat) (rowsV bv : Value) (us : List Value) (ll : List (List Fr)) (before : List Fr) (k : Nat) (rowV : Value) (row : List Fr) (W : World) (x : Int) : Prop where
  c : K1 W cb (.int .i64 x)
  s : K2 W sb (.int .i64 st.n) (.int .i64 st.d)
  q : K6 W qb (.int .i64 ar.n) (.int .i64 ar.d) (.int .i64 se.n) (.int .i64 se.d) (.int .i64 sv) (.int .i64 cp)
  b : K1 W bb bv
  bf : RdF W lo hi bv before
  of : Off cb N w W
  rows : W.ownsRow lo 27 1 rowsV J us
  al : All2 W lo hi us ll
  row : W.ownsRow hi 23 2 rowV k (flat row)
  hs : hi ≤ W.heap.size
  lt : cb < lo ∧ sb < lo ∧ qb < lo ∧ bb < hi ∧ lo ≤ hi ∧ N ≤ lo ∧ cb ≠ sb ∧ cb ≠ qb ∧ cb ≠ bb

section
variable {cb sb qb bb lo hi N : Nat} {w : World} {ar se st : Fr} {sv cp J : Nat} {rowsV bv : Value} {us : List Value} {ll : List (List Fr)} {before : List Fr} {k : Nat} {rowV : Value} {row : List Fr} {W : World} {x : Int}
theorem LI.off {W' : World} {x' : Int} (h : LI cb sb qb bb lo hi N w ar se st sv cp J rowsV bv us ll before k rowV row W x) (ho : Off cb W.heap.size W W') (hc : K1 W' cb (.int .i64 x')) : LI cb sb qb bb lo hi N w ar se st sv cp J rowsV bv us ll before k rowV row W' x' := by
  have hl := h.lt
  have hh := h.hs
  exact { c := hc, s := K2.off h.s ho (by omega), q := K6.off h.q ho (by omega), b := K1.off h.b ho (by omega), bf := RdG.off h.bf ho (by omega), of := h.of.step ho (by omega), rows := own_off h.rows ho (by omega), al := h.al.off ho (by omega), row := own_off h.row ho (by omega), hs := Nat.le_trans h.hs ho.size, lt := h.lt }
theorem LI.below {W' : World} (h : LI cb sb qb bb lo hi N w ar se st sv cp J rowsV bv us ll before k rowV row W x) (hb : Below W.heap.size W W') : LI cb sb qb bb lo hi N w ar se st sv cp J rowsV bv us ll before k rowV row W' x :=
  h.off (Off.of_below hb) (K1.after h.c hb)
theorem LI.drew (h : LI cb sb qb bb lo hi N w ar se st sv cp J rowsV bv us ll before k rowV row W x) : LI cb sb qb bb lo hi N w ar se st sv cp J rowsV bv us ll before k rowV row W.drew x :=
  h.below (Below.refl _ W).drew
theorem LI.grown {W' : World} {k' : Nat} {rowV' : Value} {row' : List Fr} (h : LI cb sb qb bb lo hi N w ar se st sv cp J rowsV bv us ll before k rowV row W x) (hg : W.grownBy W' rowV.ownBlock) (ho : W'.ownsRow hi 23 2 rowV' k' (flat row')) : LI cb sb qb bb lo hi N w ar se st sv cp J rowsV bv us ll before k' rowV' row' W' x := by
  have hl := h.lt
  have hh := h.hs
  have hr : ∀ g, rowV.ownBlock = some g → hi ≤ g := fun g hg => (h.row.lt g hg).1
  exact { c := K1.grown h.c hg (fun g e => by have := hr g e; omega), s := K2.grown h.s hg (fun g e => by have := hr g e; omega), q := K6.grown h.q hg (fun g e => by have := hr g e; omega), b := K1.grown h.b hg (fun g e => by have := hr g e; omega), bf := RdG.grownB h.bf hg hr, of := h.of.grown hg (by omega) (fun g e => by have := hr g e; omega), rows := h.rows.kept hg (own_ne h.rows h.row (by decide)), al := h.al.grownB hg hr, row := ho, hs := Nat.le_trans h.hs hg.size, lt := h.lt }
end

end Go.Proofs.Ythlgkomhnhkooaa
