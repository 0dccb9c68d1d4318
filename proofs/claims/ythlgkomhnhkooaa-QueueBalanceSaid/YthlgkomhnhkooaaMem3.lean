/-
  Words for memory: reading and writing rows of fractions of the call's own. Conditions: none.
-/
import Derived.Test.YthlgkomhnhkooaaQueue3
import Derived.Laws.MakeOwn
namespace Go.Proofs.Ythlgkomhnhkooaa
set_option linter.unusedSimpArgs false
set_option linter.unusedVariables false
open Go.RowKit

theorem flat_set : ∀ (l : List Fr) (i : Nat) (a : Fr), ((flat l).set (i * 2) (.int .i64 a.n)).set (i * 2 + 1) (.int .i64 a.d) = flat (l.set i a)
  | [], i, a => by simp [flat]
  | b :: l, 0, a => by simp [flat]
  | b :: l, i + 1, a => by
    rw [show (i + 1) * 2 = i * 2 + 1 + 1 by omega]
    simp only [flat, List.set_cons_succ]
    rw [flat_set l i a]
/-- an own row: its cells, none of them frozen -/
theorem own_at {w : World} {base g cap n : Nat} {t : TypeId} {l : List Fr} (h : w.ownsRow base t 2 (.slice (some ⟨g, 0, none⟩) n cap) n (flat l)) {i : Nat} {a : Fr} (hi : l[i]? = some a) :
    w.cell? ⟨g, i * 2, none⟩ = some (.int .i64 a.n) ∧ w.cell? ⟨g, i * 2 + 1, none⟩ = some (.int .i64 a.d) ∧ w.frozen? ⟨g, i * 2, none⟩ = false ∧ w.frozen? ⟨g, i * 2 + 1, none⟩ = false ∧ g < w.heap.size ∧ base ≤ g := by
  rcases h.2 with ⟨h0, _⟩ | ⟨g', c', cur, hv, hb, hg, _, _, hs, ht⟩
  · cases h0
  · injection hv with hA _ _
    injection hA with hA
    injection hA with hA
    subst hA
    have hf := flat_get hi
    have e : ∀ (j : Nat) (u : Value), (flat l)[j]? = some u → cur[j]? = some u := by
      intro j u hu
      rw [← ht, List.getElem?_take] at hu
      split at hu
      · simpa using hu
      · cases hu
    refine ⟨?_, ?_, by simp [World.frozen?, hg], by simp [World.frozen?, hg], (Array.getElem?_eq_some_iff.1 hg).1, hb⟩
    · rw [cell_of_row w g _ cur t (0, 0) hg]; exact e _ _ hf.1
    · rw [cell_of_row w g _ cur t (0, 0) hg]; exact e _ _ hf.2
theorem own_set {w : World} {base g cap n : Nat} {t : TypeId} {l : List Fr} (h : w.ownsRow base t 2 (.slice (some ⟨g, 0, none⟩) n cap) n (flat l)) {i : Nat} (hi : i < l.length) (a : Fr) :
    ((w.setCell ⟨g, i * 2, none⟩ (.int .i64 a.n)).setCell ⟨g, i * 2 + 1, none⟩ (.int .i64 a.d)).ownsRow base t 2 (.slice (some ⟨g, 0, none⟩) n cap) n (flat (l.set i a)) := by
  have hl := h.1
  rw [flat_len] at hl
  refine ⟨by rw [flat_len, List.length_set]; omega, ?_⟩
  rcases h.2 with ⟨h0, _⟩ | ⟨g', c', cur, hv, hb, hg, h1, h2, hs, ht⟩
  · cases h0
  · injection hv with hA _ hc
    injection hA with hA
    injection hA with hA
    subst hA hc
    refine .inr ⟨g, cap, (cur.setIfInBounds (i * 2) (.int .i64 a.n)).setIfInBounds (i * 2 + 1) (.int .i64 a.d), rfl, hb, ?_, h1, h2, by simp [hs], ?_⟩
    · simp [World.setCell, Array.getElem?_modify, hg]
    · rw [← flat_set, ← ht]
      simp only [Array.toList_setIfInBounds]
      rw [List.take_set, List.take_set]
/-- a store into one's own row keeps what is in other blocks -/
theorem below_set {N : Nat} {w : World} {g i j : Nat} {u v : Value} (hg : N ≤ g) : Below N w ((w.setCell ⟨g, i, none⟩ u).setCell ⟨g, j, none⟩ v) :=
  ((Below.refl N w).setCell (p := ⟨g, i, none⟩) hg u).setCell (p := ⟨g, j, none⟩) hg v

theorem made_flat (n : Nat) : (madeCells #[.int .i64 0, .int .i64 0] (n * 2)).toList = flat (List.replicate n ⟨0, 0⟩) := by
  have h1 : ∀ n, flat (List.replicate n ⟨0, 0⟩) = List.replicate (n * 2) (.int .i64 0) := by
    intro n
    induction n with
    | zero => rfl
    | succ n ih => rw [List.replicate_succ, show (n + 1) * 2 = n * 2 + 1 + 1 by omega, List.replicate_succ, List.replicate_succ, ← ih]; rfl
  rw [h1, List.eq_replicate_iff]
  refine ⟨by simp [size_madeCells], fun b hb => ?_⟩
  simp only [madeCells, Array.toList_map, List.mem_map] at hb
  obtain ⟨i, _, rfl⟩ := hb
  have : i % 2 = 0 ∨ i % 2 = 1 := by omega
  rcases this with h | h <;> simp [h]

theorem rep_get (n k : Nat) (h : k < n) : (List.replicate k zeroF ++ List.replicate (n - k) (⟨0, 0⟩ : Fr))[k]? = some ⟨0, 0⟩ := by
  rw [List.getElem?_append_right (by simp), List.getElem?_replicate, if_pos (by simp; omega)]
theorem rep_set (n k : Nat) (h : k < n) : (List.replicate k zeroF ++ List.replicate (n - k) (⟨0, 0⟩ : Fr)).set k zeroF = List.replicate (k + 1) zeroF ++ List.replicate (n - (k + 1)) ⟨0, 0⟩ := by
  rw [show n - k = (n - (k + 1)) + 1 by omega, List.replicate_succ, List.set_append_right _ _ (by simp)]
  simp [List.replicate_succ', List.append_assoc]

set_option maxHeartbeats 1000000 in
theorem zeros_any (n : Nat) (w : World) (hn : n ≤ 1000) :
    Calls Try.prog 70 #[.int .i64 n] w fun e w' => ∃ g cap, e = .returned (.slice (some ⟨g, 0, none⟩) n cap) ∧ w.heap.size ≤ g ∧ w'.ownsRow w.heap.size 23 2 (.slice (some ⟨g, 0, none⟩) n cap) n (flat (List.replicate n zeroF)) ∧ Below w.heap.size w w' := by
  refine calls_cps fun R hR => ?_
  have HR := Lib.hid hR
  clear hR
  obtain ⟨i0, hi0, hz0, hz1, hz2⟩ := info_parts (P := Try.prog) (e := 23) (z := .agg #[.int .i64 0, .int .i64 0]) (size := 2) (bytes := 16) (by kernel_rfl)
  have hmk := fun (w : World) => run_make (P := Try.prog) w 27 23 i0 _ Try.underlying27 hi0 hz0 .i64 .i64 (n : Int) (n : Int) (by omega) (by omega) (by rw [hz2]; omega) (by omega)
  simp only [Int.toNat_natCast, hz1] at hmk
  go_enter Try.func70, Try.ntmps70
  go_wp2
  go_loopw [9] (fun v9 wr => ∃ k : Nat, k ≤ n ∧ v9 = .int .i64 k ∧ wr.ownsRow w.heap.size 23 2 (.slice (some ⟨w.heap.size, 0, none⟩) n n) n (flat (List.replicate k zeroF ++ List.replicate (n - k) ⟨0, 0⟩)) ∧ Below w.heap.size w wr) (fun v9 _ => n - (intOf v9).toNat)
  case atStart =>
    have e := own_lit w (madeCells #[.int .i64 0, .int .i64 0] (n * 2)) 23 w.heap.size 2 n (by rw [size_madeCells]) (by unfold maxLen; omega) (Nat.le_refl _)
    rw [made_flat] at e
    exact ⟨0, by omega, rfl, by simpa using e, (Below.refl _ _).alloc (Nat.le_refl _) _⟩
  case round =>
    obtain ⟨k, hk, rfl, ho, hb⟩ := hrel
    have HO := Lib.hid ho
    have HB := Lib.hid hb
    clear ho hb
    by_cases hlt : k < n
    · have hki : decide ((k : Int) < (n : Int)) = true := by simp; omega
      go_wp2_with fail
      refine (whole_any 0 _).mono ?_
      rintro e w1 ⟨rfl, hb1⟩
      have ho1 := own_below HO.out hb1
      have HO1 := Lib.hid ho1
      have HB1 := Lib.hid (Below.step HB.out hb1 HB.out.size)
      obtain ⟨c1, c2, c3, c4, c5, c6⟩ := own_at ho1 (i := k) (a := ⟨0, 0⟩) (rep_get n k hlt)
      clear ho1 hb1
      go_wp2
      go_roundw
      case rel =>
        refine ⟨k + 1, by omega, by go_num, ?_, HB1.out.trans (below_set (Nat.le_refl _))⟩
        have := own_set HO1.out (i := k) (by simp; omega) zeroF
        rw [rep_set n k hlt] at this
        exact this
      case measure => simp [intOf]; omega
    · have hki : decide ((k : Int) < (n : Int)) = false := by simp; omega
      obtain rfl : k = n := by omega
      go_wp2
      exact HR.out _ _ ⟨w.heap.size, k, rfl, Nat.le_refl _, by simpa using HO.out, HB.out⟩

end Go.Proofs.Ythlgkomhnhkooaa
