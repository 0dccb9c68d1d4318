/-
  Walks of casebookref22's one, Initial, Final, SameMarking, of slices.Equal at ints and strings, of casebookref42's state. Conditions: none.
-/
import Derived.Test.YtmhbfoaecebobaaFire3
namespace Go.Proofs.Ytmhbfoaecebobaa
set_option linter.unusedSimpArgs false
set_option linter.unusedVariables false
open Go.RowKit

/-- a list, returned: it lies in new memory -/
def RetL (w : World) (l : List Int) (e : Ending) (w' : World) : Prop :=
  ∃ A c, e = .returned (.slice A l.length c) ∧ RdI w' w.heap.size w'.heap.size (.slice A l.length c) l ∧ Below w.heap.size w w'
theorem RetL.mk {w w' : World} {l : List Int} {n k : Nat} {A : Option Addr} (hn : n = l.length) {lo hi : Nat} (hr : RdI w' lo hi (.slice A n k) l) (hlo : w.heap.size ≤ lo) (hhi : hi ≤ w'.heap.size) (hb : Below w.heap.size w w') : RetL w l (.returned (.slice A n k)) w' := by
  subst hn
  exact ⟨A, k, rfl, hr.mono hlo hhi, hb⟩

def oneR (p : Int) (k : Nat) : List Int := (List.range k).map fun (i : Nat) => if (i : Int) = p then 1 else 0
theorem oneR_succ (p : Int) (k : Nat) : oneR p (k + 1) = oneR p k ++ [if (k : Int) = p then 1 else 0] := by simp [oneR, List.range_succ]
theorem oneR_len (p : Int) (k : Nat) : (oneR p k).length = k := by simp [oneR]
theorem oneR_eq {p : Int} {k : Nat} (h0 : 0 ≤ p) : oneR p k = oneL k p := by
  obtain ⟨q, rfl⟩ := Int.eq_ofNat_of_zero_le h0
  unfold oneR oneL
  apply List.ext_getElem?
  intro i
  rw [List.getElem?_set, Int.toNat_natCast]
  by_cases hi : i < k
  · by_cases hq : q = i
    · subst hq; simp [hi]
    · have : ¬ (i : Int) = q := by omega
      simp [hi, hq, this]
  · by_cases hq : q = i
    · subst hq; simp [hi]
    · simp [hi, hq]

/-- two lists of one length, equal or not, element by element -/
def eqLs {α : Type} [DecidableEq α] : List α → List α → Bool
  | [], [] => true
  | x :: a, y :: b => if x = y then eqLs a b else false
  | _, _ => false
theorem eqLs_iff {α : Type} [DecidableEq α] : ∀ a b : List α, eqLs a b = decide (a = b)
  | [], [] => rfl
  | [], _ :: _ => by simp [eqLs]
  | _ :: _, [] => by simp [eqLs]
  | x :: a, y :: b => by
    rw [eqLs, eqLs_iff a b]
    by_cases h : x = y <;> simp [h]
theorem eqLs_len {α : Type} [DecidableEq α] {a b : List α} (h : a.length ≠ b.length) : decide (a = b) = false := by
  simp
  intro e
  exact h (by rw [e])

set_option maxHeartbeats 1000000 in
theorem equalI_any (a b : List Int) (lo hi lo2 hi2 : Nat) (v1 v2 : Value) (w : World) (h1 : RdI w lo hi v1 a) (h2 : RdI w lo2 hi2 v2 b) :
    Calls Try.prog 12 #[v1, v2] w fun e w' => e = .returned (.bool (decide (a = b))) ∧ Below w.heap.size w w' := by
  obtain ⟨A1, c1, rfl, hc1, hm1⟩ := h1.form
  obtain ⟨A2, c2, rfl, hc2, hm2⟩ := h2.form
  have H1 := Lib.hid h1
  have H2 := Lib.hid h2
  clear h1 h2
  refine calls_cps fun R hR => ?_
  have HR := Lib.hid hR
  clear hR
  go_enter Try.func12, Try.ntmps12
  by_cases hl : a.length = b.length
  · have hl' : (a.length : Int) = b.length := by omega
    have HL := Lib.hid hl
    clear hl
    go_wp2_with fail
    go_loopw [13, 5] (fun v13 _ wr => ∃ (k q : Nat), k ≤ a.length ∧ v13 = .int .i64 k ∧ wr = w.drewN q ∧ Hid (decide (a = b) = eqLs (a.drop k) (b.drop k))) (fun v13 _ _ => a.length - (intOf v13).toNat)
    case atStart => exact ⟨0, 0, by omega, rfl, rfl, Lib.hid (by rw [← eqLs_iff]; rfl)⟩
    case round =>
      obtain ⟨k, q, hk, rfl, rfl, HI⟩ := hrel
      by_cases hlt : k < a.length
      · have hkd : decide ((k : Int) < (a.length : Int)) = true := by simp; omega
        have hkb : (k : Int) < (a.length : Int) := by omega
        have hkc : (k : Int) < (b.length : Int) := by omega
        obtain ⟨b1, o1, rfl, _, _, f1⟩ := RdI.at1 H1.out hlt
        obtain ⟨b2, o2, rfl, _, _, f2⟩ := RdI.at1 H2.out (k := k) (by have := HL.out; omega)
        have HJ : Hid (decide (a = b) = if gti a k = gti b k then eqLs (a.drop (k + 1)) (b.drop (k + 1)) else false) := Lib.hid (by rw [HI.out, drop_gti hlt, drop_gti (l := b) (k := k) (by have := HL.out; omega), eqLs])
        generalize gti a k = x at *
        generalize gti b k = y at *
        go_wp2
        go_quiet (fail)
        go_wp2
        all_goals have hj := HJ.out
        · refine HR.out _ _ ⟨ret_bool ?_, below_drewN (below_drewN (Below.refl _ _) _) _⟩
          clear HJ HI; go_light; grind
        all_goals first
          | (refine ⟨⟨k + 1, q + nq, by omega, by go_num, by first | rfl | rw [World.drewN_drewN], Lib.hid (by clear HJ HI; go_light; grind)⟩, by simp [intOf]; omega⟩)
      · have hkd : decide ((k : Int) < (a.length : Int)) = false := by simp; omega
        have HE : Hid (decide (a = b) = true) := Lib.hid (by rw [HI.out, List.drop_eq_nil_of_le (by omega), List.drop_eq_nil_of_le (by have := HL.out; omega)]; rfl)
        clear HI
        go_wp2
        exact HR.out _ _ ⟨ret_bool HE.out.symm, below_drewN (Below.refl _ _) _⟩
  · have hl' : ¬ (a.length : Int) = b.length := by omega
    have HL := Lib.hid hl
    clear hl
    go_wp2_with fail
    exact HR.out _ _ ⟨ret_bool (eqLs_len HL.out).symm, Below.refl _ _⟩

end Go.Proofs.Ytmhbfoaecebobaa
