/-
  Slices of booleans, and slices.Index and Contains at int and bool. Conditions: none.
-/
import Derived.Test.YtmhbfoaecebobaaWfP
import Derived.Test.YtmhbfoaecebobaaOwn
namespace Go.Proofs.Ytmhbfoaecebobaa
set_option linter.unusedSimpArgs false
set_option linter.unusedVariables false
open Go.RowKit

abbrev encO (x : Bool) : List Value := [.bool x]
abbrev RdO := Rd 1 encO
abbrev OwnO := Own 4 1 encO
abbrev Loc.owO (lo hi : Nat) (v : Value) (l : List Bool) : Loc := Loc.ow 4 1 encO lo hi v l
abbrev Loc.rdO (lo hi : Nat) (v : Value) (l : List Bool) : Loc := Loc.rd 1 encO lo hi v l
theorem ti_bool : TI 109 4 1 1 (.bool false) := TI.mk Try.underlying109 (by kernel_rfl) rfl (by decide)
theorem RdO.at1 {w : World} {lo hi : Nat} {A : Option Addr} {c : Nat} {l : List Bool} (h : RdO w lo hi (.slice A l.length c) l) {k : Nat} (hk : k < l.length) :
    ∃ b off, A = some ⟨b, off, none⟩ ∧ lo ≤ b ∧ b < hi ∧ C1 w b (off + k) (.bool (gti l k)) := by
  obtain ⟨b, off, hA, h1, h2, hc⟩ := Rd.at_ h (fun _ => rfl) (gti_get hk)
  exact ⟨b, off, hA, h1, h2, by have := hc 0 _ rfl; rw [Nat.mul_one] at this; exact this⟩
theorem OwnO.at1 {w : World} {lo hi g n cap : Nat} {l : List Bool} (h : OwnO w lo hi (.slice (some ⟨g, 0, none⟩) n cap) l) {k : Nat} (hk : k < l.length) :
    w.cell? ⟨g, k, none⟩ = some (.bool (gti l k)) ∧ w.frozen? ⟨g, k, none⟩ = false := by
  have := Own.cell h (fun _ => rfl) (gti_get hk) (j := 0) (u := .bool (gti l k)) rfl
  simpa using this
theorem OwnO.set {w : World} {lo hi g n cap : Nat} {l : List Bool} (h : OwnO w lo hi (.slice (some ⟨g, 0, none⟩) n cap) l) (k : Nat) (x : Bool) :
    OwnO (w.setCell ⟨g, k, none⟩ (.bool x)) lo hi (.slice (some ⟨g, 0, none⟩) n cap) (l.set k x) := Own.set1 h (fun _ => rfl) rfl
theorem mk_bool {x : Int} {k : Nat} (h : x = k) (hk : k ≤ 1000000) : ∀ w : World, (Instr.makeSlice 109 (.int .i64 x) (.int .i64 x)).run Try.prog w = .ok (.slice (some ⟨w.heap.size, 0, none⟩) k k) (w.alloc (.cells (madeCells #[.bool false] k) 4)) := by
  intro w
  subst h
  have := run_mk ti_bool w k (by omega) (by omega)
  rw [Nat.mul_one] at this
  exact this
theorem OwnO.made (W : World) (n : Nat) (hn : n ≤ 1000000) : OwnO (W.alloc (.cells (madeCells #[.bool false] n) 4)) W.heap.size (W.heap.size + 1) (.slice (some ⟨W.heap.size, 0, none⟩) n n) (List.replicate n false) := by
  have := Own.made (enc := encO) ti_bool W W.heap.size n false rfl (Nat.le_refl _) (by omega) (fun _ => rfl)
  rw [Nat.mul_one] at this
  exact this
def idxG {α : Type} [DecidableEq α] (x : α) : Nat → List α → Int
  | _, [] => -1
  | k, a :: l => if x = a then (k : Int) else idxG x (k + 1) l
theorem idxG_ge {α : Type} [DecidableEq α] (x : α) : ∀ (l : List α) (k : Nat), decide (0 ≤ idxG x k l) = decide (x ∈ l)
  | [], k => by simp [idxG]
  | a :: l, k => by
    have ih := idxG_ge x l (k + 1)
    rw [idxG]
    by_cases h : x = a
    · rw [if_pos h]
      simp [h]
    · rw [if_neg h, ih]
      simp [h]
theorem dropG {α : Type} [Inhabited α] {l : List α} {k : Nat} (h : k < l.length) : l.drop k = gti l k :: l.drop (k + 1) := by
  rw [List.drop_eq_getElem_cons h]
  congr 1
  unfold gti
  rw [List.getElem?_eq_getElem h]
  rfl
set_option maxHeartbeats 1000000 in
theorem indexI_any (x : Int) (l : List Int) (lo hi : Nat) (v : Value) (w : World) (hv : RdI w lo hi v l) :
    Calls Try.prog 99 #[v, .int .i64 x] w fun e w' => e = .returned (.int .i64 (idxG x 0 l)) ∧ Below w.heap.size w w' := by
  obtain ⟨A, c, rfl, hc, hm⟩ := hv.form
  have HV := Lib.hid hv
  clear hv
  refine calls_cps fun R hR => ?_
  have HR := Lib.hid hR
  clear hR
  go_enter Try.func99, Try.ntmps99
  go_wp2_with fail
  go_loopw [8, 5] (fun v8 _ wr => ∃ (k q : Nat), k ≤ l.length ∧ v8 = .int .i64 k ∧ wr = w.drewN q ∧ Hid (idxG x 0 l = idxG x k (l.drop k))) (fun v8 _ _ => l.length - (intOf v8).toNat)
  case atStart => exact ⟨0, 0, by omega, rfl, rfl, Lib.hid rfl⟩
  case round =>
    obtain ⟨k, q, hk, rfl, rfl, HI⟩ := hrel
    by_cases hlt : k < l.length
    · have hkd : decide ((k : Int) < (l.length : Int)) = true := by simp; omega
      have hkb : (k : Int) < (l.length : Int) := by omega
      obtain ⟨b1, o1, rfl, _, _, f1⟩ := RdI.at1 HV.out hlt
      have HJ : Hid (idxG x 0 l = if x = gti l k then (k : Int) else idxG x (k + 1) (l.drop (k + 1))) := Lib.hid (by rw [HI.out, dropG hlt, idxG])
      generalize gti l k = y at *
      go_wp2
      all_goals have hj := HJ.out
      · refine HR.out _ _ ⟨ret_int ?_, below_drewN (Below.refl _ _) _⟩
        clear HJ HI; go_light; grind
      · refine ⟨⟨k + 1, q, by omega, by go_num, by first | rfl | (rw [World.drewN_drewN]), Lib.hid (by clear HJ HI; go_light; grind)⟩, by simp [intOf]; omega⟩
    · have hkd : decide ((k : Int) < (l.length : Int)) = false := by simp; omega
      have HE : Hid (idxG x 0 l = -1) := Lib.hid (by rw [HI.out, List.drop_eq_nil_of_le (by omega)]; rfl)
      clear HI
      go_wp2
      exact HR.out _ _ ⟨ret_int HE.out.symm, below_drewN (Below.refl _ _) _⟩
set_option maxHeartbeats 400000 in
theorem containsI_any (x : Int) (l : List Int) (lo hi : Nat) (v : Value) (w : World) (hv : RdI w lo hi v l) :
    Calls Try.prog 66 #[v, .int .i64 x] w fun e w' => e = .returned (.bool (decide (x ∈ l))) ∧ Below w.heap.size w w' := by
  have HI := Lib.hid (idxG_ge x l 0)
  have HV := Lib.hid hv
  clear hv
  have M : Hid (Mem [Loc.bl w.heap.size w] w) := Lib.hid ⟨⟨Below.refl _ _, Nat.le_refl _⟩, True.intro⟩
  refine calls_cps fun R hR => ?_
  have HR := Lib.hid hR
  clear hR
  go_enter Try.func66, Try.ntmps66
  go_wp2_with (go_at_call 99; refine (indexI_any x l lo hi _ _ (HV.out.after M.out.1.1)).mono ?_; rintro e w1 ⟨rfl, hb1⟩; replace M := Lib.hid (M.out.below hb1); clear hb1; skip)
  exact HR.out _ _ ⟨ret_bool HI.out, M.out.1.1⟩
set_option maxHeartbeats 1000000 in
theorem indexO_any (x : Bool) (l : List Bool) (lo hi : Nat) (v : Value) (w : World) (hv : RdO w lo hi v l) :
    Calls Try.prog 101 #[v, .bool x] w fun e w' => e = .returned (.int .i64 (idxG x 0 l)) ∧ Below w.heap.size w w' := by
  obtain ⟨A, c, rfl, hc, hm⟩ := hv.form
  have HV := Lib.hid hv
  clear hv
  refine calls_cps fun R hR => ?_
  have HR := Lib.hid hR
  clear hR
  go_enter Try.func101, Try.ntmps101
  go_wp2_with fail
  go_loopw [8, 5] (fun v8 _ wr => ∃ (k q : Nat), k ≤ l.length ∧ v8 = .int .i64 k ∧ wr = w.drewN q ∧ Hid (idxG x 0 l = idxG x k (l.drop k))) (fun v8 _ _ => l.length - (intOf v8).toNat)
  case atStart => exact ⟨0, 0, by omega, rfl, rfl, Lib.hid rfl⟩
  case round =>
    obtain ⟨k, q, hk, rfl, rfl, HI⟩ := hrel
    by_cases hlt : k < l.length
    · have hkd : decide ((k : Int) < (l.length : Int)) = true := by simp; omega
      have hkb : (k : Int) < (l.length : Int) := by omega
      obtain ⟨b1, o1, rfl, _, _, f1⟩ := RdO.at1 HV.out hlt
      have HJ : Hid (idxG x 0 l = if x = gti l k then (k : Int) else idxG x (k + 1) (l.drop (k + 1))) := Lib.hid (by rw [HI.out, dropG hlt, idxG])
      generalize gti l k = y at *
      go_wp2
      all_goals have hj := HJ.out
      · refine HR.out _ _ ⟨ret_int ?_, below_drewN (Below.refl _ _) _⟩
        clear HJ HI; go_light; grind
      · refine ⟨⟨k + 1, q, by omega, by go_num, by first | rfl | (rw [World.drewN_drewN]), Lib.hid (by clear HJ HI; go_light; grind)⟩, by simp [intOf]; omega⟩
    · have hkd : decide ((k : Int) < (l.length : Int)) = false := by simp; omega
      have HE : Hid (idxG x 0 l = -1) := Lib.hid (by rw [HI.out, List.drop_eq_nil_of_le (by omega)]; rfl)
      clear HI
      go_wp2
      exact HR.out _ _ ⟨ret_int HE.out.symm, below_drewN (Below.refl _ _) _⟩
set_option maxHeartbeats 400000 in
theorem containsO_any (x : Bool) (l : List Bool) (lo hi : Nat) (v : Value) (w : World) (hv : RdO w lo hi v l) :
    Calls Try.prog 68 #[v, .bool x] w fun e w' => e = .returned (.bool (decide (x ∈ l))) ∧ Below w.heap.size w w' := by
  have HI := Lib.hid (idxG_ge x l 0)
  have HV := Lib.hid hv
  clear hv
  have M : Hid (Mem [Loc.bl w.heap.size w] w) := Lib.hid ⟨⟨Below.refl _ _, Nat.le_refl _⟩, True.intro⟩
  refine calls_cps fun R hR => ?_
  have HR := Lib.hid hR
  clear hR
  go_enter Try.func68, Try.ntmps68
  go_wp2_with (go_at_call 101; refine (indexO_any x l lo hi _ _ (HV.out.after M.out.1.1)).mono ?_; rintro e w1 ⟨rfl, hb1⟩; replace M := Lib.hid (M.out.below hb1); clear hb1; skip)
  exact HR.out _ _ ⟨ret_bool HI.out, M.out.1.1⟩
end Go.Proofs.Ytmhbfoaecebobaa
