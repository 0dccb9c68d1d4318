/-
  Walks of casebookref21's Valid and Marking, casebookref02's Names, casebookref42's IsWord and Few. Conditions: none.
-/
import Derived.Test.YtmhbfoaecebobaaValid
namespace Go.Proofs.Ytmhbfoaecebobaa
set_option linter.unusedSimpArgs false
set_option linter.unusedVariables false
open Go.RowKit

def valid2L (n : Net) : List Tr → Bool
  | [] => true
  | t :: ts => if trB n.places t then valid2L n ts else false
def valid2B (n : Net) : Bool := if n.places < 1 ∨ 40 < n.places ∨ 60 < n.trans.length ∨ n.source < 0 ∨ n.places ≤ n.source ∨ n.sink < 0 ∨ n.places ≤ n.sink then false else valid2L n n.trans
theorem placesB_one (n x : Int) : placesB n [x] = (decide (0 ≤ x) && decide (x < n)) := by
  simp [placesB, badP, gti, List.range_succ]
  grind
theorem validL_eq (n : Net) : ∀ l, validL n l = (valid2L n l && (placesB n.places [n.source] && placesB n.places [n.sink]))
  | [] => by simp [validL, valid2L]
  | t :: ts => by
    simp only [validL, valid2L]
    rw [validL_eq n ts]
    cases trB n.places t <;> simp
theorem valid2_eq (n : Net) : valid2B n = validB n := by
  unfold valid2B validB
  rw [validL_eq, placesB_one, placesB_one]
  grind

set_option maxHeartbeats 2000000 in
theorem rvalid_any (n : Net) (vt : Value) (lo hi : Nat) (w : World) (hv : RdT w lo hi vt n.trans) :
    Calls Try.prog 49 #[netV n vt] w fun e w' => e = .returned (.bool (validB n)) ∧ Below w.heap.size w w' := by
  rw [← valid2_eq]
  obtain ⟨A, c, rfl, hc, hm⟩ := hv.form
  have HV := Lib.hid hv
  clear hv
  refine calls_cps fun R hR => ?_
  have HR := Lib.hid hR
  clear hR
  go_enter Try.func49, Try.ntmps49
  have M : Hid (Mem [Loc.k4 w.heap.size (.int .i64 n.places) (.slice A n.trans.length c) (.int .i64 n.source) (.int .i64 n.sink), Loc.bl w.heap.size w] (w.alloc (.cells #[.int .i64 n.places, .slice A n.trans.length c, .int .i64 n.source, .int .i64 n.sink] 24))) := Lib.hid ⟨K4.new w _ _ _ _ _, ⟨(Below.refl _ _).alloc (Nat.le_refl _) _, by simp⟩, True.intro⟩
  have hk4 := M.out.1
  go_wp2_with fail
  all_goals (try ((with_reducible refine HR.out _ _ ⟨?_, ?_⟩) <;> first | exact ret_bool (by go_light; grind [valid2B]) | exact M.out.2.1.1))
  have HI : Hid (valid2B n = valid2L n n.trans) := Lib.hid (by go_light; grind [valid2B])
  generalize w.alloc (.cells #[.int .i64 n.places, .slice A n.trans.length c, .int .i64 n.source, .int .i64 n.sink] 24) = W at *
  go_loopw [3, 4] (fun v3 _ wr => ∃ k : Nat, k ≤ n.trans.length ∧ v3 = .int .i64 k ∧ Hid (valid2B n = valid2L n (n.trans.drop k)) ∧ Hid (Mem [Loc.k4 w.heap.size (.int .i64 n.places) (.slice A n.trans.length c) (.int .i64 n.source) (.int .i64 n.sink), Loc.bl w.heap.size w] wr)) (fun v3 _ _ => n.trans.length - (intOf v3).toNat)
  case atStart => exact ⟨0, by omega, rfl, HI, M⟩
  case round =>
    clear M HI
    obtain ⟨k, hk, rfl, HI, HM⟩ := hrel
    have hk4 := HM.out.1
    by_cases hlt : k < n.trans.length
    · obtain ⟨b, off, vi, vo, rfl, _, _, hcell, hri, hro⟩ := RdT.at3 (HV.out.after HM.out.2.1.1) hlt
      have HD := Lib.hid (drop_gti hlt)
      obtain ⟨Ai, ci, rfl, hci, hmi⟩ := hri.form
      obtain ⟨Ao, co, rfl, hco, hmo⟩ := hro.form
      generalize gti n.trans k = t at *
      obtain ⟨lab, tin, tout⟩ := t
      simp only at hri hro hcell hci hmi hco hmo
      have M : Mem [Loc.k4 w.heap.size (.int .i64 n.places) (.slice (some ⟨b, off, none⟩) n.trans.length c) (.int .i64 n.source) (.int .i64 n.sink), Loc.bl w.heap.size w, Loc.k3 wr.heap.size (.string lab) (.slice Ai tin.length ci) (.slice Ao tout.length co), Loc.rd 1 encI lo hi (.slice Ai tin.length ci) tin, Loc.rd 1 encI lo hi (.slice Ao tout.length co) tout] (wr.alloc (.cells #[.string lab, .slice Ai tin.length ci, .slice Ao tout.length co] 46)) := 
        ⟨K4.aft ((Below.refl _ _).alloc (Nat.le_refl _) _) hk4, ⟨(HM.out.2.1.1).alloc HM.out.2.1.2 _, by have := HM.out.2.1.2; simp; omega⟩, K3.new wr _ _ _ _, Rd.after hri ((Below.refl _ _).alloc (Nat.le_refl _) _), Rd.after hro ((Below.refl _ _).alloc (Nat.le_refl _) _), True.intro⟩
      clear hri hro
      replace M := Lib.hid M
      have hq4 := M.out.1
      have hq3 := M.out.2.2.1
      go_wp2_with (first
        | (go_at_call 87; refine (isName2_any _ _).mono ?_; rintro e w1 ⟨rfl, hb1⟩; replace M := Lib.hid (M.out.below hb1); clear hb1; replace hq4 := M.out.1; replace hq3 := M.out.2.2.1)
        | (go_at_call 88; refine (places2_any _ _ lo hi _ _ (by first | exact M.out.2.2.2.1 | exact M.out.2.2.2.2.1)).mono ?_; rintro e w1 ⟨rfl, hb1⟩; replace M := Lib.hid (M.out.below hb1); clear hb1; replace hq4 := M.out.1; replace hq3 := M.out.2.2.1))
      all_goals (have HJ : valid2B n = if trB n.places ⟨lab, tin, tout⟩ then valid2L n (n.trans.drop (k + 1)) else false := by rw [HI.out, HD.out]; rfl)
      all_goals first
        | ((with_reducible refine HR.out _ _ ⟨?_, ?_⟩) <;> first | exact ret_bool (by go_light; grind [trB]) | exact M.out.2.1.1)
        | (refine ⟨⟨k + 1, by omega, by go_num, Lib.hid (by go_light; grind [trB]), Lib.hid ⟨M.out.1, M.out.2.1, True.intro⟩⟩, by simp [intOf]; omega⟩)
    · obtain rfl : k = n.trans.length := by omega
      have HE : Hid (valid2B n = true) := Lib.hid (by rw [HI.out]; simp [valid2L])
      clear HI
      go_wp2_with fail
      all_goals ((with_reducible refine HR.out _ _ ⟨?_, ?_⟩) <;> first | exact ret_bool (by rw [HE.out]) | exact HM.out.2.1.1)

def all01 : List Int → Bool
  | [] => true
  | k :: l => if k < 0 ∨ 100 < k then false else all01 l
def mark2B (n : Net) (m : List Int) : Bool := if (m.length : Int) ≠ n.places then false else all01 m
set_option maxHeartbeats 2000000 in
theorem rmarking_any (n : Net) (vt : Value) (m : List Int) (v : Value) (lo hi : Nat) (w : World) (hv : RdI w lo hi v m) :
    Calls Try.prog 86 #[netV n vt, v] w fun e w' => e = .returned (.bool (mark2B n m)) ∧ Below w.heap.size w w' := by
  obtain ⟨A, c, rfl, hc, hm⟩ := hv.form
  have HV := Lib.hid hv
  clear hv
  refine calls_cps fun R hR => ?_
  have HR := Lib.hid hR
  clear hR
  go_enter Try.func86, Try.ntmps86
  have M : Hid (Mem [Loc.k4 w.heap.size (.int .i64 n.places) (vt) (.int .i64 n.source) (.int .i64 n.sink), Loc.bl w.heap.size w] (w.alloc (.cells #[.int .i64 n.places, vt, .int .i64 n.source, .int .i64 n.sink] 24))) := Lib.hid ⟨K4.new w _ _ _ _ _, ⟨(Below.refl _ _).alloc (Nat.le_refl _) _, by simp⟩, True.intro⟩
  have hk4 := M.out.1
  go_wp2_with fail
  all_goals (try ((with_reducible refine HR.out _ _ ⟨?_, ?_⟩) <;> first | exact ret_bool (by go_light; grind [mark2B]) | exact M.out.2.1.1))
  have HI : Hid (mark2B n m = all01 m) := Lib.hid (by go_light; grind [mark2B])
  generalize w.alloc (.cells #[.int .i64 n.places, vt, .int .i64 n.source, .int .i64 n.sink] 24) = W at *
  go_loop [5] (fun v3 => ∃ k : Nat, k ≤ m.length ∧ v3 = .int .i64 k ∧ Hid (mark2B n m = all01 (m.drop k))) (fun v3 => m.length - (intOf v3).toNat)
  case atStart => exact ⟨0, by omega, rfl, HI⟩
  case round =>
    clear HI
    obtain ⟨k, hk, rfl, HI⟩ := hrel
    by_cases hlt : k < m.length
    · obtain ⟨b, off, rfl, _, _, hcell⟩ := RdI.at1 (HV.out.after M.out.2.1.1) hlt
      have HD := Lib.hid (drop_gti hlt)
      generalize gti m k = x at *
      go_wp2_with fail
      all_goals (have HJ : mark2B n m = if x < 0 ∨ 100 < x then false else all01 (m.drop (k + 1)) := by rw [HI.out, HD.out]; rfl)
      all_goals first
        | ((with_reducible refine HR.out _ _ ⟨?_, ?_⟩) <;> first | exact ret_bool (by go_light; grind) | exact M.out.2.1.1)
        | (refine ⟨⟨k + 1, by omega, by go_num, Lib.hid (by go_light; grind)⟩, by simp [intOf]; omega⟩)
    · obtain rfl : k = m.length := by omega
      have HE : Hid (mark2B n m = true) := Lib.hid (by rw [HI.out]; simp [all01])
      clear HI
      go_wp2_with fail
      all_goals ((with_reducible refine HR.out _ _ ⟨?_, ?_⟩) <;> first | exact ret_bool (by rw [HE.out]) | exact M.out.2.1.1)
end Go.Proofs.Ytmhbfoaecebobaa
