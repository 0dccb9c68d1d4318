/-
  replay.named and casebookref02.Names: all elements of a word are names. Conditions: none.
-/
import Derived.Test.YtmhbfoaecebobaaValid2
namespace Go.Proofs.Ytmhbfoaecebobaa
set_option linter.unusedSimpArgs false
set_option linter.unusedVariables false
open Go.RowKit

def allN : List ByteArray → Bool
  | [] => true
  | a :: l => if nameB a then allN l else false
theorem allN_eq : ∀ l, allN l = l.all nameB
  | [] => rfl
  | a :: l => by rw [allN, allN_eq l, List.all_cons]; cases nameB a <;> rfl
set_option maxHeartbeats 1000000 in
theorem names_any (l : List ByteArray) (lo hi : Nat) (v : Value) (w : World) (hv : RdS w lo hi v l) :
    Calls Try.prog 78 #[v] w fun e w' => e = .returned (.bool (allN l)) ∧ Below w.heap.size w w' := by
  obtain ⟨A, c, rfl, hc, hm⟩ := hv.form
  have HV := Lib.hid hv
  clear hv
  have M : Hid (Mem [Loc.bl w.heap.size w] w) := Lib.hid ⟨⟨Below.refl _ _, Nat.le_refl _⟩, True.intro⟩
  refine calls_cps fun R hR => ?_
  have HR := Lib.hid hR
  clear hR
  go_enter Try.func78, Try.ntmps78
  go_wp2_with fail
  go_loopw [3] (fun v3 wr => ∃ k : Nat, k ≤ l.length ∧ v3 = .int .i64 k ∧ Hid (allN l = allN (l.drop k)) ∧ Hid (Mem [Loc.bl w.heap.size w] wr)) (fun v3 _ => l.length - (intOf v3).toNat)
  case atStart => exact ⟨0, by omega, rfl, Lib.hid rfl, M⟩
  case round =>
    clear M
    obtain ⟨k, hk, rfl, HI, M⟩ := hrel
    by_cases hlt : k < l.length
    · obtain ⟨b, off, rfl, _, _, hcell⟩ := RdS.at1 (HV.out.after M.out.1.1) hlt
      have HJ : Hid (allN l = if nameB (gti l k) then allN (l.drop (k + 1)) else false) := Lib.hid (by rw [HI.out, drop_gti hlt, allN])
      generalize gti l k = x at *
      go_wp2_with (go_at_call 87; refine (isName2_any _ _).mono ?_; rintro e w1 ⟨rfl, hb1⟩; replace M := Lib.hid (M.out.below hb1); clear hb1; skip)
      all_goals have hj := HJ.out
      all_goals first
        | ((with_reducible refine HR.out _ _ ⟨?_, ?_⟩) <;> first | exact ret_bool (by clear HJ HI; go_light; grind) | exact M.out.1.1)
        | (refine ⟨⟨k + 1, by omega, by go_num, Lib.hid (by clear HJ HI; go_light; grind), M⟩, by simp [intOf]; omega⟩)
    · obtain rfl : k = l.length := by omega
      have HE : Hid (allN l = true) := Lib.hid (by rw [HI.out]; simp [allN])
      clear HI
      go_wp2_with fail
      all_goals ((with_reducible refine HR.out _ _ ⟨?_, ?_⟩) <;> first | exact ret_bool (by rw [HE.out]) | exact M.out.1.1)

theorem ent_named1 : Ent 69 := ent_of Try.func69 (by kernel_rfl) rfl
set_option maxHeartbeats 400000 in
theorem named1_any (a : ByteArray) (w : World) : Calls Try.prog 69 #[.string a] w fun e w' => e = .returned (.bool (!nameB a)) ∧ Below w.heap.size w w' := by
  refine calls_cps fun R hR => ?_
  have HR := Lib.hid hR
  clear hR
  go_enter Try.func69, Try.ntmps69
  go_wp2_with fail
  refine (isName_any _ _).mono ?_
  rintro e w1 ⟨rfl, hb1⟩
  have HB1 := Lib.hid hb1
  clear hb1
  go_wp2
  exact HR.out _ _ ⟨rfl, HB1.out⟩
set_option maxHeartbeats 400000 in
theorem named_any (l : List ByteArray) (lo hi : Nat) (v : Value) (w : World) (hv : RdS w lo hi v l) :
    Calls Try.prog 28 #[v] w fun e w' => e = .returned (.bool (allN l)) ∧ Below w.heap.size w w' := by
  have HC := Lib.hid (containsFS_any 69 ent_named1 #[] (fun a => !nameB a) l lo hi v w hv (fun a _ W _ => named1_any a W))
  obtain ⟨A, c, rfl, hc, hm⟩ := hv.form
  clear hv
  refine calls_cps fun R hR => ?_
  have HR := Lib.hid hR
  clear hR
  go_enter Try.func28, Try.ntmps28
  go_wp2_with fail
  refine HC.out.mono ?_
  rintro e w1 ⟨rfl, hb1⟩
  have HB1 := Lib.hid hb1
  clear hb1
  go_wp2
  refine HR.out _ _ ⟨congrArg (fun b => Ending.returned (.bool b)) ?_, HB1.out⟩
  rw [allN_eq]
  simp [List.all_eq_not_any_not]
end Go.Proofs.Ytmhbfoaecebobaa
