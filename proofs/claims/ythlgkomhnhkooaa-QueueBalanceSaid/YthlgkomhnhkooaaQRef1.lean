/-
  Walks of casebookref52: zero, one, within, Valid, calc's add, sub, mul, div. Conditions: none.
-/
import Derived.Test.YthlgkomhnhkooaaRef01b
import Derived.Test.YthlgkomhnhkooaaQueue2
namespace Go.Proofs.Ythlgkomhnhkooaa
set_option linter.unusedSimpArgs false
set_option linter.unusedVariables false
open Go.RowKit

set_option maxHeartbeats 400000 in
theorem zero_any (w : World) :
    Calls Try.prog 43 #[] w fun e w' => e = .returned (.agg #[.int .i64 0, .int .i64 1]) ∧ Below w.heap.size w w' := by
  refine calls_cps fun R hR => ?_
  have HR := Lib.hid hR
  clear hR
  go_enter Try.func43, Try.ntmps43
  go_wp2_with fail
  have k0 := K2.new w (.int .i64 0) (.int .i64 0) 23
  refine (rof_any 0 _).mono ?_
  rintro e w1 ⟨rfl, hb1⟩
  replace k0 := K2.aft hb1 k0
  have HB : Hid (Below w.heap.size w w1) := Lib.hid (by refine Below.step ?_ hb1 (by first | omega | (simp; done) | (simp; omega)); (repeat (first | exact Below.refl _ _ | assumption | refine Below.setCell ?_ (by first | omega | (simp; done) | (simp; omega)) _ | refine Below.alloc ?_ (by first | omega | (simp; done) | (simp; omega)) _ | refine Below.drew ?_ | refine below_drewN ?_ _)))
  clear hb1
  go_wp2_with fail
  refine ret_B2 rfl rfl rfl (K2.set k0 _ _) (HR.out _ _ ⟨rfl, ?_⟩)
  have := HB.out
  (repeat (first | exact Below.refl _ _ | assumption | refine Below.setCell ?_ (by first | omega | (simp; done) | (simp; omega)) _ | refine Below.alloc ?_ (by first | omega | (simp; done) | (simp; omega)) _ | refine Below.drew ?_ | refine below_drewN ?_ _))

set_option maxHeartbeats 400000 in
theorem one_any (w : World) :
    Calls Try.prog 41 #[] w fun e w' => e = .returned (.agg #[.int .i64 1, .int .i64 1]) ∧ Below w.heap.size w w' := by
  refine calls_cps fun R hR => ?_
  have HR := Lib.hid hR
  clear hR
  go_enter Try.func41, Try.ntmps41
  go_wp2_with fail
  have k0 := K2.new w (.int .i64 0) (.int .i64 0) 23
  refine (rof_any 1 _).mono ?_
  rintro e w1 ⟨rfl, hb1⟩
  replace k0 := K2.aft hb1 k0
  have HB : Hid (Below w.heap.size w w1) := Lib.hid (by refine Below.step ?_ hb1 (by first | omega | (simp; done) | (simp; omega)); (repeat (first | exact Below.refl _ _ | assumption | refine Below.setCell ?_ (by first | omega | (simp; done) | (simp; omega)) _ | refine Below.alloc ?_ (by first | omega | (simp; done) | (simp; omega)) _ | refine Below.drew ?_ | refine below_drewN ?_ _)))
  clear hb1
  go_wp2_with fail
  refine ret_B2 rfl rfl rfl (K2.set k0 _ _) (HR.out _ _ ⟨rfl, ?_⟩)
  have := HB.out
  (repeat (first | exact Below.refl _ _ | assumption | refine Below.setCell ?_ (by first | omega | (simp; done) | (simp; omega)) _ | refine Below.alloc ?_ (by first | omega | (simp; done) | (simp; omega)) _ | refine Below.drew ?_ | refine below_drewN ?_ _))

set_option maxHeartbeats 1000000 in
theorem cadd_any (a b : Fr) (cb : Nat) (x : Bool) (w : World) (hc : K1 w cb (.bool x)) :
    Calls Try.prog 44 #[.pointer (some ⟨cb, 0, none⟩), .agg #[.int .i64 (a).n, .int .i64 (a).d], .agg #[.int .i64 (b).n, .int .i64 (b).d]] w fun e w' =>
      e = .returned (.agg #[.int .i64 (addE a b).n, .int .i64 (addE a b).d]) ∧ K1 w' cb (.bool (x || (addE a b).e != 0)) ∧ Off cb w.heap.size w w' := by
  have lc := hc.2.2
  have lt0 : cb < w.heap.size + 1 := by omega
  have lt1 : cb ≤ w.heap.size := by omega
  have lt2 : cb < w.heap.size + 1 + 1 := by omega
  have lt3 : cb ≤ w.heap.size + 1 := by omega
  have lt4 : cb < w.heap.size + 1 + 1 + 1 := by omega
  have lt5 : cb ≤ w.heap.size + 1 + 1 := by omega
  refine calls_cps fun R hR => ?_
  have HR := Lib.hid hR
  clear hR
  go_enter Try.func44, Try.ntmps44
  go_wp2_with fail
  have k0 := K2.new ((w.alloc (.cells #[.int .i64 a.n, .int .i64 a.d] 23)).alloc (.cells #[.int .i64 b.n, .int .i64 b.d] 23)) (.int .i64 0) (.int .i64 0) 23
  simp at k0
  refine (radd_any a b _).mono ?_
  rintro e w1 ⟨rfl, hb1⟩
  replace k0 := K2.aft hb1 k0
  have c1 := K1.aft hb1 (K1.alloc (K1.alloc (K1.alloc hc _) _) _)
  have HB : Hid (Below w.heap.size w w1) := Lib.hid (by refine Below.step ?_ hb1 (by first | omega | (simp; done) | (simp; omega)); (repeat (first | exact Below.refl _ _ | assumption | refine Below.setCell ?_ (by first | omega | (simp; done) | (simp; omega)) _ | refine Below.alloc ?_ (by first | omega | (simp; done) | (simp; omega)) _ | refine Below.drew ?_ | refine below_drewN ?_ _)))
  have hz1 := hb1.size
  simp at hz1
  clear hb1 hc
  cases x with
  | false =>
    go_wp2_with fail
    refine ret_B2 rfl rfl rfl (K2.alloc (K2.set (K2.far k0 (by omega) _) _ _) _) (HR.out _ _ ⟨rfl, K1.alloc (K1.far2 (K1.set c1 _) (by omega) _ _) _, ?_⟩)
    have hO : Off cb w.heap.size w w1 := Off.of_below HB.out
    (repeat (first | exact Off.refl _ _ _ | assumption | refine Off.setCell ?_ (by first | (left; first | omega | (simp; done) | (simp; omega)) | (right; rfl)) _ | refine Off.alloc ?_ (by first | omega | (simp; done) | (simp; omega)) _ | refine Off.drew ?_ | refine Off.drewN ?_ _))
  | true =>
    go_wp2_with fail
    refine ret_B2 rfl rfl rfl (K2.alloc (K2.set (K2.far k0 (by omega) _) _ _) _) (HR.out _ _ ⟨rfl, K1.alloc (K1.far2 (K1.set c1 _) (by omega) _ _) _, ?_⟩)
    have hO : Off cb w.heap.size w w1 := Off.of_below HB.out
    (repeat (first | exact Off.refl _ _ _ | assumption | refine Off.setCell ?_ (by first | (left; first | omega | (simp; done) | (simp; omega)) | (right; rfl)) _ | refine Off.alloc ?_ (by first | omega | (simp; done) | (simp; omega)) _ | refine Off.drew ?_ | refine Off.drewN ?_ _))

set_option maxHeartbeats 1000000 in
theorem csub_any (a b : Fr) (cb : Nat) (x : Bool) (w : World) (hc : K1 w cb (.bool x)) :
    Calls Try.prog 55 #[.pointer (some ⟨cb, 0, none⟩), .agg #[.int .i64 (a).n, .int .i64 (a).d], .agg #[.int .i64 (b).n, .int .i64 (b).d]] w fun e w' =>
      e = .returned (.agg #[.int .i64 (subE a b).n, .int .i64 (subE a b).d]) ∧ K1 w' cb (.bool (x || (subE a b).e != 0)) ∧ Off cb w.heap.size w w' := by
  have lc := hc.2.2
  have lt0 : cb < w.heap.size + 1 := by omega
  have lt1 : cb ≤ w.heap.size := by omega
  have lt2 : cb < w.heap.size + 1 + 1 := by omega
  have lt3 : cb ≤ w.heap.size + 1 := by omega
  have lt4 : cb < w.heap.size + 1 + 1 + 1 := by omega
  have lt5 : cb ≤ w.heap.size + 1 + 1 := by omega
  refine calls_cps fun R hR => ?_
  have HR := Lib.hid hR
  clear hR
  go_enter Try.func55, Try.ntmps55
  go_wp2_with fail
  have k0 := K2.new ((w.alloc (.cells #[.int .i64 a.n, .int .i64 a.d] 23)).alloc (.cells #[.int .i64 b.n, .int .i64 b.d] 23)) (.int .i64 0) (.int .i64 0) 23
  simp at k0
  refine (rsub_any a b _).mono ?_
  rintro e w1 ⟨rfl, hb1⟩
  replace k0 := K2.aft hb1 k0
  have c1 := K1.aft hb1 (K1.alloc (K1.alloc (K1.alloc hc _) _) _)
  have HB : Hid (Below w.heap.size w w1) := Lib.hid (by refine Below.step ?_ hb1 (by first | omega | (simp; done) | (simp; omega)); (repeat (first | exact Below.refl _ _ | assumption | refine Below.setCell ?_ (by first | omega | (simp; done) | (simp; omega)) _ | refine Below.alloc ?_ (by first | omega | (simp; done) | (simp; omega)) _ | refine Below.drew ?_ | refine below_drewN ?_ _)))
  have hz1 := hb1.size
  simp at hz1
  clear hb1 hc
  cases x with
  | false =>
    go_wp2_with fail
    refine ret_B2 rfl rfl rfl (K2.alloc (K2.set (K2.far k0 (by omega) _) _ _) _) (HR.out _ _ ⟨rfl, K1.alloc (K1.far2 (K1.set c1 _) (by omega) _ _) _, ?_⟩)
    have hO : Off cb w.heap.size w w1 := Off.of_below HB.out
    (repeat (first | exact Off.refl _ _ _ | assumption | refine Off.setCell ?_ (by first | (left; first | omega | (simp; done) | (simp; omega)) | (right; rfl)) _ | refine Off.alloc ?_ (by first | omega | (simp; done) | (simp; omega)) _ | refine Off.drew ?_ | refine Off.drewN ?_ _))
  | true =>
    go_wp2_with fail
    refine ret_B2 rfl rfl rfl (K2.alloc (K2.set (K2.far k0 (by omega) _) _ _) _) (HR.out _ _ ⟨rfl, K1.alloc (K1.far2 (K1.set c1 _) (by omega) _ _) _, ?_⟩)
    have hO : Off cb w.heap.size w w1 := Off.of_below HB.out
    (repeat (first | exact Off.refl _ _ _ | assumption | refine Off.setCell ?_ (by first | (left; first | omega | (simp; done) | (simp; omega)) | (right; rfl)) _ | refine Off.alloc ?_ (by first | omega | (simp; done) | (simp; omega)) _ | refine Off.drew ?_ | refine Off.drewN ?_ _))

set_option maxHeartbeats 1000000 in
theorem cmul_any (a b : Fr) (cb : Nat) (x : Bool) (w : World) (hc : K1 w cb (.bool x)) :
    Calls Try.prog 49 #[.pointer (some ⟨cb, 0, none⟩), .agg #[.int .i64 (a).n, .int .i64 (a).d], .agg #[.int .i64 (b).n, .int .i64 (b).d]] w fun e w' =>
      e = .returned (.agg #[.int .i64 (mulE a b).n, .int .i64 (mulE a b).d]) ∧ K1 w' cb (.bool (x || (mulE a b).e != 0)) ∧ Off cb w.heap.size w w' := by
  have lc := hc.2.2
  have lt0 : cb < w.heap.size + 1 := by omega
  have lt1 : cb ≤ w.heap.size := by omega
  have lt2 : cb < w.heap.size + 1 + 1 := by omega
  have lt3 : cb ≤ w.heap.size + 1 := by omega
  have lt4 : cb < w.heap.size + 1 + 1 + 1 := by omega
  have lt5 : cb ≤ w.heap.size + 1 + 1 := by omega
  refine calls_cps fun R hR => ?_
  have HR := Lib.hid hR
  clear hR
  go_enter Try.func49, Try.ntmps49
  go_wp2_with fail
  have k0 := K2.new ((w.alloc (.cells #[.int .i64 a.n, .int .i64 a.d] 23)).alloc (.cells #[.int .i64 b.n, .int .i64 b.d] 23)) (.int .i64 0) (.int .i64 0) 23
  simp at k0
  refine (rmul_any a b _).mono ?_
  rintro e w1 ⟨rfl, hb1⟩
  replace k0 := K2.aft hb1 k0
  have c1 := K1.aft hb1 (K1.alloc (K1.alloc (K1.alloc hc _) _) _)
  have HB : Hid (Below w.heap.size w w1) := Lib.hid (by refine Below.step ?_ hb1 (by first | omega | (simp; done) | (simp; omega)); (repeat (first | exact Below.refl _ _ | assumption | refine Below.setCell ?_ (by first | omega | (simp; done) | (simp; omega)) _ | refine Below.alloc ?_ (by first | omega | (simp; done) | (simp; omega)) _ | refine Below.drew ?_ | refine below_drewN ?_ _)))
  have hz1 := hb1.size
  simp at hz1
  clear hb1 hc
  cases x with
  | false =>
    go_wp2_with fail
    refine ret_B2 rfl rfl rfl (K2.alloc (K2.set (K2.far k0 (by omega) _) _ _) _) (HR.out _ _ ⟨rfl, K1.alloc (K1.far2 (K1.set c1 _) (by omega) _ _) _, ?_⟩)
    have hO : Off cb w.heap.size w w1 := Off.of_below HB.out
    (repeat (first | exact Off.refl _ _ _ | assumption | refine Off.setCell ?_ (by first | (left; first | omega | (simp; done) | (simp; omega)) | (right; rfl)) _ | refine Off.alloc ?_ (by first | omega | (simp; done) | (simp; omega)) _ | refine Off.drew ?_ | refine Off.drewN ?_ _))
  | true =>
    go_wp2_with fail
    refine ret_B2 rfl rfl rfl (K2.alloc (K2.set (K2.far k0 (by omega) _) _ _) _) (HR.out _ _ ⟨rfl, K1.alloc (K1.far2 (K1.set c1 _) (by omega) _ _) _, ?_⟩)
    have hO : Off cb w.heap.size w w1 := Off.of_below HB.out
    (repeat (first | exact Off.refl _ _ _ | assumption | refine Off.setCell ?_ (by first | (left; first | omega | (simp; done) | (simp; omega)) | (right; rfl)) _ | refine Off.alloc ?_ (by first | omega | (simp; done) | (simp; omega)) _ | refine Off.drew ?_ | refine Off.drewN ?_ _))

set_option maxHeartbeats 1000000 in
theorem cdiv_any (a b : Fr) (cb : Nat) (x : Bool) (w : World) (hc : K1 w cb (.bool x)) :
    Calls Try.prog 45 #[.pointer (some ⟨cb, 0, none⟩), .agg #[.int .i64 (a).n, .int .i64 (a).d], .agg #[.int .i64 (b).n, .int .i64 (b).d]] w fun e w' =>
      e = .returned (.agg #[.int .i64 (divE a b).n, .int .i64 (divE a b).d]) ∧ K1 w' cb (.bool (x || (divE a b).e != 0)) ∧ Off cb w.heap.size w w' := by
  have lc := hc.2.2
  have lt0 : cb < w.heap.size + 1 := by omega
  have lt1 : cb ≤ w.heap.size := by omega
  have lt2 : cb < w.heap.size + 1 + 1 := by omega
  have lt3 : cb ≤ w.heap.size + 1 := by omega
  have lt4 : cb < w.heap.size + 1 + 1 + 1 := by omega
  have lt5 : cb ≤ w.heap.size + 1 + 1 := by omega
  refine calls_cps fun R hR => ?_
  have HR := Lib.hid hR
  clear hR
  go_enter Try.func45, Try.ntmps45
  go_wp2_with fail
  have k0 := K2.new ((w.alloc (.cells #[.int .i64 a.n, .int .i64 a.d] 23)).alloc (.cells #[.int .i64 b.n, .int .i64 b.d] 23)) (.int .i64 0) (.int .i64 0) 23
  simp at k0
  refine (rdiv_any a b _).mono ?_
  rintro e w1 ⟨rfl, hb1⟩
  replace k0 := K2.aft hb1 k0
  have c1 := K1.aft hb1 (K1.alloc (K1.alloc (K1.alloc hc _) _) _)
  have HB : Hid (Below w.heap.size w w1) := Lib.hid (by refine Below.step ?_ hb1 (by first | omega | (simp; done) | (simp; omega)); (repeat (first | exact Below.refl _ _ | assumption | refine Below.setCell ?_ (by first | omega | (simp; done) | (simp; omega)) _ | refine Below.alloc ?_ (by first | omega | (simp; done) | (simp; omega)) _ | refine Below.drew ?_ | refine below_drewN ?_ _)))
  have hz1 := hb1.size
  simp at hz1
  clear hb1 hc
  cases x with
  | false =>
    go_wp2_with fail
    refine ret_B2 rfl rfl rfl (K2.alloc (K2.set (K2.far k0 (by omega) _) _ _) _) (HR.out _ _ ⟨rfl, K1.alloc (K1.far2 (K1.set c1 _) (by omega) _ _) _, ?_⟩)
    have hO : Off cb w.heap.size w w1 := Off.of_below HB.out
    (repeat (first | exact Off.refl _ _ _ | assumption | refine Off.setCell ?_ (by first | (left; first | omega | (simp; done) | (simp; omega)) | (right; rfl)) _ | refine Off.alloc ?_ (by first | omega | (simp; done) | (simp; omega)) _ | refine Off.drew ?_ | refine Off.drewN ?_ _))
  | true =>
    go_wp2_with fail
    refine ret_B2 rfl rfl rfl (K2.alloc (K2.set (K2.far k0 (by omega) _) _ _) _) (HR.out _ _ ⟨rfl, K1.alloc (K1.far2 (K1.set c1 _) (by omega) _ _) _, ?_⟩)
    have hO : Off cb w.heap.size w w1 := Off.of_below HB.out
    (repeat (first | exact Off.refl _ _ _ | assumption | refine Off.setCell ?_ (by first | (left; first | omega | (simp; done) | (simp; omega)) | (right; rfl)) _ | refine Off.alloc ?_ (by first | omega | (simp; done) | (simp; omega)) _ | refine Off.drew ?_ | refine Off.drewN ?_ _))

set_option maxHeartbeats 1000000 in
theorem within_any (a : Fr) (w : World) :
    Calls Try.prog 40 #[.agg #[.int .i64 (a).n, .int .i64 (a).d]] w fun e w' => e = .returned (.bool (a.okB && decide (0 < a.n) && decide (a.n < a.d))) ∧ Below w.heap.size w w' := by
  refine calls_cps fun R hR => ?_
  have HR := Lib.hid hR
  clear hR
  go_enter Try.func40, Try.ntmps40
  go_wp2_with fail
  have k0 := K2.new w (.int .i64 a.n) (.int .i64 a.d) 23
  refine (rvalid_any a _).mono ?_
  rintro e w1 ⟨rfl, hb1⟩
  replace k0 := K2.aft hb1 k0
  have HB : Hid (Below w.heap.size w w1) := Lib.hid (by refine Below.step ?_ hb1 (by first | omega | (simp; done) | (simp; omega)); (repeat (first | exact Below.refl _ _ | assumption | refine Below.setCell ?_ (by first | omega | (simp; done) | (simp; omega)) _ | refine Below.alloc ?_ (by first | omega | (simp; done) | (simp; omega)) _ | refine Below.drew ?_ | refine below_drewN ?_ _)))
  clear hb1
  cases hv : a.okB <;> by_cases h1 : 0 < a.n <;> by_cases h2 : a.n < a.d
  all_goals
    go_wp2_with fail
    refine HR.out _ _ ⟨by first | (simp [hv, h1, h2]; done) | (simp [hv, h1, h2]; omega), ?_⟩
    have := HB.out
    (repeat (first | exact Below.refl _ _ | assumption | refine Below.setCell ?_ (by first | omega | (simp; done) | (simp; omega)) _ | refine Below.alloc ?_ (by first | omega | (simp; done) | (simp; omega)) _ | refine Below.drew ?_ | refine below_drewN ?_ _))

end Go.Proofs.Ythlgkomhnhkooaa
