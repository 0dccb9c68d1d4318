/-
  Walks of casebookref52: Valid. Conditions: none.
-/
import Derived.Test.YthlgkomhnhkooaaQRef1
namespace Go.Proofs.Ythlgkomhnhkooaa
set_option linter.unusedSimpArgs false
set_option linter.unusedVariables false
open Go.RowKit

def wiB (a : Fr) : Bool := a.okB && decide (0 < a.n) && decide (a.n < a.d)
def qokB (ar se : Fr) (sv cp : Int) : Bool := wiB ar && wiB se && decide (1 ≤ sv) && decide (sv ≤ 8) && decide (sv ≤ cp) && decide (cp ≤ 15)
theorem wi_any (a : Fr) (w : World) :
    Calls Try.prog 40 #[.agg #[.int .i64 (a).n, .int .i64 (a).d]] w fun e w' => e = .returned (.bool (wiB a)) ∧ Below w.heap.size w w' := within_any a w

set_option maxHeartbeats 2000000 in
theorem rqvalid_any (ar se : Fr) (sv cp : Int) (w : World) :
    Calls Try.prog 12 #[.agg #[.int .i64 ar.n, .int .i64 ar.d, .int .i64 se.n, .int .i64 se.d, .int .i64 sv, .int .i64 cp]] w fun e w' => e = .returned (.bool (qokB ar se sv cp)) ∧ Below w.heap.size w w' := by
  refine calls_cps fun R hR => ?_
  have HR := Lib.hid hR
  clear hR
  go_enter Try.func12, Try.ntmps12
  go_wp2_with fail
  have q0 := K6.new w (.int .i64 ar.n) (.int .i64 ar.d) (.int .i64 se.n) (.int .i64 se.d) (.int .i64 sv) (.int .i64 cp) 25
  refine (wi_any ar _).mono ?_
  rintro e w1 ⟨rfl, hb1⟩
  replace q0 := K6.aft hb1 q0
  have HB : Hid (Below w.heap.size w w1) := Lib.hid (by refine Below.step ?_ hb1 (by first | omega | (simp; done) | (simp; omega)); (repeat (first | exact Below.refl _ _ | assumption | refine Below.setCell ?_ (by first | omega | (simp; done) | (simp; omega)) _ | refine Below.alloc ?_ (by first | omega | (simp; done) | (simp; omega)) _ | refine Below.drew ?_ | refine below_drewN ?_ _)))
  have hz1 := hb1.size
  simp at hz1
  clear hb1
  cases h1 : wiB ar with
  | false =>
    go_wp2_with fail
    refine HR.out _ _ ⟨by simp [qokB, h1], ?_⟩
    have := HB.out
    (repeat (first | exact Below.refl _ _ | assumption | refine Below.setCell ?_ (by first | omega | (simp; done) | (simp; omega)) _ | refine Below.alloc ?_ (by first | omega | (simp; done) | (simp; omega)) _ | refine Below.drew ?_ | refine below_drewN ?_ _))
  | true =>
    go_wp2_with fail
    refine (wi_any se _).mono ?_
    rintro e w2 ⟨rfl, hb2⟩
    replace q0 := K6.aft hb2 q0
    have HB2 : Hid (Below w.heap.size w w2) := Lib.hid (by refine Below.step ?_ hb2 (by first | omega | (simp; done) | (simp; omega)); have := HB.out; (repeat (first | exact Below.refl _ _ | assumption | refine Below.setCell ?_ (by first | omega | (simp; done) | (simp; omega)) _ | refine Below.alloc ?_ (by first | omega | (simp; done) | (simp; omega)) _ | refine Below.drew ?_ | refine below_drewN ?_ _)))
    clear hb2 HB
    cases h2 : wiB se with
    | false =>
      go_wp2_with fail
      refine HR.out _ _ ⟨by simp [qokB, h1, h2], ?_⟩
      have := HB2.out
      (repeat (first | exact Below.refl _ _ | assumption | refine Below.setCell ?_ (by first | omega | (simp; done) | (simp; omega)) _ | refine Below.alloc ?_ (by first | omega | (simp; done) | (simp; omega)) _ | refine Below.drew ?_ | refine below_drewN ?_ _))
    | true =>
      by_cases h3 : 1 ≤ sv <;> by_cases h4 : sv ≤ 8 <;> by_cases h5 : sv ≤ cp <;> by_cases h6 : cp ≤ 15
      all_goals try (exfalso; omega)
      all_goals have HQ := Lib.hid (show qokB ar se sv cp = _ by simp only [qokB, h1, h2, h3, h4, h5, h6, decide_true, decide_false, Bool.true_and, Bool.and_true, Bool.and_false, Bool.false_and]; rfl)
      all_goals
        go_wp2_with fail
        refine HR.out _ _ ⟨(by first | (rw [HQ.out]; done) | (rw [HQ.out]; rfl) | (rw [HQ.out]; simp; done) | (rw [HQ.out]; simp; omega)), ?_⟩
        have := HB2.out
        (repeat (first | exact Below.refl _ _ | assumption | refine Below.setCell ?_ (by first | omega | (simp; done) | (simp; omega)) _ | refine Below.alloc ?_ (by first | omega | (simp; done) | (simp; omega)) _ | refine Below.drew ?_ | refine below_drewN ?_ _))

end Go.Proofs.Ythlgkomhnhkooaa
