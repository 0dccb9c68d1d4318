/-
  Walks of casebook/queue: whole, do. Conditions: none.
-/
import Derived.Test.YthlgkomhnhkooaaMem
import Derived.Test.YthlgkomhnhkooaaQSpec
namespace Go.Proofs.Ythlgkomhnhkooaa
set_option linter.unusedSimpArgs false
set_option linter.unusedVariables false
open Go.RowKit

set_option maxHeartbeats 400000 in
theorem whole_any (n : Int) (w : World) :
    Calls Try.prog 53 #[.int .i64 n] w fun e w' => e = .returned (.agg #[.int .i64 n, .int .i64 1]) ∧ Below w.heap.size w w' := by
  refine calls_cps fun R hR => ?_
  have HR := Lib.hid hR
  clear hR
  go_enter Try.func53, Try.ntmps53
  go_wp2
  refine bodyPost_ret (v := .agg #[.int .i64 n, .int .i64 1]) (by simp [results, Try.results53, go_sem]) rfl (HR.out _ _ ⟨rfl, ?_⟩)
  (repeat (first | exact Below.refl _ _ | assumption | refine Below.setCell ?_ (by first | omega | (simp; done) | (simp; omega)) _ | refine Below.alloc ?_ (by first | omega | (simp; done) | (simp; omega)) _ | refine Below.drew ?_ | refine below_drewN ?_ _))

set_option maxHeartbeats 1000000 in
theorem do_any (f : FuncId) (hent : Ent f) (E : FE) (a b : Fr) (hf : ∀ W, Calls Try.prog f #[.agg #[.int .i64 (a).n, .int .i64 (a).d], .agg #[.int .i64 (b).n, .int .i64 (b).d]] W fun e W' => e = .returned (.tuple #[.agg #[.int .i64 (E).n, .int .i64 (E).d], .int .i64 (E).e]) ∧ Below W.heap.size W W')
    (cb : Nat) (x : Int) (w : World) (hc : B1 w cb (.int .i64 x)) :
    Calls Try.prog 52 #[.pointer (some ⟨cb, 0, none⟩), .func (.func f) #[] #[], .agg #[.int .i64 (a).n, .int .i64 (a).d], .agg #[.int .i64 (b).n, .int .i64 (b).d]] w fun e w' =>
      e = .returned (.agg #[.int .i64 (doR x E).n, .int .i64 (doR x E).d]) ∧ B1 w' cb (.int .i64 (doX x E)) ∧ Off cb w.heap.size w w' := by
  unfold Ent at hent
  have HF := Lib.hid hf
  clear hf
  refine calls_cps fun R hR => ?_
  have HR := Lib.hid hR
  clear hR
  obtain ⟨c1, c2, c3⟩ := hc
  by_cases hx : x = 0
  · subst hx
    have lt0 : cb < w.heap.size + 1 := by omega
    have lt1 : cb ≤ w.heap.size := by omega
    have lt2 : cb < w.heap.size + 1 + 1 := by omega
    have lt3 : cb ≤ w.heap.size + 1 := by omega
    have lt4 : cb < w.heap.size + 1 + 1 + 1 := by omega
    have lt5 : cb ≤ w.heap.size + 1 + 1 := by omega
    go_enter Try.func52, Try.ntmps52
    go_wp2_with fail
    refine (HF.out _).mono ?_
    rintro e w1 ⟨rfl, hb1⟩
    have hbw : Below w.heap.size w w1 := by refine Below.step ?_ hb1 (by first | omega | (simp; done) | (simp; omega)); (repeat (first | exact Below.refl _ _ | assumption | refine Below.setCell ?_ (by first | omega | (simp; done) | (simp; omega)) _ | refine Below.alloc ?_ (by first | omega | (simp; done) | (simp; omega)) _ | refine Below.drew ?_ | refine below_drewN ?_ _))
    obtain ⟨d1, d2, d3⟩ := B1.after hbw ⟨c1, c2, c3⟩ c3
    have hK := B2.after (g := w.heap.size + 1 + 1) (x := .int .i64 0) (y := .int .i64 0) hb1 (by simp [B2, go_sem]) (by first | omega | (simp; done) | (simp; omega))
    have ⟨k1, k2, k3, k4, k5⟩ := hK
    have HK := Lib.hid hK
    clear hK
    have HO : Hid (Off cb w.heap.size w w1) := Lib.hid (Off.of_below hbw)
    clear hb1 hbw
    by_cases he : E.e = 0
    · have he' : (E.e != 0) = false := by simpa using he
      have HE := Lib.hid he
      clear he
      go_wp2
      refine ret_B2 rfl rfl rfl ((HK.out.set _ _).alloc _) (HR.out _ _ ⟨?_, ?_, ?_⟩)
      · simp [doR, HE.out]
      · rw [show doX 0 E = 0 from HE.out]; exact (B1.set2 ⟨d1, d2, d3⟩ (by omega)).alloc _
      · have := HO.out; (repeat (first | exact Off.refl _ _ _ | assumption | refine Off.setCell ?_ (by first | (left; first | omega | (simp; done) | (simp; omega)) | (right; rfl)) _ | refine Off.alloc ?_ (by first | omega | (simp; done) | (simp; omega)) _ | refine Off.drew ?_ | refine Off.drewN ?_ _))
    · have he' : (E.e != 0) = true := by simpa using he
      have lu1 : cb < w1.heap.size + 1 := by omega
      have lu2 : cb ≤ w1.heap.size := by omega
      go_wp2_with fail
      refine (whole_any 0 _).mono ?_
      rintro e w2 ⟨rfl, hb2⟩
      have hJ := B2.after hb2 (B2.alloc (B2.far HK.out (g' := cb) (o := 0) (by omega) (.int .i64 E.e)) _) (by simp; omega)
      have ⟨j1, j2, j3, j4, j5⟩ := hJ
      have HJ := Lib.hid hJ
      clear hJ
      have D2 := Lib.hid (B1.after hb2 ((B1.set (⟨d1, d2, d3⟩ : B1 w1 cb _) (.int .i64 E.e)).alloc _) (by simp; omega))
      have HO2 : Hid (Off cb w.heap.size w w2) := Lib.hid (by refine Off.stepB ?_ hb2 (by simp; omega); have := HO.out; (repeat (first | exact Off.refl _ _ _ | assumption | refine Off.setCell ?_ (by first | (left; first | omega | (simp; done) | (simp; omega)) | (right; rfl)) _ | refine Off.alloc ?_ (by first | omega | (simp; done) | (simp; omega)) _ | refine Off.drew ?_ | refine Off.drewN ?_ _)))
      clear hb2
      go_wp2
      refine ret_B2 rfl rfl rfl (HJ.out.set _ _) (HR.out _ _ ⟨?_, ?_, ?_⟩)
      · simp [doR, he]
      · rw [show doX 0 E = E.e from rfl]; exact B1.set2 D2.out (by omega)
      · have := HO2.out; (repeat (first | exact Off.refl _ _ _ | assumption | refine Off.setCell ?_ (by first | (left; first | omega | (simp; done) | (simp; omega)) | (right; rfl)) _ | refine Off.alloc ?_ (by first | omega | (simp; done) | (simp; omega)) _ | refine Off.drew ?_ | refine Off.drewN ?_ _))
  · have hx' : (x != 0) = true := by simpa using hx
    have lt0 : cb < w.heap.size + 1 := by omega
    have lt1 : cb ≤ w.heap.size := by omega
    have lt2 : cb < w.heap.size + 1 + 1 := by omega
    have lt3 : cb ≤ w.heap.size + 1 := by omega
    have lt4 : cb < w.heap.size + 1 + 1 + 1 := by omega
    have lt5 : cb ≤ w.heap.size + 1 + 1 := by omega
    go_enter Try.func52, Try.ntmps52
    go_wp2_with fail
    refine (whole_any 0 _).mono ?_
    rintro e w1 ⟨rfl, hb1⟩
    have hbw : Below w.heap.size w w1 := by refine Below.step ?_ hb1 (by first | omega | (simp; done) | (simp; omega)); (repeat (first | exact Below.refl _ _ | assumption | refine Below.setCell ?_ (by first | omega | (simp; done) | (simp; omega)) _ | refine Below.alloc ?_ (by first | omega | (simp; done) | (simp; omega)) _ | refine Below.drew ?_ | refine below_drewN ?_ _))
    obtain ⟨d1, d2, d3⟩ := B1.after hbw ⟨c1, c2, c3⟩ c3
    have hK := B2.after (g := w.heap.size + 1 + 1) (x := .int .i64 0) (y := .int .i64 0) hb1 (by simp [B2, go_sem]) (by first | omega | (simp; done) | (simp; omega))
    have ⟨k1, k2, k3, k4, k5⟩ := hK
    have HK := Lib.hid hK
    clear hK
    have HO : Hid (Off cb w.heap.size w w1) := Lib.hid (Off.of_below hbw)
    clear hb1 hbw
    go_wp2
    refine ret_B2 rfl rfl rfl (HK.out.set _ _) (HR.out _ _ ⟨?_, ?_, ?_⟩)
    · simp [doR, hx]
    · rw [doX, if_pos hx]; exact B1.set2 ⟨d1, d2, d3⟩ (by omega)
    · have := HO.out; (repeat (first | exact Off.refl _ _ _ | assumption | refine Off.setCell ?_ (by first | (left; first | omega | (simp; done) | (simp; omega)) | (right; rfl)) _ | refine Off.alloc ?_ (by first | omega | (simp; done) | (simp; omega)) _ | refine Off.drew ?_ | refine Off.drewN ?_ _))

end Go.Proofs.Ythlgkomhnhkooaa
