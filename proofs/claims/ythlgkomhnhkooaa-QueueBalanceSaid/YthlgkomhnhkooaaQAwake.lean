/-
  Walks of slices.Equal at fractions, and casebooklaw52's awake. Conditions: none.
-/
import Derived.Test.YthlgkomhnhkooaaQueue12
namespace Go.Proofs.Ythlgkomhnhkooaa
set_option linter.unusedSimpArgs false
set_option linter.unusedVariables false
open Go.RowKit

set_option maxHeartbeats 2000000 in
theorem equal_eq (l : List Fr) (lo hi lo2 hi2 : Nat) (v1 v2 : Value) (w : World) (h1 : RdF w lo hi v1 l) (h2 : RdF w lo2 hi2 v2 l) :
    Calls Try.prog 38 #[v1, v2] w fun e w' => e = .returned (.bool true) ∧ Below w.heap.size w w' := by
  obtain ⟨A1, c1, rfl, hc1, hm1⟩ := h1.form
  obtain ⟨A2, c2, rfl, hc2, hm2⟩ := h2.form
  have H1 := Lib.hid h1
  have H2 := Lib.hid h2
  clear h1 h2
  refine calls_cps fun R hR => ?_
  have HR := Lib.hid hR
  clear hR
  go_enter Try.func38, Try.ntmps38
  go_wp2
  go_loopw [13] (fun v5 wr => ∃ (k m : Nat), k ≤ l.length ∧ v5 = .int .i64 k ∧ wr = w.drewN m) (fun v5 _ => l.length - (intOf v5).toNat)
  case atStart => exact ⟨0, 0, by omega, rfl, rfl⟩
  case round =>
    obtain ⟨k, m, hk, rfl, rfl⟩ := hrel
    by_cases hlt : k < l.length
    · have hkd : decide ((k : Int) < (l.length : Int)) = true := by simp; omega
      have hkb : (k : Int) < (l.length : Int) := by omega
      obtain ⟨b1, o1, rfl, _, _, f1, f2⟩ := H1.out.at2 (gt_get hlt)
      obtain ⟨b2, o2, rfl, _, _, f3, f4⟩ := H2.out.at2 (gt_get hlt)
      generalize gt l k = a at *
      go_wp2
      go_quiet (fail)
      go_wp2
      go_roundw
      case rel => exact ⟨k + 1, m + nq, by omega, by go_num, by first | rfl | rw [World.drewN_drewN]⟩
      case measure => simp [intOf]; omega
    · have hkd : decide ((k : Int) < (l.length : Int)) = false := by simp; omega
      go_wp2
      exact HR.out _ _ ⟨rfl, below_drewN (Below.refl _ _) _⟩

def half : Fr := ⟨1, 2⟩
theorem ex_stat : statQ half half 1 1 = some ([⟨1, 3⟩, ⟨2, 3⟩], [[⟨1, 1⟩], [⟨1, 2⟩, ⟨1, 2⟩]]) := by decide +kernel
theorem ex_wait : (waitE half [⟨1, 3⟩, ⟨2, 3⟩] [[⟨1, 1⟩], [⟨1, 2⟩, ⟨1, 2⟩]] 1 1 0).n = 2 ∧ (waitE half [⟨1, 3⟩, ⟨2, 3⟩] [[⟨1, 1⟩], [⟨1, 2⟩, ⟨1, 2⟩]] 1 1 0).d = 1 ∧ (waitE half [⟨1, 3⟩, ⟨2, 3⟩] [[⟨1, 1⟩], [⟨1, 2⟩, ⟨1, 2⟩]] 1 1 0).e = 0 := by decide +kernel
theorem ex_ok : qokB half half 1 1 = true := by decide +kernel
theorem ex_st {s c : Nat} {b : List (List Fr)} {r : List Fr} {x : Int} (hs : (1 : Int) = s) (hc : (1 : Int) = c) (h : StE half half s c b r x) : x = 0 ∧ r = [⟨1, 3⟩, ⟨2, 3⟩] ∧ b = [[⟨1, 1⟩], [⟨1, 2⟩, ⟨1, 2⟩]] := by
  obtain rfl : s = 1 := by omega
  obtain rfl : c = 1 := by omega
  rcases h.2.2.2 with ⟨h1, h2⟩ | ⟨_, h2⟩
  · rw [ex_stat] at h2
    injection h2 with h2
    injection h2 with h3 h4
    exact ⟨h1, h3.symm, h4.symm⟩
  · rw [ex_stat] at h2
    cases h2

set_option maxHeartbeats 2000000 in
theorem awake_any (w : World) :
    Calls Try.prog 10 #[] w fun e w' => e = .returned (.bool true) ∧ Below w.heap.size w w' := by
  refine calls_cps fun R hR => ?_
  have HR := Lib.hid hR
  clear hR
  go_enter Try.func10, Try.ntmps10
  go_wp2_with fail
  have q0 := K6.new (w.alloc (.cells #[.int .i64 1, .int .i64 2] 23)) (.int .i64 1) (.int .i64 2) (.int .i64 1) (.int .i64 2) (.int .i64 1) (.int .i64 1) 25
  simp only [World.size_alloc] at q0
  refine (Stationary_any half half 1 1 _).mono ?_
  rintro e w1 ⟨v, r, x, rfl, rf, hb1, hE⟩
  replace q0 := K6.aft hb1 q0
  have HB1 := Lib.hid (show Below w.heap.size w w1 by refine Below.step ?_ hb1 (by first | omega | (simp; done) | (simp; omega)); (repeat (first | exact Below.refl _ _ | assumption | refine Below.setCell ?_ (by first | omega | (simp; done) | (simp; omega)) _ | refine Below.alloc ?_ (by first | omega | (simp; done) | (simp; omega)) _ | refine Below.drew ?_ | refine below_drewN ?_ _)))
  have hz1 := hb1.size
  simp at hz1
  have hxr : x = 0 ∧ r = [⟨1, 3⟩, ⟨2, 3⟩] := by
    rcases hE with ⟨h, _⟩ | ⟨s, c, hs, hc, _, b, x0, r0, hS, hx, hr⟩
    · rw [ex_ok] at h; cases h
    · obtain ⟨h1, h2, _⟩ := ex_st hs hc hS
      subst h1 h2
      exact ⟨hx, by rw [hr, if_pos rfl]⟩
  obtain ⟨rfl, rfl⟩ := hxr
  clear hb1 hE
  go_wp2_with fail
  refine (Wait_any half half 1 1 _).mono ?_
  rintro e w2 ⟨E, rfl, hb2, hE⟩
  have hEE : E.n = 2 ∧ E.d = 1 ∧ E.e = 0 := by
    rcases hE with ⟨h, _⟩ | ⟨s, c, hs, hc, _, r, b, x, hS, hW⟩
    · rw [ex_ok] at h; cases h
    · obtain ⟨h1, h2, h3⟩ := ex_st hs hc hS
      subst h1 h2 h3
      obtain rfl : s = 1 := by omega
      obtain rfl : c = 1 := by omega
      rw [hW]
      exact ex_wait
  replace rf := RdG.after rf hb2
  have HB2 := Lib.hid (show Below w.heap.size w w2 from Below.step HB1.out hb2 HB1.out.size)
  rw [hEE.1, hEE.2.1, hEE.2.2]
  clear hb2 hE hEE q0 HB1
  go_wp2_with fail
  have t5 := K2.alloc (K2.new w2 (.int .i64 2) (.int .i64 1) 23) (.cells #[.int .i64 1, .int .i64 3, .int .i64 2, .int .i64 3] 23)
  have e := own_lit (w2.alloc (.cells #[.int .i64 2, .int .i64 1] 23)) #[.int .i64 1, .int .i64 3, .int .i64 2, .int .i64 3] 23 0 2 2 rfl (by simp [maxLen]) (by simp)
  have e2 : RdF ((w2.alloc (.cells #[.int .i64 2, .int .i64 1] 23)).alloc (.cells #[.int .i64 1, .int .i64 3, .int .i64 2, .int .i64 3] 23)) 0 (w2.heap.size + 1 + 1) (.slice (some ⟨w2.heap.size + 1, 0, none⟩) 2 2) [⟨1, 3⟩, ⟨2, 3⟩] := by
    have := RdG.of_own e
    simp only [World.size_alloc] at this
    exact this
  have e1 := RdG.after rf (((Below.refl _ w2).alloc (Nat.le_refl _) (.cells #[.int .i64 2, .int .i64 1] 23)).alloc (by simp) (.cells #[.int .i64 1, .int .i64 3, .int .i64 2, .int .i64 3] 23))
  refine (equal_eq [⟨1, 3⟩, ⟨2, 3⟩] _ _ _ _ _ _ _ e1 e2).mono ?_
  rintro e' w3 ⟨rfl, hb3⟩
  replace t5 := K2.aft hb3 t5
  have HB3 := Lib.hid (show Below w.heap.size w w3 from Below.step ((HB2.out.alloc HB2.out.size _).alloc (by have := HB2.out.size; simp; omega) _) hb3 (by have := HB2.out.size; simp; omega))
  clear hb3 e e1 e2 rf
  go_wp2_with fail
  exact HR.out _ _ ⟨rfl, HB3.out⟩

end Go.Proofs.Ythlgkomhnhkooaa
