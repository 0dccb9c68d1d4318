/-
  Walks of casebook/casebookref01: Make. Conditions: the numbers are in the ranges that the callers keep.
-/
import Derived.Test.YtmhbfoaecebobaaBase
import Derived.Test.YtmhbfoaecebobaaFr
namespace Go.Proofs.Ytmhbfoaecebobaa
set_option linter.unusedSimpArgs false
set_option linter.unusedVariables false
open Go.RowKit

def makeE (n d : Int) : FE := if d = 0 then FE.err 7 else FE.of (mkF n d)

set_option maxHeartbeats 2000000 in
theorem make_any (n d : Int) (w : World) (hn : -4611686018427387904 ≤ n ∧ n ≤ 4611686018427387904) (hd : -4611686018427387904 ≤ d ∧ d ≤ 4611686018427387904) :
    Calls Try.prog 40 #[.int .i64 n, .int .i64 d] w fun e w' => e = .returned (.tuple #[.agg #[.int .i64 (makeE n d).n, .int .i64 (makeE n d).d], .int .i64 (makeE n d).e]) ∧ Below w.heap.size w w' := by
  refine calls_cps fun R hR => ?_
  have HR := Lib.hid hR
  clear hR
  by_cases h0 : d = 0
  · subst h0
    go_enter Try.func40, Try.ntmps40
    go_wp2
    refine bodyPost_ret (v := .tuple #[.agg #[.int .i64 0, .int .i64 0], .int .i64 7]) (by simp [results, Try.results40, go_sem]) rfl (HR.out _ _ ⟨?_, ?_⟩)
    · simp [makeE, FE.err]
    · (repeat (first | exact Below.refl _ _ | assumption | refine Below.setCell ?_ (by first | omega | (simp; done) | (simp; omega)) _ | refine Below.alloc ?_ (by first | omega | (simp; done) | (simp; omega)) _ | refine Below.drew ?_ | refine below_drewN ?_ _))
  · have hd0 : (d == 0) = false := by simpa using h0
    by_cases sn : 0 < n <;> by_cases sd : 0 < d
    all_goals
      go_enter Try.func40, Try.ntmps40
      go_wp2
      go_loopw [6, 7] (fun x y wr => ∃ p q : Nat, p ≤ 4611686018427387904 ∧ q ≤ 4611686018427387904 ∧ x = .int .i64 (-p) ∧ y = .int .i64 (-q) ∧ Nat.gcd p q = Int.gcd n d ∧ ∃ k, wr = (w.alloc (.cells #[.int .i64 0, .int .i64 0] 39)).drewN k) (fun _ y _ => (intOf y).natAbs)
      case atStart => exact ⟨n.natAbs, d.natAbs, by omega, by omega, congrArg _ (by omega), congrArg _ (by omega), rfl, 0, rfl⟩
      case round =>
        obtain ⟨p, q, hp, hq, rfl, rfl, hg, k, rfl⟩ := hrel
        by_cases hq0 : q = 0
        · subst hq0
          simp only [Nat.gcd_zero_right] at hg
          have hgp : 0 < Int.gcd n d := Int.gcd_pos_iff.2 (Or.inr h0)
          have hp0 : 0 < (p : Int) := by omega
          obtain ⟨x, hx, hnx, hxa⟩ := tdiv_exact n p hp0 (by rw [hg]; exact Int.gcd_dvd_left ..)
          obtain ⟨y, hy, hdy, hya⟩ := tdiv_exact d p hp0 (by rw [hg]; exact Int.gcd_dvd_right ..)
          have hx1 := natAbs_le_of_mul n p x hp0 hxa
          have hy1 := natAbs_le_of_mul d p y hp0 hya
          have hy0 : y ≠ 0 := by intro e; rw [e] at hdy; simp at hdy; exact h0 hdy
          have bx : -4611686018427387904 ≤ x ∧ x ≤ 4611686018427387904 := by omega
          have bY : -4611686018427387904 ≤ y ∧ y ≤ 4611686018427387904 := by omega
          have hpe : ((p : Int) == 0) = false := by simp; omega
          have hpe2 : (-(p : Int) == 0) = false := by simp; omega
          have hpe3 : ¬ p = 0 := by omega
          rcases Int.lt_or_lt_of_ne hy0 with hyn | hyp
          · have HM := Lib.hid (mkF_negd n d p x y hp0 (by omega) hnx hdy hyn)
            have HG := Lib.hid hg
            clear hg hnx hdy hxa hya hx1 hy1 hgp hy0
            by_cases hf : -1073741824 ≤ -x ∧ -x ≤ 1073741824 ∧ -y ≤ 1073741824
            · obtain ⟨f1, f2, f3⟩ := hf
              have HM2 : Hid (mkF n d = some ⟨-x, -y⟩) := Lib.hid (by rw [HM.out, if_pos ⟨f1, f2, f3⟩])
              go_wp2
              refine bodyPost_ret (v := .tuple #[.agg #[.int .i64 (-x), .int .i64 (-y)], .int .i64 0]) (by simp [results, Try.results40, go_sem]) rfl (HR.out _ _ ⟨?_, ?_⟩)
              · unfold makeE; rw [if_neg h0, HM2.out]; rfl
              · (repeat (first | exact Below.refl _ _ | assumption | refine Below.setCell ?_ (by first | omega | (simp; done) | (simp; omega)) _ | refine Below.alloc ?_ (by first | omega | (simp; done) | (simp; omega)) _ | refine Below.drew ?_ | refine below_drewN ?_ _))
            · have HM2 : Hid (mkF n d = none) := Lib.hid (by rw [HM.out, if_neg hf])
              go_wp2
              all_goals
                refine bodyPost_ret (v := .tuple #[.agg #[.int .i64 0, .int .i64 0], .int .i64 6]) (by simp [results, Try.results40, go_sem]) rfl (HR.out _ _ ⟨?_, ?_⟩)
                · unfold makeE; rw [if_neg h0, HM2.out]; rfl
                · (repeat (first | exact Below.refl _ _ | assumption | refine Below.setCell ?_ (by first | omega | (simp; done) | (simp; omega)) _ | refine Below.alloc ?_ (by first | omega | (simp; done) | (simp; omega)) _ | refine Below.drew ?_ | refine below_drewN ?_ _))
          · have HM := Lib.hid (mkF_pos n d p x y hp0 (by omega) hnx hdy hyp)
            have HG := Lib.hid hg
            clear hg hnx hdy hxa hya hx1 hy1 hgp hy0
            by_cases hf : -1073741824 ≤ x ∧ x ≤ 1073741824 ∧ y ≤ 1073741824
            · obtain ⟨f1, f2, f3⟩ := hf
              have HM2 : Hid (mkF n d = some ⟨x, y⟩) := Lib.hid (by rw [HM.out, if_pos ⟨f1, f2, f3⟩])
              go_wp2
              refine bodyPost_ret (v := .tuple #[.agg #[.int .i64 (x), .int .i64 (y)], .int .i64 0]) (by simp [results, Try.results40, go_sem]) rfl (HR.out _ _ ⟨?_, ?_⟩)
              · unfold makeE; rw [if_neg h0, HM2.out]; rfl
              · (repeat (first | exact Below.refl _ _ | assumption | refine Below.setCell ?_ (by first | omega | (simp; done) | (simp; omega)) _ | refine Below.alloc ?_ (by first | omega | (simp; done) | (simp; omega)) _ | refine Below.drew ?_ | refine below_drewN ?_ _))
            · have HM2 : Hid (mkF n d = none) := Lib.hid (by rw [HM.out, if_neg hf])
              go_wp2
              all_goals
                refine bodyPost_ret (v := .tuple #[.agg #[.int .i64 0, .int .i64 0], .int .i64 6]) (by simp [results, Try.results40, go_sem]) rfl (HR.out _ _ ⟨?_, ?_⟩)
                · unfold makeE; rw [if_neg h0, HM2.out]; rfl
                · (repeat (first | exact Below.refl _ _ | assumption | refine Below.setCell ?_ (by first | omega | (simp; done) | (simp; omega)) _ | refine Below.alloc ?_ (by first | omega | (simp; done) | (simp; omega)) _ | refine Below.drew ?_ | refine below_drewN ?_ _))
        · have HG := Lib.hid hg
          clear hg
          have b1 : (-(q : Int) != 0) = true := by simp; omega
          have b2 : (-(q : Int) == 0) = false := by simp; omega
          have ht := tmod_neg_neg p q
          go_wp2
          go_quiet (fail)
          go_wp2
          have hlt : p % q < q := Nat.mod_lt _ (by omega)
          go_roundw
          case rel => exact ⟨q, p % q, hq, by omega, rfl, by first | rfl | (congr 1; omega), by rw [← HG.out, Nat.gcd_comm q, ← Nat.gcd_rec, Nat.gcd_comm], k + nq, by rw [World.drewN_drewN]⟩
          case measure => simp only [intOf]; omega

end Go.Proofs.Ytmhbfoaecebobaa
