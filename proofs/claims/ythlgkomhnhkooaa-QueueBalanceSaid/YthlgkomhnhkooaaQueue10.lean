/-
  Walks of casebook/queue: Valid. Conditions: none.
-/
import Derived.Test.YthlgkomhnhkooaaQueue9
import Derived.Test.YthlgkomhnhkooaaQRef2
namespace Go.Proofs.Ythlgkomhnhkooaa
set_option linter.unusedSimpArgs false
set_option linter.unusedVariables false
open Go.RowKit

set_option maxHeartbeats 4000000 in
theorem qvalid_any (ar se : Fr) (sv cp : Int) (w : World) :
    Calls Try.prog 24 #[.agg #[.int .i64 ar.n, .int .i64 ar.d, .int .i64 se.n, .int .i64 se.d, .int .i64 sv, .int .i64 cp]] w fun e w' => e = .returned (.bool (qokB ar se sv cp)) ∧ Below w.heap.size w w' := by
  refine calls_cps fun R hR => ?_
  have HR := Lib.hid hR
  clear hR
  go_enter Try.func24, Try.ntmps24
  go_wp2
  go_loopw [11] (fun v11 wr => ∃ k : Nat, k ≤ 2 ∧ v11 = .int .i64 k ∧ (∀ (j : Nat) (a : Fr), j < k → [ar, se][j]? = some a → wiB a = true) ∧ Mem [Loc.k6 w.heap.size (.int .i64 ar.n) (.int .i64 ar.d) (.int .i64 se.n) (.int .i64 se.d) (.int .i64 sv) (.int .i64 cp), Loc.rdF (w.heap.size + 1) (w.heap.size + 2) (.slice (some ⟨w.heap.size + 1, 0, none⟩) 2 2) [ar, se], Loc.bl w.heap.size w] wr) (fun v11 _ => 2 - (intOf v11).toNat)
  case atStart =>
    refine ⟨0, by omega, rfl, fun j a hj => by omega, K6.alloc (K6.new _ _ _ _ _ _ _ _) _, ?_, ⟨((Below.refl _ _).alloc (Nat.le_refl _) _).alloc (by simp) _, by simp; omega⟩, True.intro⟩
    have e := own_lit (w.alloc (.cells #[.int .i64 ar.n, .int .i64 ar.d, .int .i64 se.n, .int .i64 se.d, .int .i64 sv, .int .i64 cp] 25)) #[.int .i64 ar.n, .int .i64 ar.d, .int .i64 se.n, .int .i64 se.d] 23 (w.heap.size + 1) 2 2 rfl (by simp [maxLen]) (by simp)
    have e2 := RdG.of_own e
    simp only [World.size_alloc] at e2
    exact e2
  case round =>
    obtain ⟨k, hk, rfl, hall, M⟩ := hrel
    have HALL := Lib.hid hall
    clear hall
    by_cases hlt : k < 2
    · have hki : decide ((k : Int) < 2) = true := by simp; omega
      obtain ⟨b, off, he, lo2, hi2, f4, f5⟩ := RdF.at2 (l := [ar, se]) M.2.1 (gt_get (i := k) (by simp; omega))
      injection he with he
      injection he with he1 he2
      subst he1 he2
      obtain ⟨a, ha⟩ : ∃ a, gt [ar, se] k = a := ⟨_, rfl⟩
      have hag : [ar, se][k]? = some a := by rw [← ha]; exact gt_get (by simp; omega)
      rw [ha] at f4 f5
      simp only [Nat.zero_add] at f4 f5
      have HA := Lib.hid hag
      clear ha hag lo2 hi2
      go_wp2_with fail
      have p2 := K2.new wr (.int .i64 a.n) (.int .i64 a.d) 23
      replace M := M.alloc (.cells #[.int .i64 a.n, .int .i64 a.d] 23)
      refine (fracValid_any a _).mono ?_
      rintro e w1 ⟨rfl, hb1⟩
      replace p2 := K2.aft hb1 p2
      have HM := Lib.hid (M.below hb1)
      clear M hb1 f4 f5
      have hfin : wiB a = false → qokB ar se sv cp = false := by
        intro h
        have h2 := HA.out
        match k, hlt with
        | 0, _ => simp at h2; subst h2; simp [qokB, h]
        | 1, _ => simp at h2; subst h2; simp [qokB, h]
      have HFIN := Lib.hid hfin
      clear hfin
      cases hv : a.okB with
      | false =>
        go_wp2_with fail
        refine HR.out _ _ ⟨by rw [HFIN.out (by simp [wiB, hv])]; rfl, HM.out.2.2.1.1⟩
      | true =>
        by_cases h1 : 1 ≤ a.n
        · by_cases h2 : a.n < a.d
          · have d1 : decide (a.n < 1) = false := by simp; omega
            have d2 : decide (a.d ≤ a.n) = false := by simp; omega
            go_wp2_with fail
            go_roundw
            case rel =>
              refine ⟨k + 1, by omega, by go_num, fun j a' hj ha' => ?_, HM.out⟩
              rcases Nat.lt_or_eq_of_le (Nat.le_of_lt_succ hj) with h | h
              · exact HALL.out j a' h ha'
              · subst h
                rw [HA.out] at ha'
                injection ha' with ha'
                subst ha'
                simp [wiB, hv, h2]; omega
            case measure => simp [intOf]; omega
          · have d1 : decide (a.n < 1) = false := by simp; omega
            have d2 : decide (a.d ≤ a.n) = true := by simp; omega
            go_wp2_with fail
            refine HR.out _ _ ⟨by rw [HFIN.out (by simp [wiB, h2])]; rfl, HM.out.2.2.1.1⟩
        · have d1 : decide (a.n < 1) = true := by simp; omega
          go_wp2_with fail
          refine HR.out _ _ ⟨by rw [HFIN.out (by simp [wiB]; omega)]; rfl, HM.out.2.2.1.1⟩
    · have hki : decide ((k : Int) < 2) = false := by simp; omega
      obtain rfl : k = 2 := by omega
      have g1 : wiB ar = true := HALL.out 0 ar (by omega) rfl
      have g2 : wiB se = true := HALL.out 1 se (by omega) rfl
      have q1 := M.1
      have HM := Lib.hid M
      clear M
      by_cases h3 : 1 ≤ sv <;> by_cases h4 : sv ≤ 8 <;> by_cases h5 : sv ≤ cp <;> by_cases h6 : cp ≤ 15
      all_goals try (exfalso; omega)
      all_goals have HQ := Lib.hid (show qokB ar se sv cp = _ by simp only [qokB, g1, g2, h3, h4, h5, h6, decide_true, decide_false, Bool.true_and, Bool.and_true, Bool.and_false, Bool.false_and]; rfl)
      all_goals clear g1 g2
      all_goals
        go_wp2_with fail
        refine HR.out _ _ ⟨(by first | (rw [HQ.out]; done) | (rw [HQ.out]; rfl) | (rw [HQ.out]; simp; done) | (rw [HQ.out]; simp; omega)), HM.out.2.2.1.1⟩

end Go.Proofs.Ythlgkomhnhkooaa
