/-
  Walks of petri's and casebookref21's places. Conditions: none.
-/
import Derived.Test.YtmhbfoaecebobaaPlaces
namespace Go.Proofs.Ytmhbfoaecebobaa
set_option linter.unusedSimpArgs false
set_option linter.unusedVariables false
open Go.RowKit

set_option maxHeartbeats 2000000 in
theorem places2_any (n : Int) (l : List Int) (lo hi : Nat) (v : Value) (w : World) (hv : RdI w lo hi v l) :
    Calls Try.prog 88 #[.int .i64 n, v] w fun e w' => e = .returned (.bool (placesB n l)) ∧ Below w.heap.size w w' := by
  obtain ⟨A, c, rfl, hc, hm⟩ := hv.form
  have HV := Lib.hid hv
  clear hv
  refine calls_cps fun R hR => ?_
  have HR := Lib.hid hR
  clear hR
  go_enter Try.func88, Try.ntmps88
  go_wp2
  go_loopw [5] (fun v9 wr => ∃ k : Nat, k ≤ l.length ∧ v9 = .int .i64 k ∧ Hid (∀ j, j < k → ¬ badP n l j) ∧ ∃ m, wr = w.drewN m) (fun v9 _ => l.length - (intOf v9).toNat)
  case atStart => exact ⟨0, by omega, rfl, Lib.hid (fun j h => by omega), 0, rfl⟩
  case round =>
    obtain ⟨k, hk, rfl, HP, m, rfl⟩ := hrel
    by_cases hlt : k < l.length
    · have hkd : decide ((k : Int) < (l.length : Int)) = true := by simp; omega
      have hkb : (k : Int) < (l.length : Int) := by omega
      obtain ⟨b, off, rfl, _, _, hcell⟩ := RdI.at1 HV.out hlt
      have HF : badP n l k → Hid (placesB n l = false) := fun h => Lib.hid (placesB_false hlt h)
      have HG : ¬ badP n l k → Hid (∀ j, j < k + 1 → ¬ badP n l j) := fun h => Lib.hid (fun j hj => by
        by_cases hjk : j < k
        · exact HP.out j hjk
        · (obtain rfl : j = k := by omega)
          exact h)
      unfold badP at HF HG
      have HFF := Lib.hid HF
      have HGG := Lib.hid HG
      clear HF HG HP
      by_cases g1 : gti l k < 0
      · have HF := HFF.out (.inl g1)
        have b1 := decide_eq_true g1
        go_wp2
        go_quiet (fail)
        go_wp2
        exact HR.out _ _ ⟨(by first | (rw [HF.out]; done) | (rw [HF.out]; rfl)), by first | exact below_drewN (Below.refl _ _) _ | exact below_drewN (below_drewN (Below.refl _ _) _) _⟩
      · have b1 := decide_eq_false g1
        by_cases g2 : n ≤ gti l k
        · have HF := HFF.out (.inr (.inl g2))
          have b2 := decide_eq_true g2
          go_wp2
          go_quiet (fail)
          go_wp2
          exact HR.out _ _ ⟨(by first | (rw [HF.out]; done) | (rw [HF.out]; rfl)), by first | exact below_drewN (Below.refl _ _) _ | exact below_drewN (below_drewN (Below.refl _ _) _) _⟩
        · have b2 := decide_eq_false g2
          rcases Nat.eq_zero_or_pos k with rfl | hpos
          · have HP := HGG.out (by omega)
            have hcell0 : C1 w b off (.int .i64 (gti l 0)) := hcell
            go_wp2
            go_quiet (fail)
            go_wp2
            go_roundw
            case rel => exact ⟨0 + 1, by omega, by go_num, HP, m + nq, by first | rfl | rw [World.drewN_drewN]⟩
            case measure => simp [intOf]; omega
          · have b3 : decide ((0 : Int) < (k : Int)) = true := decide_eq_true (by omega)
            obtain ⟨j, rfl⟩ : ∃ j, k = j + 1 := ⟨k - 1, by omega⟩
            obtain ⟨_, _, e, _, _, hcell2⟩ := RdI.at1 HV.out (k := j) (by omega)
            injection e with e
            injection e with e1 e2
            subst e1 e2
            by_cases g3 : gti l (j + 1) ≤ gti l j
            · have HF := HFF.out (.inr (.inr ⟨hpos, g3⟩))
              have b4 := decide_eq_true g3
              go_wp2
              go_quiet (fail)
              go_wp2
              exact HR.out _ _ ⟨(by first | (rw [HF.out]; done) | (rw [HF.out]; rfl)), by first | exact below_drewN (Below.refl _ _) _ | exact below_drewN (below_drewN (Below.refl _ _) _) _⟩
            · have b4 := decide_eq_false g3
              have HP := HGG.out (by simp only [Nat.add_sub_cancel]; omega)
              go_wp2
              go_quiet (fail)
              go_wp2
              go_roundw
              case rel => exact ⟨j + 1 + 1, by omega, by go_num, HP, m + nq, by first | rfl | rw [World.drewN_drewN]⟩
              case measure => simp [intOf]; omega
    · have hkd : decide ((k : Int) < (l.length : Int)) = false := by simp; omega
      go_wp2
      have HF := placesB_true (fun j hj => HP.out j (by omega))
      exact HR.out _ _ ⟨(by first | (rw [HF]; done) | (rw [HF]; rfl)), by first | exact below_drewN (Below.refl _ _) _ | exact below_drewN (below_drewN (Below.refl _ _) _) _⟩
end Go.Proofs.Ytmhbfoaecebobaa
