/-
  Walks of slices.Concat at steps. Conditions: none.
-/
import Derived.Test.YtamhbmaimiifmaaGrow
namespace Go.Proofs.Ytamhbmaimiifmaa
set_option linter.unusedSimpArgs false
set_option linter.unusedVariables false
open Go.RowKit

abbrev encQ (v : Value) : List Value := [v]
abbrev RdQ := Rd 1 encQ
theorem RdQ.at1 {w : World} {lo hi : Nat} {A : Option Addr} {c : Nat} {l : List Value} (h : RdQ w lo hi (.slice A l.length c) l) {k : Nat} (hk : k < l.length) :
    ∃ b off, A = some ⟨b, off, none⟩ ∧ lo ≤ b ∧ b < hi ∧ C1 w b (off + k) (gti l k) := by
  obtain ⟨b, off, hA, h1, h2, hc⟩ := Rd.at_ h (fun _ => rfl) (gti_get hk)
  exact ⟨b, off, hA, h1, h2, by have := hc 0 _ rfl; rw [Nat.mul_one] at this; exact this⟩
def flat (ls : List (List Stp)) : Nat → List Stp
  | 0 => []
  | k + 1 => flat ls k ++ gti ls k
theorem flat_eq (ls : List (List Stp)) : ∀ k, k ≤ ls.length → flat ls k = (ls.take k).flatten
  | 0, _ => by simp [flat]
  | k + 1, h => by
    rw [flat, flat_eq ls k (by omega), List.take_succ_eq_append_getElem (by omega), List.flatten_append]
    congr 1
    unfold gti
    rw [List.getElem?_eq_getElem (by omega)]
    simp
theorem flat_le (ls : List (List Stp)) (k : Nat) (h : k ≤ ls.length) : (flat ls k).length ≤ ls.flatten.length := by
  rw [flat_eq ls k h]
  conv => rhs; rw [← List.take_append_drop k ls, List.flatten_append, List.length_append]
  omega
theorem flat_all (ls : List (List Stp)) : flat ls ls.length = ls.flatten := by rw [flat_eq ls _ (Nat.le_refl _), List.take_length]

set_option maxHeartbeats 2000000 in
theorem concat_any (vs : List Value) (ls : List (List Stp)) (v : Value) (lo hi lo2 hi2 : Nat) (w : World) (hv : RdQ w lo hi v vs) (hlen : vs.length = ls.length) (hr : ∀ k, k < ls.length → RdM w lo2 hi2 (gti vs k) (gti ls k)) (hb : ls.flatten.length ≤ 10000) :
    Calls Try.prog 78 #[v] w fun e w' => ∃ A c, e = .returned (.slice A ls.flatten.length c) ∧ RdM w' w.heap.size w'.heap.size (.slice A ls.flatten.length c) ls.flatten ∧ Below w.heap.size w w' := by
  obtain ⟨A, c, rfl, hc, hm⟩ := hv.form
  have HV := Lib.hid hv
  have HRR := Lib.hid hr
  have HB := Lib.hid hb
  clear hv hr hb
  have HLE := Lib.hid hlen
  rw [hlen] at hc hm
  clear hlen
  refine calls_cps fun R hR => ?_
  have HR := Lib.hid hR
  clear hR
  go_enter Try.func78, Try.ntmps78
  rw [HLE.out]
  go_wp2_with fail
  go_loop [11, 3, 5] (fun v11 v3 _ => ∃ k : Nat, k ≤ ls.length ∧ v11 = .int .i64 k ∧ v3 = .int .i64 ((flat ls k).length : Nat)) (fun v11 _ _ => ls.length - (intOf v11).toNat)
  case atStart => exact ⟨0, by omega, rfl, rfl⟩
  case round =>
    obtain ⟨k, hk, rfl, rfl⟩ := hrel
    by_cases hlt : k < ls.length
    · have hv0 := HV.out
      obtain ⟨b, off, rfl, _, _, hcell⟩ := RdQ.at1 hv0 (k := k) (by rw [HLE.out]; exact hlt)
      obtain ⟨B, d, hg, _, hm2⟩ := (HRR.out k hlt).form
      rw [hg] at hcell
      have h1 := flat_le ls (k + 1) (by omega)
      have h2 := HB.out
      have HF : Hid ((flat ls (k + 1)).length = (flat ls k).length + (gti ls k).length) := Lib.hid (by rw [flat, List.length_append])
      rw [HF.out] at h1
      clear hg hv0
      generalize (flat ls k).length = x at *
      generalize (gti ls k).length = y at *
      have h3 : ls.flatten.length ≤ 10000 := h2
      go_wp2_with fail
      refine ⟨⟨k + 1, by omega, by go_num, by rw [HF.out]; go_num⟩, by simp [intOf]; omega⟩
    · obtain rfl : k = ls.length := by omega
      have hfl : (flat ls ls.length).length ≤ 100000 := by rw [flat_all]; have := HB.out; omega
      have M : Hid (Mem [Loc.bl w.heap.size w] w) := Lib.hid ⟨⟨Below.refl _ _, Nat.le_refl _⟩, True.intro⟩
      have HFN := Lib.hid hfl
      go_wp2_with (go_at_call 98; refine (growM_any _ _ HFN.out).mono ?_; rintro e w1 ⟨A1, c1, rfl, ho1, hb1⟩; replace M : Hid (Mem [Loc.owM w.heap.size w1.heap.size (.slice A1 0 c1) [], Loc.bl w.heap.size w] w1) := Lib.hid ⟨ho1, M.out.below hb1⟩; clear hb1 ho1)
      go_loopw [27, 6, 8] (fun v27 v6 _ wr => ∃ (j : Nat) (B : Option Addr) (d hh : Nat), j ≤ ls.length ∧ v27 = .int .i64 j ∧ v6 = .slice B (flat ls j).length d ∧ hh ≤ wr.heap.size ∧ Hid (Mem [Loc.owM w.heap.size hh (.slice B (flat ls j).length d) (flat ls j), Loc.bl w.heap.size w] wr)) (fun v27 _ _ _ => ls.length - (intOf v27).toNat)
      case atStart => exact ⟨0, A1, c1, _, by omega, rfl, rfl, Nat.le_refl _, M⟩
      case round =>
        clear M
        obtain ⟨j, B, d, hh, hj, rfl, rfl, hhs, M⟩ := hrel
        by_cases hltj : j < ls.length
        · have hv0 := HV.out.after M.out.2.1.1
          obtain ⟨b, off, rfl, _, _, hcell⟩ := RdQ.at1 hv0 (k := j) (by rw [HLE.out]; exact hltj)
          obtain ⟨B2, d2, hg, _, hm2⟩ := (HRR.out j hltj).form
          have HX := HRR.out j hltj
          rw [hg] at hcell HX
          have h1 := flat_le ls (j + 1) (by omega)
          have h2 := HB.out
          have HF : Hid (flat ls (j + 1) = flat ls j ++ gti ls j) := Lib.hid rfl
          rw [HF.out, List.length_append] at h1
          have hws := M.out.2.1.2
          have HXX := Lib.hid HX
          clear hg hv0 HX
          have h3 : ls.flatten.length ≤ 10000 := h2
          generalize flat ls j = cur at *
          generalize gti ls j = xs at *
          go_wp2_with (at_builtin; refine wpList_app rfl _ _ rfl ti_step (fun _ => rfl) oneM rfl rfl (M.out) (by (repeat' (first | exact True.intro | refine And.intro (fun k hk e => ?_) ?_)) <;> (first | exact e | ((try dsimp only [Loc.c1, Loc.c2, Loc.k1, Loc.k2, Loc.k3, Loc.k4, Loc.k6, Loc.fr, Loc.bl, Loc.own, Loc.sz, Loc.rd, Loc.rdI, Loc.rdS, Loc.rdM, Loc.rdT, Loc.ow, Loc.owI, Loc.owM] at hk e) <;> omega))) (HXX.out.after M.out.2.1.1) (by omega) (by omega) (by omega) ?_; intro A2 c2 w2 hM1 hs1 hch1; replace M := Lib.hid hM1; clear hM1 hch1)
          have hM := M.out
          have hl1 : (flat ls (j + 1)).length = cur.length + xs.length := by rw [HF.out, List.length_append]
          rw [← HF.out, ← hl1] at hM
          refine ⟨⟨j + 1, A2, c2, _, by omega, by go_num, by rw [hl1], Nat.le_refl _, Lib.hid hM⟩, by simp [intOf]; omega⟩
        · obtain rfl : j = ls.length := by omega
          have hfa := flat_all ls
          have HFA := Lib.hid hfa
          clear hfa
          go_wp2_with fail
          have hM := M.out
          rw [HFA.out] at hM
          refine HR.out _ _ ⟨B, d, ?_, hM.1.rd.mono (Nat.le_refl _) hhs, hM.2.1.1⟩
          rw [HFA.out]
          rfl
end Go.Proofs.Ytamhbmaimiifmaa
