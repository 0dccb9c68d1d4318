/-
  Walks of casebookref42's Moves. Conditions: none.
-/
import Derived.Test.YtamhbmaimiifmaaMoves
namespace Go.Proofs.Ytamhbmaimiifmaa
set_option linter.unusedSimpArgs false
set_option linter.unusedVariables false
open Go.RowKit

def allA (n : Net) : Nat → List Stp
  | 0 => []
  | k + 1 => allA n k ++ [⟨1, k, (gti n.trans k).label⟩]
def allB (n : Net) : Nat → List Stp
  | 0 => []
  | k + 1 => allB n k ++ [⟨if (gti n.trans k).label.toList.isEmpty then 4 else 3, k, (gti n.trans k).label⟩]
theorem allA_len (n : Net) : ∀ k, (allA n k).length = k
  | 0 => rfl
  | k + 1 => by simp [allA, allA_len n k]
theorem allB_len (n : Net) : ∀ k, (allB n k).length = k
  | 0 => rfl
  | k + 1 => by simp [allB, allB_len n k]
def filtAt (n : Net) (w : List ByteArray) (s : List Int) (al : List Stp) : Nat → List Stp
  | 0 => []
  | k + 1 => filtAt n w s al k ++ if (ApplyE n w s (gti al k)).2 = 0 then [gti al k] else []
theorem filtAt_len (n : Net) (w : List ByteArray) (s : List Int) (al : List Stp) : ∀ k, (filtAt n w s al k).length ≤ k
  | 0 => by simp [filtAt]
  | k + 1 => by
    have := filtAt_len n w s al k
    have : (if (ApplyE n w s (gti al k)).2 = 0 then [gti al k] else []).length ≤ 1 := by split <;> simp
    simp only [filtAt, List.length_append]
    omega
def rAll (n : Net) (w : List ByteArray) (p : Int) : List Stp := allA n n.trans.length ++ logOf w p ++ allB n n.trans.length
theorem RdM.lit1E (W : World) (kd tr : Int) (ac : ByteArray) (t : TypeId) (b : Nat) (hb : W.heap.size = b) : RdM (W.alloc (.cells #[.int .i64 kd, .int .i64 tr, .string ac] t)) 0 (W.heap.size + 1) (.slice (some ⟨b, 0, none⟩) 1 1) [⟨kd, tr, ac⟩] := by
  subst hb
  exact Rd.lit W t [⟨kd, tr, ac⟩] _ 1 rfl rfl (by decide) (fun _ => rfl)
theorem owM_cast {w : World} {lo hi : Nat} {A : Option Addr} {c m : Nat} {l l' : List Stp} {L : List Loc} (h : Mem (Loc.owM lo hi (.slice A m c) l :: L) w) (hl : l = l') (hm : m = l'.length) : Mem (Loc.owM lo hi (.slice A l'.length c) l' :: L) w := by
  subst hl hm
  exact h

set_option maxRecDepth 100000 in
set_option maxHeartbeats 8000000 in
theorem rMoves_any (n : Net) (l : List ByteArray) (s : List Int) (vt v vs : Value) (lo hi lo' hi' lo2 hi2 : Nat) (w : World) (hv : RdT w lo hi vt n.trans) (hw : RdS w lo' hi' v l) (hs : RdI w lo2 hi2 vs s) (hz : stateB n l s = true) :
    Calls Try.prog 37 #[netV n vt, v, vs] w fun e w' => ∃ A c, e = .returned (.slice A (filtAt n l s (rAll n l (gti s 0)) (rAll n l (gti s 0)).length).length c) ∧ RdM w' w.heap.size w'.heap.size (.slice A (filtAt n l s (rAll n l (gti s 0)) (rAll n l (gti s 0)).length).length c) (filtAt n l s (rAll n l (gti s 0)) (rAll n l (gti s 0)).length) ∧ Below w.heap.size w w' := by
  obtain ⟨A, c, rfl, hc, hmm⟩ := hv.form
  obtain ⟨A2, c2, rfl, hc2, hmm2⟩ := hw.form
  obtain ⟨A3, c3, rfl, hc3, hmm3⟩ := hs.form
  have HV := Lib.hid hv
  have HW := Lib.hid hw
  have HS := Lib.hid hs
  clear hv hw
  obtain ⟨h1, h2, h3, h4, h5⟩ := stateB_facts hz
  have hval : n.trans.length ≤ 60 := by
    have := (stateB_iff.1 hz).2.2.2.2
    unfold markB at this
    simp only [Bool.and_eq_true] at this
    exact (validB_places this.1).2.2
  clear hz
  obtain ⟨b, off, rfl, _, _, hcell⟩ := RdI.at1 hs (k := 0) (by omega)
  have hs0 : (0 : Int) < (s.length : Int) := by omega
  have hs2 : ¬ s = [] := by intro e; rw [e] at h1; simp at h1
  have hs3 : 0 < s.length := h1
  clear hs
  simp only [Nat.add_zero] at hcell
  have HC := Lib.hid hcell
  clear hcell
  have HAP := Lib.hid (fun (m : Stp) (W : World) (h : Below w.heap.size w W) => rApply_any n l s m _ _ _ lo hi lo' hi' lo2 hi2 W (HV.out.after h) (HW.out.after h) (HS.out.after h))
  generalize gti s 0 = p at *
  obtain ⟨kp, rfl⟩ : ∃ k : Nat, p = k := ⟨p.toNat, by omega⟩
  refine calls_cps fun R hR => ?_
  have HR := Lib.hid hR
  clear hR
  go_enter Try.func37, Try.ntmps37
  have M : Hid (Mem [Loc.k4 w.heap.size (.int .i64 n.places) (.slice A n.trans.length c) (.int .i64 n.source) (.int .i64 n.sink), Loc.bl w.heap.size w] (w.alloc (.cells #[.int .i64 n.places, .slice A n.trans.length c, .int .i64 n.source, .int .i64 n.sink] 24))) := Lib.hid ⟨K4.new w _ _ _ _ _, ⟨(Below.refl _ _).alloc (Nat.le_refl _) _, by simp⟩, True.intro⟩
  have hk4 := M.out.1
  have hcell := C1.aft M.out.2.1.1 HC.out
  go_wp2_with fail
  go_loopw [9, 7] (fun v9 v7 wr => ∃ (k : Nat) (B : Option Addr) (d hh : Nat), k ≤ n.trans.length ∧ v9 = .int .i64 k ∧ v7 = .slice B (allA n k).length d ∧ hh ≤ wr.heap.size ∧ Hid (Mem [Loc.owM (w.heap.size + 1) hh (.slice B (allA n k).length d) (allA n k), Loc.k4 w.heap.size (.int .i64 n.places) (.slice A n.trans.length c) (.int .i64 n.source) (.int .i64 n.sink), Loc.bl w.heap.size w] wr)) (fun v9 _ _ => n.trans.length - (intOf v9).toNat)
  case atStart => exact ⟨0, none, 0, 0, by omega, rfl, rfl, by omega, Lib.hid ⟨Own.nil _ _ _, M.out.1, M.out.2.1, True.intro⟩⟩
  case round =>
    clear M hk4 hcell
    obtain ⟨k, B, d, hh, hk, rfl, rfl, hhs, M⟩ := hrel
    have hk4 := M.out.2.1
    have hz0 := M.out.2.1.2.2.2.2
    by_cases hlt : k < n.trans.length
    · obtain ⟨b4, off4, vi, vo, rfl, _, _, hct, hri, hro⟩ := RdT.at3 (HV.out.after M.out.2.2.1.1) hlt
      have HA : Hid (allA n k ++ [⟨1, k, (gti n.trans k).label⟩] = allA n (k + 1)) := Lib.hid rfl
      have hal := allA_len n k
      have HAL := Lib.hid hal
      have HAL1 := Lib.hid (allA_len n (k + 1))
      have hll : (allA n k).length ≤ 60 := by omega
      clear hal
      generalize allA n k = al at *
      generalize gti n.trans k = x at *
      go_wp2_with (at_builtin; refine wpList_app rfl _ _ rfl ti_step (fun _ => rfl) oneM rfl rfl (M.out.alloc _) (by (repeat' (first | exact True.intro | refine And.intro (fun k hk e => ?_) ?_)) <;> (first | exact e | ((try dsimp only [Loc.c1, Loc.c2, Loc.k1, Loc.k2, Loc.k3, Loc.k4, Loc.k6, Loc.fr, Loc.bl, Loc.own, Loc.sz, Loc.rd, Loc.rdI, Loc.rdS, Loc.rdM, Loc.rdT, Loc.ow, Loc.owI, Loc.owM] at hk e) <;> omega))) (RdM.lit1E _ _ _ _ _ _ rfl) (by first | omega | (simp; done) | (simp; omega)) (by first | omega | (simp; done) | (simp; omega)) (by first | omega | (simp; done) | (simp; omega)) ?_; intro A1 c1 w1 hM1 hs1 hch1; replace M := Lib.hid hM1; clear hM1 hch1)
      exact ⟨⟨k + 1, A1, c1, w1.heap.size, by omega, by go_num, by first | (rw [HAL1.out, HAL.out]; done) | (rw [HAL1.out, HAL.out]; rfl), Nat.le_refl _, Lib.hid (owM_cast M.out HA.out (by first | (rw [HAL1.out, HAL.out]; done) | (rw [HAL1.out, HAL.out]; rfl)))⟩, by simp [intOf]; omega⟩
    · obtain rfl : k = n.trans.length := by omega
      have hal := allA_len n n.trans.length
      have hcell := C1.aft M.out.2.2.1.1 HC.out
      have hll : (allA n n.trans.length).length ≤ 60 := by omega
      have HAL := Lib.hid hal
      clear hal
      have HRA : Hid (rAll n l kp = (allA n n.trans.length ++ logOf l kp) ++ allB n n.trans.length) := Lib.hid rfl
      generalize allA n n.trans.length = al at *
      go_upto_if 40 with (fail)
      go_cut [7] (fun v7 wx => ∃ (B : Option Addr) (d hh : Nat), v7 = .slice B (al ++ logOf l kp).length d ∧ hh ≤ wx.heap.size ∧ Hid (Mem [Loc.owM (w.heap.size + 1) hh (.slice B (al ++ logOf l kp).length d) (al ++ logOf l kp), Loc.k4 w.heap.size (.int .i64 n.places) (.slice A n.trans.length c) (.int .i64 n.source) (.int .i64 n.sink), Loc.bl w.heap.size w] wx))
      case first =>
        by_cases hp : kp < l.length
        · have hpi : (kp : Int) < l.length := by omega
          obtain ⟨b5, off5, rfl, _, _, hce5⟩ := RdS.at1 (HW.out.after M.out.2.2.1.1) hp
          have HLG : Hid (logOf l kp = [⟨2, -1, gti l kp⟩]) := Lib.hid (by unfold logOf; rw [if_pos hpi]; simp)
          generalize gti l kp = x5 at *
          go_wp2_with (at_builtin; refine wpList_app rfl _ _ rfl ti_step (fun _ => rfl) oneM rfl rfl (M.out.alloc _) (by (repeat' (first | exact True.intro | refine And.intro (fun k hk e => ?_) ?_)) <;> (first | exact e | ((try dsimp only [Loc.c1, Loc.c2, Loc.k1, Loc.k2, Loc.k3, Loc.k4, Loc.k6, Loc.fr, Loc.bl, Loc.own, Loc.sz, Loc.rd, Loc.rdI, Loc.rdS, Loc.rdM, Loc.rdT, Loc.ow, Loc.owI, Loc.owM] at hk e) <;> omega))) (RdM.lit1E _ _ _ _ _ _ rfl) (by first | omega | (simp; done) | (simp; omega)) (by first | omega | (simp; done) | (simp; omega)) (by first | omega | (simp; done) | (simp; omega)) ?_; intro A1 c1 w1 hM1 hs1 hch1; replace M := Lib.hid hM1; clear hM1 hch1)
          go_meet
          rw [HLG.out]
          exact ⟨A1, c1, w1.heap.size, by rw [List.length_append]; rfl, Nat.le_refl _, Lib.hid (owM_cast M.out rfl (by rw [List.length_append]))⟩
        · have hpi : ¬ (kp : Int) < l.length := by omega
          have HLG : Hid (logOf l kp = []) := Lib.hid (by unfold logOf; rw [if_neg hpi])
          go_wp2_with fail
          go_meet
          rw [HLG.out, List.append_nil]
          exact ⟨B, d, hh, rfl, hhs, M⟩
      case rest =>
        have hlo := logOf_len l kp
        generalize logOf l kp = lg at *
        clear M hk4 hcell hz0 hhs
        obtain ⟨B, d, hh, rfl, hhs, M⟩ := hcut
        have hk4 := M.out.2.1
        have ha0 : (al ++ lg).length ≤ 61 := by rw [List.length_append]; omega
        generalize al ++ lg = a0 at *
        go_wp2_with fail
        go_loopw [10, 7, 11] (fun v10 v7 _ wr => ∃ (k : Nat) (B : Option Addr) (d hh : Nat), k ≤ n.trans.length ∧ v10 = .int .i64 k ∧ v7 = .slice B (a0 ++ allB n k).length d ∧ hh ≤ wr.heap.size ∧ Hid (Mem [Loc.owM (w.heap.size + 1) hh (.slice B (a0 ++ allB n k).length d) (a0 ++ allB n k), Loc.k4 w.heap.size (.int .i64 n.places) (.slice A n.trans.length c) (.int .i64 n.source) (.int .i64 n.sink), Loc.bl w.heap.size w] wr)) (fun v10 _ _ _ => n.trans.length - (intOf v10).toNat)
        case atStart => exact ⟨0, B, d, hh, by omega, rfl, by simp [allB], hhs, by simpa [allB] using M⟩
        case round =>
          clear M hk4 hhs
          obtain ⟨k, B, d, hh, hk, rfl, rfl, hhs, M⟩ := hrel
          have hk4 := M.out.2.1
          have hz0 := M.out.2.1.2.2.2.2
          have hbl := allB_len n k
          have hcl : (a0 ++ allB n k).length ≤ 121 := by rw [List.length_append]; omega
          by_cases hlt : k < n.trans.length
          · obtain ⟨b4, off4, vi, vo, rfl, _, _, hct, hri, hro⟩ := RdT.at3 (HV.out.after M.out.2.2.1.1) hlt
            have HA : Hid ((a0 ++ allB n k) ++ [⟨if (gti n.trans k).label.toList.isEmpty then 4 else 3, k, (gti n.trans k).label⟩] = a0 ++ allB n (k + 1)) := Lib.hid (by rw [allB, List.append_assoc])
            generalize a0 ++ allB n k = al2 at *
            generalize gti n.trans k = x at *
            have HAL : Hid ((a0 ++ allB n (k + 1)).length = al2.length + 1) := Lib.hid (by rw [← HA.out, List.length_append]; rfl)
            obtain ⟨ze, hze⟩ : ∃ z, x.label.toList.isEmpty = z := ⟨_, rfl⟩
            rw [hze] at HA
            cases ze
            all_goals
              simp only [Bool.false_eq_true, if_false, if_true] at HA
              go_wp2_with (at_builtin; refine wpList_app rfl _ _ rfl ti_step (fun _ => rfl) oneM rfl rfl ((M.out.alloc _).alloc _) (by (repeat' (first | exact True.intro | refine And.intro (fun k hk e => ?_) ?_)) <;> (first | exact e | ((try dsimp only [Loc.c1, Loc.c2, Loc.k1, Loc.k2, Loc.k3, Loc.k4, Loc.k6, Loc.fr, Loc.bl, Loc.own, Loc.sz, Loc.rd, Loc.rdI, Loc.rdS, Loc.rdM, Loc.rdT, Loc.ow, Loc.owI, Loc.owM] at hk e) <;> omega))) (RdM.lit1E _ _ _ _ _ _ (by first | rfl | simp)) (by first | omega | (simp; done) | (simp; omega)) (by first | omega | (simp; done) | (simp; omega)) (by first | omega | (simp; done) | (simp; omega)) ?_; intro A1 c1 w1 hM1 hs1 hch1; replace M := Lib.hid hM1; clear hM1 hch1)
              exact ⟨⟨k + 1, A1, c1, w1.heap.size, by omega, by go_num, by first | (rw [HAL.out]; done) | (rw [HAL.out]; rfl), Nat.le_refl _, Lib.hid (owM_cast M.out HA.out (by first | (rw [HAL.out]; done) | (rw [HAL.out]; rfl)))⟩, by simp [intOf]; omega⟩
          · obtain rfl : k = n.trans.length := by omega
            rw [← HRA.out] at M hcl
            have hra := HRA.out
            generalize rAll n l kp = ra at *
            rw [← hra]
            clear HRA hra hbl
            obtain ⟨N3, hN3⟩ : ∃ N, N = wr.heap.size := ⟨_, rfl⟩
            have M3 : Hid (Mem [Loc.rdM (w.heap.size + 1) N3 (.slice B ra.length d) ra, Loc.k4 w.heap.size (.int .i64 n.places) (.slice A n.trans.length c) (.int .i64 n.source) (.int .i64 n.sink), Loc.bl w.heap.size w, Loc.sz N3] wr) := Lib.hid ⟨M.out.1.rd.mono (Nat.le_refl _) (by omega), M.out.2.1, M.out.2.2.1, by rw [hN3]; exact Nat.le_refl _, True.intro⟩
            have hNz : w.heap.size < N3 := by omega
            clear M hhs hN3
            go_wp2_with fail
            go_loopw [13, 12, 14, 15] (fun v13 v12 _ _ wr => ∃ (k : Nat) (B2 : Option Addr) (d2 hh2 : Nat), k ≤ ra.length ∧ v13 = .int .i64 k ∧ v12 = .slice B2 (filtAt n l s ra k).length d2 ∧ hh2 ≤ wr.heap.size ∧ Hid (Mem [Loc.owM N3 hh2 (.slice B2 (filtAt n l s ra k).length d2) (filtAt n l s ra k), Loc.rdM (w.heap.size + 1) N3 (.slice B ra.length d) ra, Loc.k4 w.heap.size (.int .i64 n.places) (.slice A n.trans.length c) (.int .i64 n.source) (.int .i64 n.sink), Loc.bl w.heap.size w, Loc.sz N3] wr)) (fun v13 _ _ _ _ => ra.length - (intOf v13).toNat)
            case atStart => exact ⟨0, none, 0, 0, by omega, rfl, rfl, by omega, Lib.hid ⟨Own.nil _ _ _, M3.out⟩⟩
            case round =>
              clear M3 hk4 hz0
              obtain ⟨k, B2, d2, hh2, hk, rfl, rfl, hhs, M⟩ := hrel
              have hk4 := M.out.2.2.1
              have hz0 := M.out.2.2.1.2.2.2.2
              have hzn := M.out.2.2.2.2.1
              by_cases hlt : k < ra.length
              · obtain ⟨b6, off6, rfl, _, _, hc6⟩ := RdM.at3 M.out.2.1 hlt
                have HF : Hid (filtAt n l s ra k ++ (if (ApplyE n l s (gti ra k)).2 = 0 then [gti ra k] else []) = filtAt n l s ra (k + 1)) := Lib.hid rfl
                have hfl := filtAt_len n l s ra k
                have hfl2 : (filtAt n l s ra k).length ≤ 121 := by omega
                have HAPk := Lib.hid (HAP.out (gti ra k))
                obtain ⟨⟨fl, fe⟩, hfe⟩ : ∃ r, ApplyE n l s (gti ra k) = r := ⟨_, rfl⟩
                rw [hfe] at HF HAPk
                dsimp only at HF
                clear hfe
                generalize filtAt n l s ra k = fk at *
                generalize gti ra k = x at *
                obtain ⟨kd, tr, ac⟩ := x
                simp only at hc6
                have hkb : (k : Int) < ra.length := by omega
                have hkd : decide ((k : Int) < (ra.length : Int)) = true := by simp; omega
                have hk0 : (0 : Int) ≤ k := by omega
                have HC6 := Lib.hid hc6
                by_cases he0 : fe = 0
                · subst he0
                  rw [if_pos rfl] at HF
                  have HFL : Hid ((filtAt n l s ra (k + 1)).length = fk.length + 1) := Lib.hid (by rw [← HF.out, List.length_append]; rfl)
                  go_wp2_with fail
                  go_region_held3 (fun W => K4 W w.heap.size (.int .i64 n.places) (.slice A n.trans.length c) (.int .i64 n.source) (.int .i64 n.sink) ∧ C3 W b6 (off6 + k * 3) (.int .i64 kd) (.int .i64 tr) (.string ac)) (exact ⟨hk4, hc6⟩) (first
                    | (go_at_call 33; refine (HAPk.out _ (by first | exact M.out.2.2.2.1.1 | exact M.out.drew.2.2.2.1.1)).mono ?_; rintro e w9 ⟨A9, c9, rfl, hr9, hb9⟩; have hz9 : wr.heap.size ≤ w9.heap.size := hb9.size; replace hc6 := C3.aft (by first | exact hb9 | exact (Below.refl _ _).drew.trans hb9) hc6; replace M := Lib.hid (Mem.below (by first | exact M.out | exact M.out.drew) hb9); clear hb9 hr9; dsimp only; replace hk4 := M.out.2.2.1; replace hzn := M.out.2.2.2.2.1; replace hz0 := M.out.2.2.1.2.2.2.2))
                  all_goals
                    go_wp2_with (at_builtin; refine wpList_app rfl _ _ rfl ti_step (fun _ => rfl) oneM rfl rfl (M.out.alloc _) (by (repeat' (first | exact True.intro | refine And.intro (fun k hk e => ?_) ?_)) <;> (first | exact e | ((try dsimp only [Loc.c1, Loc.c2, Loc.k1, Loc.k2, Loc.k3, Loc.k4, Loc.k6, Loc.fr, Loc.bl, Loc.own, Loc.sz, Loc.rd, Loc.rdI, Loc.rdS, Loc.rdM, Loc.rdT, Loc.ow, Loc.owI, Loc.owM] at hk e) <;> omega))) (RdM.lit1E _ _ _ _ _ _ (by first | rfl | simp)) (by first | omega | (simp; done) | (simp; omega)) (by first | omega | (simp; done) | (simp; omega)) (by first | omega | (simp; done) | (simp; omega)) ?_; intro A1 c1 w1 hM1 hs1 hch1; replace M := Lib.hid hM1; clear hM1 hch1)
                    have hk1 : k + 1 ≤ ra.length := by omega
                    have e12 : Value.slice A1 (fk.length + 1) c1 = .slice A1 (filtAt n l s ra (k + 1)).length c1 := by rw [HFL.out]
                    have hki : Value.int .i64 ((k : Int) + 1) = .int .i64 ((k + 1 : Nat) : Int) := by go_num
                    have hT := Lib.hid (owM_cast M.out HF.out (by rw [HFL.out]; rfl))
                    first
                      | exact ⟨⟨k + 1, A1, c1, w1.heap.size, hk1, hki, e12, Nat.le_refl _, hT⟩, by simp [intOf]; omega⟩
                      | (go_roundw
                         case rel => (first | exact ⟨k + 1, A1, c1, w1.heap.size, hk1, hki, e12, Nat.le_refl _, hT⟩ | ((repeat apply Exists.intro); exact ⟨⟨k + 1, A1, c1, w1.heap.size, hk1, hki, e12, Nat.le_refl _, hT⟩, rfl⟩))
                         case measure => simp [intOf]; omega)
                · rw [if_neg he0, List.append_nil] at HF
                  have be0 : (fe == 0) = false := by simpa using he0
                  go_wp2_with fail
                  go_region_held3 (fun W => K4 W w.heap.size (.int .i64 n.places) (.slice A n.trans.length c) (.int .i64 n.source) (.int .i64 n.sink) ∧ C3 W b6 (off6 + k * 3) (.int .i64 kd) (.int .i64 tr) (.string ac)) (exact ⟨hk4, hc6⟩) (first
                    | (go_at_call 33; refine (HAPk.out _ (by first | exact M.out.2.2.2.1.1 | exact M.out.drew.2.2.2.1.1)).mono ?_; rintro e w9 ⟨A9, c9, rfl, hr9, hb9⟩; have hz9 : wr.heap.size ≤ w9.heap.size := hb9.size; replace hc6 := C3.aft (by first | exact hb9 | exact (Below.refl _ _).drew.trans hb9) hc6; replace M := Lib.hid (Mem.below (by first | exact M.out | exact M.out.drew) hb9); clear hb9 hr9; dsimp only; replace hk4 := M.out.2.2.1; replace hzn := M.out.2.2.2.2.1; replace hz0 := M.out.2.2.1.2.2.2.2))
                  all_goals
                    go_wp2_with fail
                    have hk1 : k + 1 ≤ ra.length := by omega
                    have e12 : Value.slice B2 fk.length d2 = .slice B2 (filtAt n l s ra (k + 1)).length d2 := by rw [← HF.out]
                    have hki : Value.int .i64 ((k : Int) + 1) = .int .i64 ((k + 1 : Nat) : Int) := by go_num
                    have hT := Lib.hid (owM_cast M.out HF.out (by rw [HF.out]))
                    have hhn : hh2 ≤ w9.heap.size := by omega
                    first
                      | exact ⟨⟨k + 1, B2, d2, hh2, hk1, hki, e12, hhn, hT⟩, by simp [intOf]; omega⟩
                      | (go_roundw
                         case rel => (first | exact ⟨k + 1, B2, d2, hh2, hk1, hki, e12, hhn, hT⟩ | ((repeat apply Exists.intro); exact ⟨⟨k + 1, B2, d2, hh2, hk1, hki, e12, hhn, hT⟩, rfl⟩))
                         case measure => simp [intOf]; omega)
              · obtain rfl : k = ra.length := by omega
                go_wp2_with fail
                exact HR.out _ _ ⟨B2, d2, rfl, M.out.1.rd.mono (by omega) hhs, M.out.2.2.2.1.1⟩
end Go.Proofs.Ytamhbmaimiifmaa
