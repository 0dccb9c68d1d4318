/-
  ProductPossible, for every net, word, and list of numbers: each possible move can be applied, no other one can, and the possible moves are in their order, each once. Conditions: none.
-/
import Derived.Test.YtamhbmaimiifmaaPMoves
import Derived.Test.YtamhbmaimiifmaaPossQ
import Derived.Test.YtamhbmaimiifmaaWord
namespace Go.Proofs.Ytamhbmaimiifmaa
set_option linter.unusedSimpArgs false
set_option linter.unusedVariables false
open Go.ChangeShapes Go.WideShapes Go.ChangeAt Go.RowKit

theorem containsS_is {x : ByteArray} {l : List ByteArray} {z : Bool} (hz : hasS x l = z) (lo hi : Nat) (v : Value) (w : World) (hv : RdS w lo hi v l) :
    Calls Try.prog 41 #[v, .string x] w fun e w' => e = .returned (.bool z) ∧ Below w.heap.size w w' := hz ▸ containsS_any x l lo hi v w hv
theorem containsM_is {x : Stp} {l : List Stp} {z : Bool} (hz : hasM x l = z) (lo hi : Nat) (v : Value) (w : World) (hv : RdM w lo hi v l) :
    Calls Try.prog 40 #[v, stpV x] w fun e w' => e = .returned (.bool z) ∧ Below w.heap.size w w' := hz ▸ containsM_any x l lo hi v w hv
theorem Mem.litS {L : List Loc} {w : World} (hM : Mem L w) (x : ByteArray) : Mem (Loc.owS w.heap.size (w.heap.size + 1) (.slice (some ⟨w.heap.size, 0, none⟩) 1 1) [x] :: L) (w.alloc (.cells #[.string x] 9)) :=
  ⟨Own.lit w 9 w.heap.size [x] #[.string x] 1 rfl rfl (Nat.le_refl _) (by decide) (fun _ => rfl), hM.alloc _⟩
theorem owS_cast {w : World} {lo hi : Nat} {A : Option Addr} {c m : Nat} {l l' : List ByteArray} {L : List Loc} (h : Mem (Loc.owS lo hi (.slice A m c) l :: L) w) (hl : l = l') (hm : m = l'.length) : Mem (Loc.owS lo hi (.slice A l'.length c) l' :: L) w := by
  subst hl hm
  exact h
theorem ApplyE_nil {n : Net} {w : List ByteArray} {s : List Int} {m : Stp} (h : (ApplyE n w s m).2 ≠ 0) : (ApplyE n w s m).1 = [] := by
  unfold ApplyE at h ⊢
  split
  · rename_i hs
    rw [if_pos hs] at h
    unfold applyE at h ⊢
    split
    · rename_i c1
      rw [if_pos c1] at h
      split
      · rfl
      · rename_i c2
        rw [if_neg c2] at h
        split
        · rfl
        · rename_i c3
          rw [if_neg c3] at h
          split
          · rfl
          · rename_i c4
            rw [if_neg c4] at h
            exact absurd rfl h
    · rename_i c1
      rw [if_neg c1] at h
      split
      · rfl
      · rename_i c2
        rw [if_neg c2] at h
        split
        · rfl
        · rename_i c3
          rw [if_neg c3] at h
          split
          · rfl
          · rename_i c4
            rw [if_neg c4] at h
            split
            · rfl
            · rename_i c5
              rw [if_neg c5] at h
              exact absurd rfl h
  · rfl
theorem ent_rank : Ent 42 := ent_of Try.func42 (by kernel_rfl) rfl
set_option maxHeartbeats 400000 in
theorem rank_any (m : Stp) (w : World) (h : 0 ≤ rankE m ∧ rankE m ≤ 300) : Calls Try.prog 42 #[stpV m] w fun e w' => e = .returned (.int .i64 (rankE m)) ∧ Below w.heap.size w w' := by
  obtain ⟨kd, tr, ac⟩ := m
  unfold rankE at h ⊢
  simp only at h ⊢
  by_cases h1 : kd = 1
  · subst h1
    clear h
    refine calls_cps fun R hR => ?_
    have HR := Lib.hid hR
    clear hR
    go_enter Try.func42, Try.ntmps42
    go_wp2_with fail
    exact HR.out _ _ ⟨ret_int (by simp), (Below.refl _ _).alloc (Nat.le_refl _) _⟩
  · by_cases h2 : kd = 2
    · subst h2
      clear h
      refine calls_cps fun R hR => ?_
      have HR := Lib.hid hR
      clear hR
      go_enter Try.func42, Try.ntmps42
      go_wp2_with fail
      exact HR.out _ _ ⟨ret_int (by simp), (Below.refl _ _).alloc (Nat.le_refl _) _⟩
    · rw [if_neg h1, if_neg h2] at h ⊢
      have b1 : (kd == 1) = false := by simpa using h1
      have b2 : (kd == 2) = false := by simpa using h2
      refine calls_cps fun R hR => ?_
      have HR := Lib.hid hR
      clear hR
      go_enter Try.func42, Try.ntmps42
      go_wp2_with fail
      exact HR.out _ _ ⟨ret_int (by first | rfl | omega), (Below.refl _ _).alloc (Nat.le_refl _) _⟩
theorem cK_bd (n : Net) (w : List ByteArray) (s : List Int) (acts : List ByteArray) : ∀ k, 0 ≤ cK n w s acts k ∧ cK n w s acts k ≤ k * ((n.trans.length + 1) * acts.length : Nat)
  | 0 => by simp [cK]
  | k + 1 => by
    have h1 := cK_bd n w s acts k
    have h2 := cT_bd n w s ((k : Int) + 1) acts (n.trans.length + 1)
    simp only [cK]
    rw [show ((k + 1 : Nat) : Int) * (((n.trans.length + 1) * acts.length : Nat) : Int) = k * (((n.trans.length + 1) * acts.length : Nat) : Int) + (((n.trans.length + 1) * acts.length : Nat) : Int) by rw [Int.natCast_add, Int.add_mul]; simp]
    rw [Int.natCast_mul (n.trans.length + 1) acts.length] at h1 ⊢
    omega
theorem cnt_bd (n : Net) (w : List ByteArray) (s : List Int) (acts : List ByteArray) (hn : n.trans.length ≤ 60) (ha : acts.length ≤ 261) (k i j : Nat) (hk : k ≤ 4) (hi : i ≤ n.trans.length + 1) (hj : j ≤ acts.length) (kd t : Int) :
    0 ≤ cK n w s acts k + cT n w s kd acts i + cA n w s kd t acts j ∧ cK n w s acts k + cT n w s kd acts i + cA n w s kd t acts j ≤ 100000 := by
  have h1 := cK_bd n w s acts k
  have h2 := cT_bd n w s kd acts i
  have h3 := cA_bd n w s kd t acts j
  have hB : (n.trans.length + 1) * acts.length ≤ 61 * 261 := Nat.mul_le_mul (by omega) ha
  have hC : i * acts.length ≤ 61 * 261 := Nat.mul_le_mul (by omega) ha
  have hD : k * ((n.trans.length + 1) * acts.length) ≤ 4 * (61 * 261) := Nat.mul_le_mul hk hB
  have e1 : (k : Int) * (((n.trans.length + 1) * acts.length : Nat) : Int) = ((k * ((n.trans.length + 1) * acts.length) : Nat) : Int) := (Int.natCast_mul k _).symm
  have e2 : (i : Int) * (acts.length : Int) = ((i * acts.length : Nat) : Int) := (Int.natCast_mul i _).symm
  rw [e1] at h1
  rw [e2] at h2
  omega

set_option maxRecDepth 100000 in
set_option maxHeartbeats 16000000 in
theorem lawPossible_any (n : Net) (l : List ByteArray) (s : List Int) (vt v vs : Value) (lo hi lo2 hi2 : Nat) (w : World) (hv : RdT w lo hi vt n.trans) (hw : RdS w lo hi v l) (hs : RdI w lo2 hi2 vs s) :
    Calls Try.prog 8 #[netV n vt, v, vs] w fun e w' => e = .returned (.bool true) ∧ Below w.heap.size w w' := by
  obtain ⟨A, ca, rfl, hc, hmm⟩ := hv.form
  obtain ⟨A2, c2, rfl, hc2, hmm2⟩ := hw.form
  obtain ⟨A3, c3, rfl, hc3, hmm3⟩ := hs.form
  have HV := Lib.hid hv
  have HW := Lib.hid hw
  have HS := Lib.hid hs
  clear hv hw hs
  cases hz : stateB n l s with
  | false =>
    have HME : Hid (MovesE n l s = ([], 1)) := Lib.hid (by rw [MovesE, hz]; rfl)
    clear hz
    refine calls_cps fun R hR => ?_
    have HR := Lib.hid hR
    clear hR
    go_enter Try.func8, Try.ntmps8
    have M : Hid (Mem [Loc.k4 w.heap.size (.int .i64 n.places) (.slice A n.trans.length ca) (.int .i64 n.source) (.int .i64 n.sink), Loc.bl w.heap.size w] (w.alloc (.cells #[.int .i64 n.places, .slice A n.trans.length ca, .int .i64 n.source, .int .i64 n.sink] 24))) := Lib.hid ⟨K4.new w _ _ _ _ _, ⟨(Below.refl _ _).alloc (Nat.le_refl _) _, by simp⟩, True.intro⟩
    have hk4 := M.out.1
    go_wp2_with (first
      | (go_at_call 9; refine (awake_any _).mono ?_; rintro e w1 ⟨rfl, hb1⟩; replace M := Lib.hid (M.out.below hb1); clear hb1; replace hk4 := M.out.1)
      | (go_at_call 10; refine (few_any n l lo hi _ _ _ (HV.out.after M.out.2.1.1) (HW.out.after M.out.2.1.1)).mono ?_; rintro e w1 ⟨z1, rfl, hb1⟩; replace M := Lib.hid (M.out.below hb1); clear hb1; replace hk4 := M.out.1)
      | (go_at_call 34; refine (Moves_any n l s _ _ _ lo hi lo hi lo2 hi2 _ (HV.out.after M.out.2.1.1) (HW.out.after M.out.2.1.1) (HS.out.after M.out.2.1.1)).mono ?_; rintro e w10 hret; replace hret := hret.of HME.out; obtain ⟨A10, c10, rfl, hr, hb⟩ := hret; dsimp only; replace M := Lib.hid (M.out.below hb); clear hb hr))
    all_goals exact HR.out _ _ ⟨rfl, M.out.2.1.1⟩
  | true =>
    have HME : Hid (MovesE n l s = (movesL n l s, 0)) := Lib.hid (by rw [MovesE, hz]; rfl)
    have hval : n.trans.length ≤ 60 := by
      have := (stateB_iff.1 hz).2.2.2.2
      unfold markB at this
      simp only [Bool.and_eq_true] at this
      exact (validB_places this.1).2.2
    have hf := stateB_facts hz
    have hl200 := hf.2.2.2.2
    clear hf
    have hasc := moves_asc (n := n) (w := l) (s := s) hval
    have HASC := Lib.hid hasc
    have HCM := Lib.hid (fun x => can_mem hz (x := x))
    have HCK := Lib.hid (fun acts hn hl hw => cK_all hz (acts := acts) hn hl hw)
    have HAP := Lib.hid (fun (m : Stp) (W : World) (h : Below w.heap.size w W) => Apply_any n l s m _ _ _ lo hi lo hi lo2 hi2 W (HV.out.after h) (HW.out.after h) (HS.out.after h))
    clear hz hasc
    generalize movesL n l s = mv at *
    refine calls_cps fun R hR => ?_
    have HR := Lib.hid hR
    clear hR
    go_enter Try.func8, Try.ntmps8
    have M : Hid (Mem [Loc.k4 w.heap.size (.int .i64 n.places) (.slice A n.trans.length ca) (.int .i64 n.source) (.int .i64 n.sink), Loc.bl w.heap.size w] (w.alloc (.cells #[.int .i64 n.places, .slice A n.trans.length ca, .int .i64 n.source, .int .i64 n.sink] 24))) := Lib.hid ⟨K4.new w _ _ _ _ _, ⟨(Below.refl _ _).alloc (Nat.le_refl _) _, by simp⟩, True.intro⟩
    have hk4 := M.out.1
    go_wp2_with (first
      | (go_at_call 9; refine (awake_any _).mono ?_; rintro e w1 ⟨rfl, hb1⟩; replace M := Lib.hid (M.out.below hb1); clear hb1; replace hk4 := M.out.1)
      | (go_at_call 10; refine (few_any n l lo hi _ _ _ (HV.out.after M.out.2.1.1) (HW.out.after M.out.2.1.1)).mono ?_; rintro e w1 ⟨z1, rfl, hb1⟩; replace M := Lib.hid (M.out.below hb1); clear hb1; replace hk4 := M.out.1)
      | (go_at_call 34; refine (Moves_any n l s _ _ _ lo hi lo hi lo2 hi2 _ (HV.out.after M.out.2.1.1) (HW.out.after M.out.2.1.1) (HS.out.after M.out.2.1.1)).mono ?_; rintro e w10 hret; replace hret := hret.of HME.out; obtain ⟨A7, c7, rfl, hr, hb⟩ := hret; dsimp only at hr ⊢; replace M := Lib.hid (Mem.cons (a := Loc.rdM 0 w10.heap.size _ _) (hr.mono (Nat.zero_le _) (Nat.le_refl _)) (M.out.below hb)); clear hb hr; replace hk4 := M.out.2.1; have hz10 := M.out.2.1.2.2.2.2))
    all_goals try exact HR.out _ _ ⟨rfl, M.out.2.1.1⟩
    have hml : mv.length ≤ 9223372036854775807 := by
      obtain ⟨_, _, _, _, h⟩ := M.out.1.form
      exact h
    replace M : Hid (Mem [Loc.rdM 0 w10.heap.size (.slice A7 mv.length c7) mv, Loc.k4 w.heap.size (.int .i64 n.places) (.slice A n.trans.length ca) (.int .i64 n.source) (.int .i64 n.sink), Loc.bl w.heap.size w, Loc.sz w10.heap.size] w10) := Lib.hid ⟨M.out.1, M.out.2.1, M.out.2.2.1, Nat.le_refl _, True.intro⟩
    replace M := Lib.hid (Mem.litS M.out ByteArray.empty)
    replace hk4 := M.out.2.2.1
    go_wp2_with fail
    go_loopw [51, 10, 12] (fun v51 v10 _ wr => ∃ (k : Nat) (B : Option Addr) (d hh : Nat), k ≤ n.trans.length ∧ v51 = .int .i64 k ∧ v10 = .slice B (actsT n k).length d ∧ hh ≤ wr.heap.size ∧ Hid (Mem [Loc.owS w10.heap.size hh (.slice B (actsT n k).length d) (actsT n k), Loc.rdM 0 w10.heap.size (.slice A7 mv.length c7) mv, Loc.k4 w.heap.size (.int .i64 n.places) (.slice A n.trans.length ca) (.int .i64 n.source) (.int .i64 n.sink), Loc.bl w.heap.size w, Loc.sz w10.heap.size] wr)) (fun v51 _ _ _ => n.trans.length - (intOf v51).toNat)
    case atStart => exact ⟨0, _, _, _, by omega, rfl, rfl, by simp, M⟩
    case round =>
      clear M hk4
      obtain ⟨k, B, d, hh, hk, rfl, rfl, hhs, M⟩ := hrel
      have hk4 := M.out.2.2.1
      have hbl := M.out.2.2.2.2.1
      have hat := (actsT_ok n k).2.1
      have hal : (actsT n k).length ≤ 61 := by omega
      by_cases hlt : k < n.trans.length
      · obtain ⟨b4, off4, vi, vo, rfl, _, _, hct, hri, hro⟩ := RdT.at3 (HV.out.after M.out.2.2.2.1.1) hlt
        have HA : Hid (actsT n (k + 1) = if hasS (gti n.trans k).label (actsT n k) then actsT n k else actsT n k ++ [(gti n.trans k).label]) := Lib.hid rfl
        obtain ⟨Ai, ci, rfl, hci, hmi⟩ := hri.form
        obtain ⟨Ao, co, rfl, hco, hmo⟩ := hro.form
        clear hri hro hat
        generalize actsT n k = ac0 at *
        generalize gti n.trans k = x at *
        obtain ⟨z, hzz⟩ : ∃ z, hasS x.label ac0 = z := ⟨_, rfl⟩
        have HZZ := Lib.hid hzz
        rw [hzz] at HA
        clear hzz
        replace M : Hid (Mem (Loc.k3 wr.heap.size (.string x.label) (.slice Ai x.inn.length ci) (.slice Ao x.out.length co) :: [Loc.owS w10.heap.size hh (.slice B ac0.length d) ac0, Loc.rdM 0 w10.heap.size (.slice A7 mv.length c7) mv, Loc.k4 w.heap.size (.int .i64 n.places) (.slice (some ⟨b4, off4, none⟩) n.trans.length ca) (.int .i64 n.source) (.int .i64 n.sink), Loc.bl w.heap.size w, Loc.sz w10.heap.size]) (wr.alloc (.cells #[.string x.label, .slice Ai x.inn.length ci, .slice Ao x.out.length co] 72))) := Lib.hid ⟨K3.new wr _ _ _ _, M.out.alloc _⟩
        have hkt := M.out.1
        cases z
        · simp only [Bool.false_eq_true, if_false] at HA
          have HAL : Hid ((actsT n (k + 1)).length = ac0.length + 1) := Lib.hid (by rw [HA.out, List.length_append]; rfl)
          go_wp2_with (first
            | (go_at_call 41; refine (containsS_is HZZ.out _ _ _ _ M.out.2.1.rd).mono ?_; rintro e w2 ⟨rfl, hb⟩; have hzb := hb.size; replace M := Lib.hid (M.out.below hb); clear hb; replace hkt := M.out.1; have hz3 := M.out.1.2.2.2; replace M := Lib.hid M.out.2; replace hbl := M.out.2.2.2.2.1; simp at hzb)
            | (at_builtin; refine wpList_app rfl _ _ rfl ti_string (fun _ => rfl) oneS rfl rfl (M.out.alloc _) (by (repeat' (first | exact True.intro | refine And.intro (fun k hk e => ?_) ?_)) <;> (first | exact e | ((try dsimp only [Loc.c1, Loc.c2, Loc.k1, Loc.k2, Loc.k3, Loc.k4, Loc.k6, Loc.fr, Loc.bl, Loc.own, Loc.sz, Loc.rd, Loc.rdI, Loc.rdS, Loc.rdM, Loc.rdT, Loc.ow, Loc.owI, Loc.owS] at hk e) <;> omega))) (RdS.lit1E _ _ _ _ (by first | rfl | simp)) (by first | omega | (simp; done) | (simp; omega)) (by first | omega | (simp; done) | (simp; omega)) (by first | omega | (simp; done) | (simp; omega)) ?_; intro A1 c1 w1 hM1 hs1 hch1; replace M := Lib.hid hM1; clear hM1 hch1))
          exact ⟨⟨k + 1, A1, c1, w1.heap.size, by omega, by go_num, by first | (rw [HAL.out]; done) | (rw [HAL.out]; rfl), Nat.le_refl _, Lib.hid (owS_cast M.out HA.out.symm (by first | (rw [HAL.out]; done) | (rw [HAL.out]; rfl)))⟩, by simp [intOf]; omega⟩
        · simp only [if_true] at HA
          go_wp2_with (go_at_call 41; refine (containsS_is HZZ.out _ _ _ _ M.out.2.1.rd).mono ?_; rintro e w2 ⟨rfl, hb⟩; have hzb := hb.size; replace M := Lib.hid (M.out.below hb).2; clear hb; simp at hzb)
          exact ⟨⟨k + 1, B, d, hh, by omega, by go_num, by rw [HA.out], by omega, Lib.hid (owS_cast M.out HA.out.symm (by rw [HA.out]))⟩, by simp [intOf]; omega⟩
      · obtain rfl : k = n.trans.length := by omega
        clear hal hat
        go_wp2_with fail
        go_loopw [68, 10, 14] (fun v68 v10 _ wr => ∃ (k : Nat) (B : Option Addr) (d hh : Nat), k ≤ l.length ∧ v68 = .int .i64 k ∧ v10 = .slice B (actsW n l k).length d ∧ hh ≤ wr.heap.size ∧ Hid (Mem [Loc.owS w10.heap.size hh (.slice B (actsW n l k).length d) (actsW n l k), Loc.rdM 0 w10.heap.size (.slice A7 mv.length c7) mv, Loc.k4 w.heap.size (.int .i64 n.places) (.slice A n.trans.length ca) (.int .i64 n.source) (.int .i64 n.sink), Loc.bl w.heap.size w, Loc.sz w10.heap.size] wr)) (fun v68 _ _ _ => l.length - (intOf v68).toNat)
        case atStart => exact ⟨0, _, _, _, by omega, rfl, rfl, hhs, M⟩
        case round =>
          clear M hk4 hhs hbl
          obtain ⟨k, B, d, hh, hk, rfl, rfl, hhs, M⟩ := hrel
          have hk4 := M.out.2.2.1
          have hbl := M.out.2.2.2.2.1
          have hat := (actsW_ok n l k).2.1
          have hal : (actsW n l k).length ≤ 261 := by omega
          by_cases hlt : k < l.length
          · obtain ⟨b5, off5, rfl, _, _, hc5⟩ := RdS.at1 (HW.out.after M.out.2.2.2.1.1) hlt
            have HA : Hid (actsW n l (k + 1) = if hasS (gti l k) (actsW n l k) then actsW n l k else actsW n l k ++ [gti l k]) := Lib.hid rfl
            clear hat
            generalize actsW n l k = ac0 at *
            generalize gti l k = x at *
            obtain ⟨z, hzz⟩ : ∃ z, hasS x ac0 = z := ⟨_, rfl⟩
            have HZZ := Lib.hid hzz
            rw [hzz] at HA
            clear hzz
            cases z
            · simp only [Bool.false_eq_true, if_false] at HA
              have HAL : Hid ((actsW n l (k + 1)).length = ac0.length + 1) := Lib.hid (by rw [HA.out, List.length_append]; rfl)
              go_wp2_with (first
                | (go_at_call 41; refine (containsS_is HZZ.out _ _ _ _ M.out.1.rd).mono ?_; rintro e w2 ⟨rfl, hb⟩; have hzb := hb.size; replace M := Lib.hid (M.out.below hb); clear hb; replace hbl := M.out.2.2.2.2.1)
                | (at_builtin; refine wpList_app rfl _ _ rfl ti_string (fun _ => rfl) oneS rfl rfl (M.out.alloc _) (by (repeat' (first | exact True.intro | refine And.intro (fun k hk e => ?_) ?_)) <;> (first | exact e | ((try dsimp only [Loc.c1, Loc.c2, Loc.k1, Loc.k2, Loc.k3, Loc.k4, Loc.k6, Loc.fr, Loc.bl, Loc.own, Loc.sz, Loc.rd, Loc.rdI, Loc.rdS, Loc.rdM, Loc.rdT, Loc.ow, Loc.owI, Loc.owS] at hk e) <;> omega))) (RdS.lit1E _ _ _ _ (by first | rfl | simp)) (by first | omega | (simp; done) | (simp; omega)) (by first | omega | (simp; done) | (simp; omega)) (by first | omega | (simp; done) | (simp; omega)) ?_; intro A1 c1 w1 hM1 hs1 hch1; replace M := Lib.hid hM1; clear hM1 hch1))
              exact ⟨⟨k + 1, A1, c1, w1.heap.size, by omega, by go_num, by first | (rw [HAL.out]; done) | (rw [HAL.out]; rfl), Nat.le_refl _, Lib.hid (owS_cast M.out HA.out.symm (by first | (rw [HAL.out]; done) | (rw [HAL.out]; rfl)))⟩, by simp [intOf]; omega⟩
            · simp only [if_true] at HA
              go_wp2_with (go_at_call 41; refine (containsS_is HZZ.out _ _ _ _ M.out.1.rd).mono ?_; rintro e w2 ⟨rfl, hb⟩; have hzb := hb.size; replace M := Lib.hid (M.out.below hb); clear hb)
              exact ⟨⟨k + 1, B, d, hh, by omega, by go_num, by rw [HA.out], by omega, Lib.hid (owS_cast M.out HA.out.symm (by rw [HA.out]))⟩, by simp [intOf]; omega⟩
          · obtain rfl : k = l.length := by omega
            have hAO := actsW_ok n l l.length
            have HAO := Lib.hid hAO
            clear hAO hat
            generalize actsW n l l.length = acts at *
            obtain ⟨N4, hN4⟩ : ∃ N, N = wr.heap.size := ⟨_, rfl⟩
            have M4 : Hid (Mem [Loc.rdS 0 N4 (.slice B acts.length d) acts, Loc.rdM 0 w10.heap.size (.slice A7 mv.length c7) mv, Loc.k4 w.heap.size (.int .i64 n.places) (.slice A n.trans.length ca) (.int .i64 n.source) (.int .i64 n.sink), Loc.bl w.heap.size w] wr) := Lib.hid ⟨M.out.1.rd.mono (Nat.zero_le _) (by omega), M.out.2.1, M.out.2.2.1, M.out.2.2.2.1, True.intro⟩
            have HB4 := Lib.hid (cnt_bd n l s acts hval hal)
            have HAM : Hid (acts.length ≤ 9223372036854775807) := Lib.hid (by omega)
            clear M hk4 hbl hN4 hhs
            go_wp2_with fail
            go_loopw [15, 9, 16, 18, 19, 20, 21] (fun v15 v9 _ _ _ _ _ wr => ∃ k : Nat, k ≤ 4 ∧ v15 = .int .i64 ((k : Int) + 1) ∧ v9 = .int .i64 (cK n l s acts k) ∧ Hid (Mem [Loc.rdS 0 N4 (.slice B acts.length d) acts, Loc.rdM 0 w10.heap.size (.slice A7 mv.length c7) mv, Loc.k4 w.heap.size (.int .i64 n.places) (.slice A n.trans.length ca) (.int .i64 n.source) (.int .i64 n.sink), Loc.bl w.heap.size w] wr)) (fun v15 _ _ _ _ _ _ _ => (5 - intOf v15).toNat)
            case atStart => exact ⟨0, by omega, rfl, rfl, M4⟩
            case round =>
              clear M4
              obtain ⟨k, hk, rfl, rfl, M⟩ := hrel
              have hk4 := M.out.2.2.1
              by_cases hlt : k < 4
              · have hle : (k : Int) + 1 ≤ 4 := by omega
                have hled : decide ((k : Int) + 1 ≤ 4) = true := decide_eq_true hle
                go_wp2_with fail
                go_loopw [16, 9, 18, 19, 20, 21] (fun v16 v9 _ _ _ _ wr => ∃ i : Nat, i ≤ n.trans.length + 1 ∧ v16 = .int .i64 ((i : Int) - 1) ∧ v9 = .int .i64 (cK n l s acts k + cT n l s ((k : Int) + 1) acts i) ∧ Hid (Mem [Loc.rdS 0 N4 (.slice B acts.length d) acts, Loc.rdM 0 w10.heap.size (.slice A7 mv.length c7) mv, Loc.k4 w.heap.size (.int .i64 n.places) (.slice A n.trans.length ca) (.int .i64 n.source) (.int .i64 n.sink), Loc.bl w.heap.size w] wr)) (fun v16 _ _ _ _ _ _ => (n.trans.length - intOf v16).toNat)
                case atStart => exact ⟨0, by omega, rfl, by simp [cT], M⟩
                case round =>
                  clear M hk4
                  obtain ⟨i, hi, rfl, rfl, M⟩ := hrel
                  have hk4 := M.out.2.2.1
                  by_cases hlti : i < n.trans.length + 1
                  · have hlt2 : (i : Int) - 1 < n.trans.length := by omega
                    go_wp2_with fail
                    go_loopw [94, 9, 18, 19, 20, 21] (fun v94 v9 _ _ _ _ wr => ∃ j : Nat, j ≤ acts.length ∧ v94 = .int .i64 j ∧ v9 = .int .i64 (cK n l s acts k + cT n l s ((k : Int) + 1) acts i + cA n l s ((k : Int) + 1) ((i : Int) - 1) acts j) ∧ Hid (Mem [Loc.rdS 0 N4 (.slice B acts.length d) acts, Loc.rdM 0 w10.heap.size (.slice A7 mv.length c7) mv, Loc.k4 w.heap.size (.int .i64 n.places) (.slice A n.trans.length ca) (.int .i64 n.source) (.int .i64 n.sink), Loc.bl w.heap.size w] wr)) (fun v94 _ _ _ _ _ _ => acts.length - (intOf v94).toNat)
                    case atStart => exact ⟨0, by omega, rfl, by simp [cA], M⟩
                    case round =>
                      clear M hk4
                      obtain ⟨j, hj, rfl, rfl, M⟩ := hrel
                      have hk4 := M.out.2.2.1
                      by_cases hltj : j < acts.length
                      · obtain ⟨b6, off6, rfl, _, _, hc6⟩ := RdS.at1 M.out.1 hltj
                        have hcb := HB4.out k i j (by omega) (by omega) (by omega) ((k : Int) + 1) ((i : Int) - 1)
                        have HC1 : Hid (cK n l s acts k + cT n l s ((k : Int) + 1) acts i + cA n l s ((k : Int) + 1) ((i : Int) - 1) acts (j + 1) = cK n l s acts k + cT n l s ((k : Int) + 1) acts i + cA n l s ((k : Int) + 1) ((i : Int) - 1) acts j + if canB n l s ⟨(k : Int) + 1, (i : Int) - 1, gti acts j⟩ then 1 else 0) := Lib.hid (by rw [cA]; omega)
                        have HHM := Lib.hid (HCM.out ⟨(k : Int) + 1, (i : Int) - 1, gti acts j⟩ (by unfold kindB; simp; omega))
                        have HNI := Lib.hid (ApplyE_nil (n := n) (w := l) (s := s) (m := ⟨(k : Int) + 1, (i : Int) - 1, gti acts j⟩))
                        have HAX := Lib.hid (HAP.out ⟨(k : Int) + 1, (i : Int) - 1, gti acts j⟩)
                        have HCX : Hid (canB n l s ⟨(k : Int) + 1, (i : Int) - 1, gti acts j⟩ = decide ((ApplyE n l s ⟨(k : Int) + 1, (i : Int) - 1, gti acts j⟩).2 = 0)) := Lib.hid rfl
                        rw [HCX.out] at HHM HC1
                        obtain ⟨⟨fl, fe⟩, hfe⟩ : ∃ r, ApplyE n l s ⟨(k : Int) + 1, (i : Int) - 1, gti acts j⟩ = r := ⟨_, rfl⟩
                        rw [hfe] at HHM HC1 HNI HAX
                        dsimp only at HHM HC1 HNI
                        clear hfe HCX
                        generalize cK n l s acts k + cT n l s ((k : Int) + 1) acts i + cA n l s ((k : Int) + 1) ((i : Int) - 1) acts j = cnt at *
                        generalize gti acts j = a at *
                        obtain ⟨kk, hkk⟩ : ∃ x : Int, x = (k : Int) + 1 := ⟨_, rfl⟩
                        obtain ⟨ii, hii⟩ : ∃ x : Int, x = (i : Int) - 1 := ⟨_, rfl⟩
                        replace M : Hid (Mem (Loc.k3 wr.heap.size (.int .i64 ((k : Int) + 1)) (.int .i64 ((i : Int) - 1)) (.string a) :: [Loc.rdS 0 N4 (.slice (some ⟨b6, off6, none⟩) acts.length d) acts, Loc.rdM 0 w10.heap.size (.slice A7 mv.length c7) mv, Loc.k4 w.heap.size (.int .i64 n.places) (.slice A n.trans.length ca) (.int .i64 n.source) (.int .i64 n.sink), Loc.bl w.heap.size w]) (wr.alloc (.cells #[.int .i64 ((k : Int) + 1), .int .i64 ((i : Int) - 1), .string a] 57))) := Lib.hid ⟨K3.new wr _ _ _ _, M.out.alloc _⟩
                        have hkt := M.out.1
                        replace hk4 := M.out.2.2.2.1
                        clear kk hkk ii hii
                        by_cases he0 : fe = 0
                        · subst he0
                          rw [decide_eq_true rfl] at HHM
                          simp only [decide_true, if_true] at HC1
                          go_wp2_with (first | (go_at_call 32; refine (HAX.out _ M.out.2.2.2.2.1.1).mono ?_; rintro e w2 ⟨A8, c8, rfl, hr, hb⟩; replace M := Lib.hid (M.out.below hb); clear hb hr; dsimp only; replace hkt := M.out.1; replace hk4 := M.out.2.2.2.1) | (go_at_call 40; refine (containsM_is HHM.out _ _ _ _ M.out.2.2.1).mono ?_; rintro e w3 ⟨rfl, hb⟩; replace M := Lib.hid (M.out.below hb); clear hb; replace hkt := M.out.1))
                          exact ⟨⟨j + 1, by omega, by go_num, by rw [HC1.out], Lib.hid M.out.2⟩, by simp [intOf]; omega⟩
                        · rw [decide_eq_false he0] at HHM HC1
                          simp only [Bool.false_eq_true, if_false, Int.add_zero] at HC1
                          have hnil := HNI.out he0
                          subst hnil
                          have be0 : (fe != 0) = true := by simpa using he0
                          have be1 : (fe == 0) = false := by simpa using he0
                          go_wp2_with (first | (go_at_call 32; refine (HAX.out _ M.out.2.2.2.2.1.1).mono ?_; rintro e w2 ⟨A8, c8, rfl, hr, hb⟩; replace M := Lib.hid (M.out.below hb); clear hb hr; dsimp only; replace hkt := M.out.1; replace hk4 := M.out.2.2.2.1) | (go_at_call 40; refine (containsM_is HHM.out _ _ _ _ M.out.2.2.1).mono ?_; rintro e w3 ⟨rfl, hb⟩; replace M := Lib.hid (M.out.below hb); clear hb; replace hkt := M.out.1))
                          exact ⟨⟨j + 1, by omega, by go_num, by rw [HC1.out], Lib.hid M.out.2⟩, by simp [intOf]; omega⟩
                      · obtain rfl : j = acts.length := by omega
                        have HT1 : Hid (cK n l s acts k + cT n l s ((k : Int) + 1) acts i + cA n l s ((k : Int) + 1) ((i : Int) - 1) acts acts.length = cK n l s acts k + cT n l s ((k : Int) + 1) acts (i + 1)) := Lib.hid (by rw [cT]; omega)
                        rw [HT1.out]
                        go_wp2_with fail
                        exact ⟨⟨i + 1, by omega, by first | rfl | (go_num) | (congr 1; omega), rfl, M⟩, by simp [intOf]; omega⟩
                  · obtain rfl : i = n.trans.length + 1 := by omega
                    have hlt2 : ¬ (((n.trans.length + 1 : Nat) : Int) - 1 < n.trans.length) := by omega
                    have HT1 : Hid (cK n l s acts k + cT n l s ((k : Int) + 1) acts (n.trans.length + 1) = cK n l s acts (k + 1)) := Lib.hid rfl
                    rw [HT1.out]
                    go_wp2_with fail
                    exact ⟨⟨k + 1, by omega, by first | rfl | go_num | (congr 1; omega), rfl, M⟩, by simp [intOf]; omega⟩
              · obtain rfl : k = 4 := by omega
                have hle : ¬ (((4 : Nat) : Int) + 1 ≤ 4) := by omega
                rw [HCK.out acts HAO.out.1 HAO.out.2.2.1 HAO.out.2.2.2]
                go_wp2_with fail
                go_loopw [23] (fun v23 wr => ∃ j : Nat, 1 ≤ j ∧ j ≤ mv.length + 1 ∧ v23 = .int .i64 j ∧ Hid (Mem [Loc.rdS 0 N4 (.slice B acts.length d) acts, Loc.rdM 0 w10.heap.size (.slice A7 mv.length c7) mv, Loc.k4 w.heap.size (.int .i64 n.places) (.slice A n.trans.length ca) (.int .i64 n.source) (.int .i64 n.sink), Loc.bl w.heap.size w] wr)) (fun v23 _ => mv.length + 1 - (intOf v23).toNat)
                case atStart => exact ⟨1, by omega, by omega, rfl, M⟩
                case round =>
                  clear M hk4
                  obtain ⟨j, hj1, hj2, rfl, M⟩ := hrel
                  by_cases hltj : j < mv.length
                  · obtain ⟨q, hjq⟩ : ∃ q, j = q + 1 := ⟨j - 1, by omega⟩
                    have HJQ := Lib.hid hjq
                    obtain ⟨b7, off7, rfl, _, _, hc0⟩ := RdM.at3 M.out.2.1 (k := q) (by omega)
                    obtain ⟨_, _, e7, _, _, hc1⟩ := RdM.at3 M.out.2.1 (k := j) hltj
                    injection e7 with e7
                    injection e7 with e71 e72
                    subst e71 e72
                    have hr : rankE (gti mv q) < rankE (gti mv j) := by
                      have := asc_at HASC.out.1 (k := q) (by omega)
                      rw [← hjq] at this
                      exact this
                    have hb0 := HASC.out.2 _ (gti_mem (l := mv) (k := q) (by omega))
                    have hb1 := HASC.out.2 _ (gti_mem (l := mv) (k := j) hltj)
                    have HR0 := Lib.hid (fun W => rank_any (gti mv q) W hb0)
                    have HR1 := Lib.hid (fun W => rank_any (gti mv j) W hb1)
                    generalize rankE (gti mv q) = r0 at *
                    generalize rankE (gti mv j) = r1 at *
                    generalize gti mv q = x0 at *
                    generalize gti mv j = x1 at *
                    obtain ⟨k0, t0, a0⟩ := x0
                    obtain ⟨k1, t1, a1⟩ := x1
                    simp only at hc0 hc1
                    have hq0 : (0 : Int) ≤ q := by omega
                    have hq1 : (q : Int) < mv.length := by omega
                    have hq2 : (j : Int) < mv.length := by omega
                    have hq3 : (0 : Int) ≤ j := by omega
                    have HRB := Lib.hid hr
                    have hwq : IntKind.i64.wrap ((j : Int) - 1) = (q : Int) := (IntWalk.i64_in _ (by omega)).trans (by omega)
                    have HWQ := Lib.hid hwq
                    clear hr hb0 hb1 hjq hwq
                    go_wp2_with fail
                    have hwq := HWQ.out
                    have hrf : ¬ r1 ≤ r0 := by have := HRB.out; omega
                    have hrd : decide (r1 ≤ r0) = false := decide_eq_false hrf
                    have hent := ent_rank
                    unfold Ent at hent
                    refine wp_region_cls (C := (Mem [Loc.c3 b7 (off7 + q * 3) (.int .i64 k0) (.int .i64 t0) (.string a0), Loc.c3 b7 (off7 + j * 3) (.int .i64 k1) (.int .i64 t1) (.string a1), Loc.rdS 0 N4 (.slice B acts.length d) acts, Loc.rdM 0 w10.heap.size (.slice (some ⟨b7, off7, none⟩) mv.length c7) mv, Loc.k4 w.heap.size (.int .i64 n.places) (.slice A n.trans.length ca) (.int .i64 n.source) (.int .i64 n.sink), Loc.bl w.heap.size w])) (by kernel_rfl) (by kernel_rfl) (by exact Mem.drew (l := [Loc.c3 _ _ _ _ _, Loc.c3 _ _ _ _ _, _, _, _, _]) ⟨hc0, hc1, M.out⟩) ?_
                    clear hk hlt hle hq3
                    iterate 7 (first
                    | (refine BigFrame.wpQuiet_skip (by rfl) ?_; simp only [Act.put, List.setIfInBounds_toArray, List.set_cons_zero, List.set_cons_succ])
                    | (refine BigFrame.wpQuiet_want (by rfl) (fun K hK => ?_); refine BigFrame.quiet_move _ rfl (hK _ ?_); clear hK K; simp only [Act.put, Act.eval, List.setIfInBounds_toArray, List.set_cons_zero, List.set_cons_succ, List.getD_toArray, List.getD_cons_zero, List.getD_cons_succ])
                    | (refine BigFrame.wpQuiet_want (by rfl) (fun K hK => ?_); refine BigFrame.quiet_assign _ rfl (hK _ ?_); clear hK K; simp only [Act.put, Act.eval, List.setIfInBounds_toArray, List.set_cons_zero, List.set_cons_succ, List.getD_toArray, List.getD_cons_zero, List.getD_cons_succ])
                    | (refine BigFrame.wpQuiet_want (by rfl) (fun K hK => ?_); refine quiet_of (v := ?_) (fun W hW => ?_) (hK _ ?_); rotate_left; ((have hq1 := hW.1; have hq2 := hW.2.1; dsimp only [Loc.c3] at hq1 hq2); go_simp; try (with_reducible rfl)); clear hK K; simp only [Act.put, List.setIfInBounds_toArray, List.set_cons_zero, List.set_cons_succ])
                    | (refine BigFrame.wpQuiet_want (by rfl) (fun K hK => ?_); go_simp; apply Exists.intro; refine ⟨fun W hW => ?_, hK _ ?_⟩; (exact (HR0.out _).mono (fun e w' h => ⟨h.1, hW.below h.2⟩)); clear hK K; try simp only [Act.put, List.setIfInBounds_toArray, List.set_cons_zero, List.set_cons_succ])
                    | fail)
                    clear HR0
                    repeat (first
                      | (refine BigFrame.wpQuiet_skip (by rfl) ?_; simp only [Act.put, List.setIfInBounds_toArray, List.set_cons_zero, List.set_cons_succ])
                      | (refine BigFrame.wpQuiet_want (by rfl) (fun K hK => ?_); refine BigFrame.quiet_move _ rfl (hK _ ?_); clear hK K; simp only [Act.put, Act.eval, List.setIfInBounds_toArray, List.set_cons_zero, List.set_cons_succ, List.getD_toArray, List.getD_cons_zero, List.getD_cons_succ])
                      | (refine BigFrame.wpQuiet_want (by rfl) (fun K hK => ?_); refine BigFrame.quiet_assign _ rfl (hK _ ?_); clear hK K; simp only [Act.put, Act.eval, List.setIfInBounds_toArray, List.set_cons_zero, List.set_cons_succ, List.getD_toArray, List.getD_cons_zero, List.getD_cons_succ])
                      | (refine BigFrame.wpQuiet_want (by rfl) (fun K hK => ?_); refine quiet_of (v := ?_) (fun W hW => ?_) (hK _ ?_); rotate_left; ((have hq1 := hW.1; have hq2 := hW.2.1; dsimp only [Loc.c3] at hq1 hq2); go_simp; try (with_reducible rfl)); clear hK K; simp only [Act.put, List.setIfInBounds_toArray, List.set_cons_zero, List.set_cons_succ])
                      | (refine BigFrame.wpQuiet_want (by rfl) (fun K hK => ?_); go_simp; apply Exists.intro; refine ⟨fun W hW => ?_, hK _ ?_⟩; (exact (HR1.out _).mono (fun e w' h => ⟨h.1, hW.below h.2⟩)); clear hK K; try simp only [Act.put, List.setIfInBounds_toArray, List.set_cons_zero, List.set_cons_succ])
                      | fail)
                    refine wpQuiet_nil ?_
                    intro W hW
                    go_wp2_with fail
                    have hjj : 1 ≤ j + 1 := by omega
                    have hjk : j + 1 ≤ mv.length + 1 := by omega
                    have hki : Value.int .i64 ((j : Int) + 1) = .int .i64 ((j + 1 : Nat) : Int) := by go_num
                    have hmm9 : Hid (Mem [Loc.rdS 0 N4 (.slice B acts.length d) acts, Loc.rdM 0 w10.heap.size (.slice (some ⟨b7, off7, none⟩) mv.length c7) mv, Loc.k4 w.heap.size (.int .i64 n.places) (.slice A n.trans.length ca) (.int .i64 n.source) (.int .i64 n.sink), Loc.bl w.heap.size w] W) := Lib.hid hW.2.2
                    first
                      | exact ⟨⟨j + 1, hjj, hjk, hki, hmm9⟩, by simp [intOf]; omega⟩
                      | (go_roundw
                         case rel => (first | exact ⟨j + 1, hjj, hjk, hki, hmm9⟩ | ((repeat apply Exists.intro); exact ⟨⟨j + 1, hjj, hjk, hki, hmm9⟩, rfl⟩))
                         case measure => simp [intOf]; omega)
                  · have hjn : ¬ (j : Int) < mv.length := by omega
                    go_wp2_with fail
                    exact HR.out _ _ ⟨ret_bool (by simp), M.out.2.2.2.1.1⟩

set_option maxRecDepth 100000 in
theorem productPossible_lifted (os : Os) (started : os.Started) (H : Type) (enc : TypeId × Value → H) :
    ReturnsInHanded {} Try.checked os 8 .any (Rows.productPossibleSpec.pre6 enc Try.prog Try.f8 Rows.productPossibleRow.domain false) (Rows.productPossibleSpec.post enc Try.prog Try.f8 false true false false) := by
  refine returnsInHanded_of_change (C := Try.checked) own_knob started (by kernel_rfl) Try.func8
    (ChangeSpec.witness6 (enc := enc) (C := Try.checked) false ⟨#[], #[.agg #[.int .i64 0, .slice none 0 0, .int .i64 0, .int .i64 0], .slice none 0 0, .slice none 0 0], []⟩ 8 (by kernel_rfl) (by kernel_rfl) (by kernel_rfl) (by kernel_rfl)) ?_
  intro W base args ds gs before hval0 hW hcnd _
  have hval : ∀ (j : Nat) t v, Try.f8.params[j]? = some t → args[j]? = some v → Value.okWide Try.prog W .any base t v := hval0
  have hW' := hW
  obtain ⟨p, q, hA0, hV, rfl, hfz, hnd⟩ := hW
  have hA : DataW.TrodAll enc Try.prog W 0 (fun _ => true) true Try.f8.params.toList args.toList ds p := hA0
  rw [Try.params8] at hA hval
  obtain ⟨v0, v1, v2, d0, d1, d2, p0, p1, p2, rfl, rfl, rfl, h0, h1, h2⟩ := trodAll_three hA
  obtain ⟨rfl, rfl⟩ := trodVars_none hV
  obtain ⟨n, vt, rfl, rn⟩ := open_net (hval 0 24 v0 rfl rfl) h0
  obtain ⟨l, rl⟩ := open_strs' (hval 1 25 v1 rfl rfl) h1
  obtain ⟨s, rs⟩ := open_ints' (hval 2 44 v2 rfl rfl) h2
  simp only [List.append_nil] at hW'
  refine (lawPossible_any n l s vt v1 v2 0 _ 0 _ W rn rl rs).mono fun e W' ⟨he, hb⟩ => ?_
  subst he
  have hp : ∀ x ∈ p0 ++ p1 ++ p2, x.block < W.heap.size := fun x hx => hW'.lt x (by simpa using hx)
  have hg := trodAll_mk3 (Below.trod laid_out (by kernel_rfl) (of_decide_eq_true (by kernel_rfl)) h0 hb (fun x hx => hp x (by simp [hx]))) (Below.trod laid_out (by kernel_rfl) (of_decide_eq_true (by kernel_rfl)) h1 hb (fun x hx => hp x (by simp [hx]))) (Below.trod laid_out (by kernel_rfl) (of_decide_eq_true (by kernel_rfl)) h2 hb (fun x hx => hp x (by simp [hx])))
  rw [← List.append_assoc] at hg
  exact ⟨_, rfl, law_post (t := 4) hW' (by kernel_rfl) Try.underlying4 ⟨rfl, rfl, rfl⟩ rfl hg hb⟩

theorem productPossible_holds : Rows.ProductPossibleSaid :=
  OpenClaim.holds_of_wide 8 Try.f8 rfl rfl rfl rfl rfl rfl rfl ⟨rfl, rfl, rfl, rfl, rfl⟩ rfl rfl rfl rfl rfl (by kernel_rfl) Try.func8 (by kernel_rfl)
    (of_decide_eq_true (by kernel_rfl)) (by unfold Func.isWrapper; first | (rw [if_pos (by decide +kernel)]; kernel_rfl) | (rw [if_neg (by decide +kernel)]; exact ⟨rfl, rfl⟩))
    (fun os started H enc _ => productPossible_lifted os started H enc)

#print axioms productPossible_holds

end Go.Proofs.Ytamhbmaimiifmaa
