/-
  ProductBoth, for every net, word, costs, and choices: from any word and any run from the initial to the final marking there is a right alignment, in which nothing is synchronous, and its moves are possible one after the other. Conditions: none.
-/
import Derived.Test.YtamhbmaimiifmaaPMoves
import Derived.Test.YtamhbmaimiifmaaPSound
import Derived.Test.YtamhbmaimiifmaaBothP
import Derived.Test.YtamhbmaimiifmaaOwn2
import Derived.Deep.CutBlock
namespace Go.Proofs.Ytamhbmaimiifmaa
set_option linter.unusedSimpArgs false
set_option linter.unusedVariables false
open Go.ChangeShapes Go.WideShapes Go.ChangeAt Go.RowKit

abbrev encB (x : Int) : List Value := [.int .u8 x]
abbrev RdB := Rd 1 encB
theorem RdB.at1 {w : World} {lo hi : Nat} {A : Option Addr} {c : Nat} {l : List Int} (h : RdB w lo hi (.slice A l.length c) l) {k : Nat} (hk : k < l.length) :
    ∃ b off, A = some ⟨b, off, none⟩ ∧ lo ≤ b ∧ b < hi ∧ C1 w b (off + k) (.int .u8 (gti l k)) := by
  obtain ⟨b, off, hA, h1, h2, hc⟩ := Rd.at_ h (fun _ => rfl) (gti_get hk)
  exact ⟨b, off, hA, h1, h2, by have := hc 0 _ rfl; rw [Nat.mul_one] at this; exact this⟩
theorem containsM_yes {x : Stp} {l : List Stp} {z : Bool} (hz : hasM x l = z) (lo hi : Nat) (v : Value) (w : World) (hv : RdM w lo hi v l) :
    Calls Try.prog 40 #[v, stpV x] w fun e w' => e = .returned (.bool z) ∧ Below w.heap.size w w' := hz ▸ containsM_any x l lo hi v w hv
abbrev bthL (w0 : World) (n : Net) (vt : Value) (c : Cst) : List Loc := [Loc.k4 w0.heap.size (.int .i64 n.places) (vt) (.int .i64 n.source) (.int .i64 n.sink), Loc.k3 (w0.heap.size + 1) (.int .i64 c.log) (.int .i64 c.model) (.int .i64 c.silent), Loc.bl w0.heap.size w0]
theorem bthM (w0 : World) (n : Net) (vt : Value) (c : Cst) : Mem (bthL w0 n vt c) ((w0.alloc (.cells #[.int .i64 n.places, vt, .int .i64 n.source, .int .i64 n.sink] 24)).alloc (.cells #[.int .i64 c.log, .int .i64 c.model, .int .i64 c.silent] 27)) := by
  have h1 := Mem.alloc (l := [Loc.k4 w0.heap.size (.int .i64 n.places) (vt) (.int .i64 n.source) (.int .i64 n.sink), Loc.bl w0.heap.size w0]) (w := w0.alloc (.cells #[.int .i64 n.places, vt, .int .i64 n.source, .int .i64 n.sink] 24)) ⟨K4.new w0 _ _ _ _ _, ⟨(Below.refl _ _).alloc (Nat.le_refl _) _, by simp⟩, True.intro⟩ (.cells #[.int .i64 c.log, .int .i64 c.model, .int .i64 c.silent] 27)
  have h2 := K3.new (w0.alloc (.cells #[.int .i64 n.places, vt, .int .i64 n.source, .int .i64 n.sink] 24)) (.int .i64 c.log) (.int .i64 c.model) (.int .i64 c.silent) 27
  simp only [World.size_alloc] at h2
  exact ⟨h1.1, h2, h1.2⟩

abbrev bthR (w0 : World) (n : Net) (vt : Value) (c : Cst) (N1 : Nat) (ve : Value) (el : List Int) (vs : Value) (sl : List Int) : List Loc :=
  [Loc.rdI 0 N1 ve el, Loc.rdI 0 N1 vs sl, Loc.k4 w0.heap.size (.int .i64 n.places) (vt) (.int .i64 n.source) (.int .i64 n.sink), Loc.k3 (w0.heap.size + 1) (.int .i64 c.log) (.int .i64 c.model) (.int .i64 c.silent), Loc.bl w0.heap.size w0, Loc.sz N1]
theorem mark_len {n : Net} {m : List Int} (h : markB n m = true) : m.length ≤ 40 := by
  unfold markB at h
  simp only [Bool.and_eq_true] at h
  have h1 := validB_places h.1
  have h2 := h.2
  unfold mark2B at h2
  split at h2
  · cases h2
  · omega

set_option maxRecDepth 100000 in
set_option maxHeartbeats 16000000 in
theorem lawBoth_any (n : Net) (l : List ByteArray) (c : Cst) (cs : List Int) (vt v vs : Value) (lo hi lo2 hi2 : Nat) (w : World) (hv : RdT w lo hi vt n.trans) (hw : RdS w lo hi v l) (hs : RdB w lo2 hi2 vs cs) (hcs : ∀ x ∈ cs, 0 ≤ x ∧ x ≤ 255) :
    Calls Try.prog 7 #[netV n vt, v, cstV c, vs] w fun e w' => e = .returned (.bool true) ∧ Below w.heap.size w w' := by
  obtain ⟨A, ca, rfl, hc, hmm⟩ := hv.form
  obtain ⟨A2, c2, rfl, hc2, hmm2⟩ := hw.form
  obtain ⟨A3, c3, rfl, hc3, hmm3⟩ := hs.form
  have HV := Lib.hid hv
  have HW := Lib.hid hw
  have HS := Lib.hid hs
  have HCS := Lib.hid hcs
  have M := Lib.hid (bthM w n (.slice A n.trans.length ca) c)
  clear hv hw hs hcs
  cases hvc : vcB c with
  | false =>
    have HVC := Lib.hid hvc
    clear hvc
    refine calls_cps fun R hR => ?_
    have HR := Lib.hid hR
    clear hR
    go_enter Try.func7, Try.ntmps7
    have hk4 := M.out.1
    have hk3 := M.out.2.1
    go_wp2_with (first
      | (go_at_call 9; refine (awake_any _).mono ?_; rintro e w1 ⟨rfl, hb1⟩; replace M := Lib.hid (M.out.below hb1); clear hb1; replace hk4 := M.out.1; replace hk3 := M.out.2.1)
      | (go_at_call 10; refine (few_any n l lo hi _ _ _ (HV.out.after M.out.2.2.1.1) (HW.out.after M.out.2.2.1.1)).mono ?_; rintro e w1 ⟨z1, rfl, hb1⟩; replace M := Lib.hid (M.out.below hb1); clear hb1; replace hk4 := M.out.1; replace hk3 := M.out.2.1)
      | (go_at_call 20; refine (validCosts_any c _).mono ?_; rintro e w1 ⟨rfl, hb1⟩; rw [HVC.out]; replace M := Lib.hid (M.out.below hb1); clear hb1; replace hk4 := M.out.1; replace hk3 := M.out.2.1))
    all_goals exact HR.out _ _ ⟨rfl, M.out.2.2.1.1⟩
  | true =>
  have HVC := Lib.hid hvc
  clear hvc
  cases hz : (validB n && wordB l) with
  | false =>
    have HSE : Hid (startE n l = ([], 1)) := Lib.hid (by rw [startE, hz]; rfl)
    have HEE : Hid (endE n l = ([], 1)) := Lib.hid (by rw [endE, hz]; rfl)
    clear hz
    obtain ⟨⟨il, ie⟩, hie⟩ : ∃ r, oneE n n.source = r := ⟨_, rfl⟩
    have HIE := Lib.hid hie
    clear hie
    refine calls_cps fun R hR => ?_
    have HR := Lib.hid hR
    clear hR
    go_enter Try.func7, Try.ntmps7
    have hk4 := M.out.1
    have hk3 := M.out.2.1
    go_wp2_with (first
      | (go_at_call 9; refine (awake_any _).mono ?_; rintro e w1 ⟨rfl, hb1⟩; replace M := Lib.hid (M.out.below hb1); clear hb1; replace hk4 := M.out.1; replace hk3 := M.out.2.1)
      | (go_at_call 10; refine (few_any n l lo hi _ _ _ (HV.out.after M.out.2.2.1.1) (HW.out.after M.out.2.2.1.1)).mono ?_; rintro e w1 ⟨z1, rfl, hb1⟩; replace M := Lib.hid (M.out.below hb1); clear hb1; replace hk4 := M.out.1; replace hk3 := M.out.2.1)
      | (go_at_call 20; refine (validCosts_any c _).mono ?_; rintro e w1 ⟨rfl, hb1⟩; rw [HVC.out]; replace M := Lib.hid (M.out.below hb1); clear hb1; replace hk4 := M.out.1; replace hk3 := M.out.2.1)
      | (go_at_call 28; refine (Start_any n l _ _ lo hi lo hi _ (HV.out.after M.out.2.2.1.1) (HW.out.after M.out.2.2.1.1)).mono ?_; rintro e w2 hret; replace hret := hret.of HSE.out; obtain ⟨A4, c4, rfl, hr, hb⟩ := hret; dsimp only; replace M := Lib.hid (M.out.below hb); clear hb hr; replace hk4 := M.out.1)
      | (go_at_call 30; refine (End_any n l _ _ lo hi lo hi _ (HV.out.after M.out.2.2.1.1) (HW.out.after M.out.2.2.1.1)).mono ?_; rintro e w3 hret; replace hret := hret.of HEE.out; obtain ⟨A5, c5, rfl, hr, hb⟩ := hret; dsimp only; replace M := Lib.hid (M.out.below hb); clear hb hr; replace hk4 := M.out.1)
      | (go_at_call 25; refine (initial_any n _ lo hi _ (HV.out.after M.out.2.2.1.1)).mono ?_; rintro e w4 hret; replace hret := hret.of HIE.out; obtain ⟨A6, c6, rfl, hr, hb⟩ := hret; dsimp only; replace M := Lib.hid (M.out.below hb); clear hb hr; replace hk4 := M.out.1))
    all_goals exact HR.out _ _ ⟨rfl, M.out.2.2.1.1⟩
  | true =>
    simp only [Bool.and_eq_true] at hz
    obtain ⟨hval, hwo⟩ := hz
    have HSE : Hid (startE n l = (0 :: oneL n.places.toNat n.source, 0)) := Lib.hid (by rw [startE, hval, hwo]; rfl)
    have HEE : Hid (endE n l = ((l.length : Int) :: oneL n.places.toNat n.sink, 0)) := Lib.hid (by rw [endE, hval, hwo]; rfl)
    have HIE := Lib.hid (oneE_true hval n.source)
    have HLG := Lib.hid (fun k => BI.logs (c := c) hval hwo k)
    have HCK := Lib.hid (fun (m : List Int) (sl : List Stp) (k : Int) (h : BI n l c (l.length : Int) m sl k) => h.check hval hwo HVC.out)
    have HST := Lib.hid (start_state hval hwo)
    have hpl := validB_places hval
    have hl200 := (stateB_facts (start_state hval hwo)).2.2.2.2
    have hcl : 0 ≤ c.log ∧ c.log ≤ 1000 ∧ 0 ≤ c.model ∧ c.model ≤ 1000 ∧ 0 ≤ c.silent ∧ c.silent ≤ 1000 := by
      have := HVC.out
      unfold vcB inB at this
      simp only [Bool.and_eq_true, decide_eq_true_eq] at this
      omega
    have hm0 : (oneL n.places.toNat n.source).length ≤ 40 := by rw [oneL_len]; omega
    have hm2 : (oneL n.places.toNat n.sink).length ≤ 40 := by rw [oneL_len]; omega
    have hstS : startS n = 0 :: oneL n.places.toNat n.source := rfl
    have HSS := Lib.hid hstS
    clear hval hwo hstS
    generalize oneL n.places.toNat n.source = m0 at *
    generalize oneL n.places.toNat n.sink = m2 at *
    refine calls_cps fun R hR => ?_
    have HR := Lib.hid hR
    clear hR
    go_enter Try.func7, Try.ntmps7
    have hk4 := M.out.1
    have hk3 := M.out.2.1
    go_wp2_with (first
      | (go_at_call 9; refine (awake_any _).mono ?_; rintro e w1 ⟨rfl, hb1⟩; replace M := Lib.hid (M.out.below hb1); clear hb1; replace hk4 := M.out.1; replace hk3 := M.out.2.1)
      | (go_at_call 10; refine (few_any n l lo hi _ _ _ (HV.out.after M.out.2.2.1.1) (HW.out.after M.out.2.2.1.1)).mono ?_; rintro e w1 ⟨z1, rfl, hb1⟩; replace M := Lib.hid (M.out.below hb1); clear hb1; replace hk4 := M.out.1; replace hk3 := M.out.2.1)
      | (go_at_call 20; refine (validCosts_any c _).mono ?_; rintro e w1 ⟨rfl, hb1⟩; rw [HVC.out]; replace M := Lib.hid (M.out.below hb1); clear hb1; replace hk4 := M.out.1; replace hk3 := M.out.2.1)
      | (go_at_call 28; refine (Start_any n l _ _ lo hi lo hi _ (HV.out.after M.out.2.2.1.1) (HW.out.after M.out.2.2.1.1)).mono ?_; rintro e w2 hret; replace hret := hret.of HSE.out; obtain ⟨A4, c4, rfl, hr, hb⟩ := hret; dsimp only at hr ⊢; replace M := Lib.hid (Mem.cons (a := Loc.rdI _ _ _ _) hr (M.out.below hb)); clear hb hr; replace hk4 := M.out.2.1; replace hk3 := M.out.2.2.1)
      | (go_at_call 30; refine (End_any n l _ _ lo hi lo hi _ (HV.out.after M.out.2.2.2.1.1) (HW.out.after M.out.2.2.2.1.1)).mono ?_; rintro e w3 hret; replace hret := hret.of HEE.out; obtain ⟨A5, c5, rfl, hr, hb⟩ := hret; dsimp only at hr ⊢; have hz3 := hb.size; replace M := Lib.hid (Mem.cons (a := Loc.rdI _ _ _ _) hr (M.out.below hb)); clear hb hr; replace hk4 := M.out.2.2.1; replace hk3 := M.out.2.2.2.1)
      | (go_at_call 25; refine (initial_any n _ lo hi _ (HV.out.after M.out.2.2.2.2.1.1)).mono ?_; rintro e w4 hret; replace hret := hret.of HIE.out; obtain ⟨A6, c6, rfl, hr, hb⟩ := hret; dsimp only at hr ⊢; have hz4 := hb.size; replace M := Lib.hid (Mem.cons (a := Loc.rdI _ _ _ _) hr (M.out.below hb)); clear hb hr; replace hk4 := M.out.2.2.2.1; replace hk3 := M.out.2.2.2.2.1))
    all_goals try exact HR.out _ _ ⟨rfl, M.out.2.2.1.1⟩
    have h40 : cs.length ≤ 40 := by omega
    obtain ⟨N1, hN1⟩ : ∃ N, N = w4.heap.size := ⟨_, rfl⟩
    have hNw : w.heap.size + 1 < N1 := by have := hk3.2.2.2; omega
    have M1 : Hid (Mem (Loc.rdI 0 N1 (.slice A6 m0.length c6) m0 :: bthR w n (.slice A n.trans.length ca) c N1 (.slice A5 (m2.length + 1) c5) ((l.length : Int) :: m2) (.slice A4 (m0.length + 1) c4) (0 :: m0)) w4) :=
      Lib.hid ⟨M.out.1.mono (Nat.zero_le _) (by omega), M.out.2.1.mono (Nat.zero_le _) (by omega), M.out.2.2.1.mono (Nat.zero_le _) (by omega), M.out.2.2.2.1, M.out.2.2.2.2.1, M.out.2.2.2.2.2.1, by show N1 ≤ _; omega, True.intro⟩
    have hwm : wrap64 ((l.length : Int) * c.log) = (l.length : Int) * c.log := IntWalk.wrap64_in _ (by
      have h1 : (l.length : Int) * c.log ≤ 200 * 1000 := Int.mul_le_mul (by omega) (by omega) (by omega) (by omega)
      have h2 : 0 ≤ (l.length : Int) * c.log := Int.mul_nonneg (by omega) (by omega)
      omega)
    have HWM := Lib.hid hwm
    have hN1s : N1 ≤ w4.heap.size := by omega
    clear M hk4 hk3 hz3 hz4 hN1 hwm
    go_loopw [88, 15, 17] (fun v88 v15 _ wr => ∃ (k : Nat) (B : Option Addr) (d hh : Nat), k ≤ l.length ∧ v88 = .int .i64 k ∧ v15 = .slice B (logsW l k).length d ∧ hh ≤ wr.heap.size ∧ Hid (Mem (Loc.owM N1 hh (.slice B (logsW l k).length d) (logsW l k) :: Loc.rdI 0 N1 (.slice A6 m0.length c6) m0 :: bthR w n (.slice A n.trans.length ca) c N1 (.slice A5 (m2.length + 1) c5) ((l.length : Int) :: m2) (.slice A4 (m0.length + 1) c4) (0 :: m0)) wr)) (fun v88 _ _ _ => l.length - (intOf v88).toNat)
    case atStart => exact ⟨0, none, 0, 0, by omega, rfl, rfl, by omega, Lib.hid ⟨Own.nil _ _ _, M1.out⟩⟩
    case round =>
      clear M1 hN1s
      obtain ⟨k, B, d, hh, hk, rfl, rfl, hhs, M⟩ := hrel
      have hk3 := M.out.2.2.2.2.2.1
      have hsz : N1 ≤ wr.heap.size := M.out.2.2.2.2.2.2.2.1
      have hll : (logsW l k).length ≤ 200 := by rw [logsW_len]; omega
      by_cases hlt : k < l.length
      · obtain ⟨b5, off5, rfl, _, _, hc5⟩ := RdS.at1 (HW.out.after M.out.2.2.2.2.2.2.1.1) hlt
        have HA : Hid (logsW l (k + 1) = logsW l k ++ [⟨2, -1, gti l k⟩]) := Lib.hid rfl
        generalize logsW l k = al at *
        generalize gti l k = x at *
        have HAL : Hid ((logsW l (k + 1)).length = al.length + 1) := Lib.hid (by rw [HA.out, List.length_append]; rfl)
        go_wp2_with (at_builtin; refine wpList_app rfl _ _ rfl ti_step (fun _ => rfl) oneM rfl rfl (M.out.alloc _) (by (repeat' (first | exact True.intro | refine And.intro (fun k hk e => ?_) ?_)) <;> (first | exact e | ((try dsimp only [Loc.c1, Loc.c2, Loc.k1, Loc.k2, Loc.k3, Loc.k4, Loc.k6, Loc.fr, Loc.bl, Loc.own, Loc.sz, Loc.rd, Loc.rdI, Loc.rdS, Loc.rdM, Loc.rdT, Loc.ow, Loc.owI, Loc.owM] at hk e) <;> omega))) (RdM.lit1E _ _ _ _ _ _ (by first | rfl | simp)) (by first | omega | (simp; done) | (simp; omega)) (by first | omega | (simp; done) | (simp; omega)) (by first | omega | (simp; done) | (simp; omega)) ?_; intro A1 c1 w1 hM1 hs1 hch1; replace M := Lib.hid hM1; clear hM1 hch1)
        exact ⟨⟨k + 1, A1, c1, w1.heap.size, by omega, by go_num, by first | (rw [HAL.out]; done) | (rw [HAL.out]; rfl), Nat.le_refl _, Lib.hid (owM_cast M.out HA.out.symm (by first | (rw [HAL.out]; done) | (rw [HAL.out]; rfl)))⟩, by simp [intOf]; omega⟩
      · obtain rfl : k = l.length := by omega
        have HB0 := Lib.hid (HLG.out l.length (Nat.le_refl _))
        have hwm := HWM.out
        clear HLG HWM hk hlt
        have HSL : Hid ((logsW l l.length).length ≤ l.length) := Lib.hid (by rw [logsW_len]; exact Nat.le_refl _)
        generalize logsW l l.length = sl0 at *
        obtain ⟨k0, hk0⟩ : ∃ k0, (l.length : Int) * c.log = k0 := ⟨_, rfl⟩
        rw [hk0] at HB0
        replace hwm : wrap64 ((l.length : Int) * c.log) = k0 := hk0 ▸ hwm
        clear hk0
        go_upto_block 2 with (fail)
        go_cut [13, 15, 18] (fun v13 v15 v18 wx => ∃ (m : List Int) (sl : List Stp) (ct : Int) (Am : Option Addr) (cm : Nat) (B : Option Addr) (d : Nat), v13 = .slice Am m.length cm ∧ v15 = .slice B sl.length d ∧ v18 = .int .i64 ct ∧ sl.length ≤ 240 ∧ Hid (BI n l c (l.length : Int) m sl ct) ∧ Hid (Mem (Loc.rdM 0 wx.heap.size (.slice B sl.length d) sl :: Loc.rdI 0 wx.heap.size (.slice Am m.length cm) m :: bthR w n (.slice A n.trans.length ca) c N1 (.slice A5 (m2.length + 1) c5) ((l.length : Int) :: m2) (.slice A4 (m0.length + 1) c4) (0 :: m0)) wx))
        case first =>
          go_wp2_with fail
          go_loopw [105, 13, 15, 18, 20, 21, 22, 23, 24, 25, 26] (fun v105 v13 v15 v18 _ _ _ _ _ _ _ wr => ∃ (k : Nat) (m : List Int) (sl : List Stp) (ct : Int) (Am : Option Addr) (cm : Nat) (B : Option Addr) (d mlo mhi glo ghi : Nat), k ≤ cs.length ∧ v105 = .int .i64 k ∧ v13 = .slice Am m.length cm ∧ v15 = .slice B sl.length d ∧ v18 = .int .i64 ct ∧ sl.length ≤ l.length + k ∧ (ghi ≤ mlo ∨ mhi ≤ glo) ∧ ghi ≤ wr.heap.size ∧ mhi ≤ wr.heap.size ∧ N1 ≤ glo ∧ glo ≤ wr.heap.size ∧ Hid (BI n l c (l.length : Int) m sl ct) ∧ Hid (Mem (Loc.owM glo ghi (.slice B sl.length d) sl :: Loc.rdI mlo mhi (.slice Am m.length cm) m :: bthR w n (.slice A n.trans.length ca) c N1 (.slice A5 (m2.length + 1) c5) ((l.length : Int) :: m2) (.slice A4 (m0.length + 1) c4) (0 :: m0)) wr)) (fun v105 _ _ _ _ _ _ _ _ _ _ _ => cs.length - (intOf v105).toNat)
          case atStart => exact ⟨0, m0, sl0, k0, A6, c6, B, d, 0, N1, N1, hh, Nat.zero_le _, rfl, rfl, rfl, congrArg (Value.int .i64) hwm, by have := HSL.out; omega, .inr (Nat.le_refl _), hhs, hsz, Nat.le_refl _, hsz, HB0, M⟩
          case round =>
            clear M hsz hhs hk3 hwm HB0 hll HSL
            obtain ⟨k, m, sl, ct, Am, cm, B, d, mlo, mhi, glo, ghi, hk, rfl, rfl, rfl, rfl, hsl, hdis, hg1, hg2, hg3, hg4, HB, M⟩ := hrel
            have HMK := Lib.hid HB.out.mark
            have hml := mark_len HB.out.mark
            have hcb := HB.out.cost_bd HVC.out
            have hk4 := M.out.2.2.2.2.1
            have hk3 := M.out.2.2.2.2.2.1
            by_cases hlt : k < cs.length
            · obtain ⟨b7, off7, rfl, _, _, hc7⟩ := RdB.at1 (HS.out.after M.out.2.2.2.2.2.2.1.1) hlt
              have hb7 := HCS.out _ (gti_mem hlt)
              generalize gti cs k = bt at *
              have HEN : Hid (enabledE n m = (enabledL m 0 n.trans, 0)) := Lib.hid (by rw [enabledE, HMK.out]; rfl)
              have HEF := Lib.hid (fun t ht => enabled_fire (n := n) (t := t) HMK.out ht)
              generalize enabledL m 0 n.trans = en at *
              by_cases hz : en = []
              · subst hz
                go_wp2_with (go_at_call 38; refine (Enabled_any n m _ _ lo hi _ _ _ (HV.out.after M.out.2.2.2.2.2.2.1.1) M.out.2.1).mono ?_; rintro e w5 hret; replace hret := hret.of HEN.out; obtain ⟨A8, c8, rfl, hr, hb⟩ := hret; dsimp only at hr ⊢; have hz5 := hb.size; replace M := Lib.hid (M.out.below hb); clear hb hr)
                go_meet
                exact ⟨m, sl, ct, Am, cm, B, d, rfl, rfl, rfl, by omega, HB, Lib.hid ⟨M.out.1.rd.mono (Nat.zero_le _) (by omega), M.out.2.1.mono (Nat.zero_le _) (by omega), M.out.2.2⟩⟩
              · have hl0 : 0 < en.length := List.length_pos_iff.2 hz
                obtain ⟨jn, hjn⟩ : ∃ jn : Nat, bt % (en.length : Int) = jn := ⟨(bt % (en.length : Int)).toNat, by have := Int.emod_nonneg bt (b := (en.length : Int)) (by omega); omega⟩
                have hjlt : jn < en.length := by have := Int.emod_lt_of_pos bt (b := (en.length : Int)) (by omega); omega
                obtain ⟨h0, h1, h2⟩ := HEF.out _ (gti_mem hjlt)
                obtain ⟨tn, ht⟩ : ∃ tn : Nat, gti en jn = tn := ⟨(gti en jn).toNat, by omega⟩
                have HT := Lib.hid ht
                rw [ht] at h0 h1 h2
                clear ht h0
                obtain ⟨⟨m', fe⟩, hfe⟩ : ∃ r, FireE n m (tn : Int) = r := ⟨_, rfl⟩
                have HFE := Lib.hid hfe
                rw [hfe] at h2
                dsimp only at h2
                clear hfe
                rcases h2 with rfl | rfl
                · have HB1 := Lib.hid (HB.out.fire (t := (tn : Int)) (by omega) h1 HFE.out)
                  have htn : tn < n.trans.length := by omega
                  have HMS : Hid (modS n (tn : Int) = ⟨if (gti n.trans tn).label.toList.isEmpty then 4 else 3, tn, (gti n.trans tn).label⟩) := Lib.hid rfl
                  obtain ⟨b4, off4, vi, vo, rfl, _, _, hct, hri, hro⟩ := RdT.at3 HV.out htn
                  have HCT := Lib.hid hct
                  clear hct hri hro
                  generalize gti n.trans tn = x at *
                  generalize modS n (tn : Int) = ms at *
                  obtain ⟨ze, hze⟩ : ∃ z, x.label.toList.isEmpty = z := ⟨_, rfl⟩
                  rw [hze] at HMS
                  cases ze
                  · simp only [Bool.false_eq_true, if_false] at HMS
                    have hms := HMS.out
                    subst hms
                    go_wp2_with (first | (go_at_call 38; refine (Enabled_any n m _ _ lo hi _ _ _ (HV.out.after M.out.2.2.2.2.2.2.1.1) M.out.2.1).mono ?_; rintro e w5 hret; replace hret := hret.of HEN.out; obtain ⟨A8, c8, rfl, hr, hb⟩ := hret; dsimp only at hr ⊢; have hz5 := hb.size; obtain ⟨b8, off8, rfl, _, _, hc8⟩ := RdI.at1 hr hjlt; rw [HT.out] at hc8; replace M := Lib.hid (M.out.below hb); clear hb hr; replace hk4 := M.out.2.2.2.2.1) | (go_at_call 39; refine (Fire_any n m tn _ _ lo hi _ _ _ (HV.out.after M.out.2.2.2.2.2.2.1.1) M.out.2.1).mono ?_; rintro e w6 hret; replace hret := hret.of HFE.out; obtain ⟨A9, c9, rfl, hr, hb⟩ := hret; dsimp only at hr ⊢; have hz6 := hb.size; replace M := Lib.hid (Mem.cons (a := Loc.owM _ _ _ _) (M.out.below hb).1 (Mem.cons (a := Loc.rdI _ _ _ _) hr (M.out.below hb).2.2)); clear hb hr; replace hk4 := M.out.2.2.2.2.1; replace hk3 := M.out.2.2.2.2.2.1; have hct := C3.aft M.out.2.2.2.2.2.2.1.1 HCT.out) | (at_builtin; refine wpList_app2 rfl _ _ rfl ti_step (fun _ => rfl) oneM rfl rfl ((M.out.alloc _).alloc _) (by (repeat' (first | exact True.intro | refine And.intro (fun k hk e => ?_) ?_)) <;> (first | exact e | ((try dsimp only [Loc.c1, Loc.c2, Loc.k1, Loc.k2, Loc.k3, Loc.k4, Loc.k6, Loc.fr, Loc.bl, Loc.own, Loc.sz, Loc.rd, Loc.rdI, Loc.rdS, Loc.rdM, Loc.rdT, Loc.ow, Loc.owI, Loc.owM] at hk e) <;> omega))) (RdM.lit1E _ _ _ _ _ _ (by first | rfl | simp)) (by first | omega | (simp; done) | (simp; omega)) (by first | omega | (simp; done) | (simp; omega)) (by first | omega | (simp; done) | (simp; omega)) ?_; intro A1 c1 w7 g0 g1 hg hM1 hs1 hch1; replace M := Lib.hid hM1; clear hM1 hch1))
                    simp only [World.size_alloc, World.size_setCell] at hg hs1
                    have hsl1 : (sl ++ [(⟨3, tn, x.label⟩ : Stp)]).length = sl.length + 1 := by rw [List.length_append]; rfl
                    have HB2 : Hid (BI n l c (l.length : Int) m' (sl ++ [⟨3, tn, x.label⟩]) (ct + c.model)) := Lib.hid (by have := HB1.out; simp [priceE] at this; first | exact this | (rw [show ct + c.model = ct + c.silent by omega]; exact this))
                    exact ⟨⟨k + 1, m', sl ++ [⟨3, tn, x.label⟩], ct + c.model, A9, c9, A1, c1, w5.heap.size, w6.heap.size, g0, g1, by omega, by go_num, rfl, by rw [hsl1], rfl, by rw [hsl1]; omega, by omega, by omega, by omega, by omega, by omega, HB2, Lib.hid (owM_cast M.out rfl (by rw [hsl1]; rfl))⟩, by simp [intOf]; omega⟩
                  · simp only [if_true] at HMS
                    have hms := HMS.out
                    subst hms
                    go_wp2_with (first | (go_at_call 38; refine (Enabled_any n m _ _ lo hi _ _ _ (HV.out.after M.out.2.2.2.2.2.2.1.1) M.out.2.1).mono ?_; rintro e w5 hret; replace hret := hret.of HEN.out; obtain ⟨A8, c8, rfl, hr, hb⟩ := hret; dsimp only at hr ⊢; have hz5 := hb.size; obtain ⟨b8, off8, rfl, _, _, hc8⟩ := RdI.at1 hr hjlt; rw [HT.out] at hc8; replace M := Lib.hid (M.out.below hb); clear hb hr; replace hk4 := M.out.2.2.2.2.1) | (go_at_call 39; refine (Fire_any n m tn _ _ lo hi _ _ _ (HV.out.after M.out.2.2.2.2.2.2.1.1) M.out.2.1).mono ?_; rintro e w6 hret; replace hret := hret.of HFE.out; obtain ⟨A9, c9, rfl, hr, hb⟩ := hret; dsimp only at hr ⊢; have hz6 := hb.size; replace M := Lib.hid (Mem.cons (a := Loc.owM _ _ _ _) (M.out.below hb).1 (Mem.cons (a := Loc.rdI _ _ _ _) hr (M.out.below hb).2.2)); clear hb hr; replace hk4 := M.out.2.2.2.2.1; replace hk3 := M.out.2.2.2.2.2.1; have hct := C3.aft M.out.2.2.2.2.2.2.1.1 HCT.out) | (at_builtin; refine wpList_app2 rfl _ _ rfl ti_step (fun _ => rfl) oneM rfl rfl ((M.out.alloc _).alloc _) (by (repeat' (first | exact True.intro | refine And.intro (fun k hk e => ?_) ?_)) <;> (first | exact e | ((try dsimp only [Loc.c1, Loc.c2, Loc.k1, Loc.k2, Loc.k3, Loc.k4, Loc.k6, Loc.fr, Loc.bl, Loc.own, Loc.sz, Loc.rd, Loc.rdI, Loc.rdS, Loc.rdM, Loc.rdT, Loc.ow, Loc.owI, Loc.owM] at hk e) <;> omega))) (RdM.lit1E _ _ _ _ _ _ (by first | rfl | simp)) (by first | omega | (simp; done) | (simp; omega)) (by first | omega | (simp; done) | (simp; omega)) (by first | omega | (simp; done) | (simp; omega)) ?_; intro A1 c1 w7 g0 g1 hg hM1 hs1 hch1; replace M := Lib.hid hM1; clear hM1 hch1))
                    simp only [World.size_alloc, World.size_setCell] at hg hs1
                    have hsl1 : (sl ++ [(⟨4, tn, x.label⟩ : Stp)]).length = sl.length + 1 := by rw [List.length_append]; rfl
                    have HB2 : Hid (BI n l c (l.length : Int) m' (sl ++ [⟨4, tn, x.label⟩]) (ct + c.model + (c.silent - c.model))) := Lib.hid (by have := HB1.out; simp [priceE] at this; first | exact this | (rw [show ct + c.model + (c.silent - c.model) = ct + c.silent by omega]; exact this))
                    exact ⟨⟨k + 1, m', sl ++ [⟨4, tn, x.label⟩], ct + c.model + (c.silent - c.model), A9, c9, A1, c1, w5.heap.size, w6.heap.size, g0, g1, by omega, by go_num, rfl, by rw [hsl1], rfl, by rw [hsl1]; omega, by omega, by omega, by omega, by omega, by omega, HB2, Lib.hid (owM_cast M.out rfl (by rw [hsl1]; rfl))⟩, by simp [intOf]; omega⟩
                · go_wp2_with (first | (go_at_call 38; refine (Enabled_any n m _ _ lo hi _ _ _ (HV.out.after M.out.2.2.2.2.2.2.1.1) M.out.2.1).mono ?_; rintro e w5 hret; replace hret := hret.of HEN.out; obtain ⟨A8, c8, rfl, hr, hb⟩ := hret; dsimp only at hr ⊢; have hz5 := hb.size; obtain ⟨b8, off8, rfl, _, _, hc8⟩ := RdI.at1 hr hjlt; rw [HT.out] at hc8; replace M := Lib.hid (M.out.below hb); clear hb hr; replace hk4 := M.out.2.2.2.2.1) | (go_at_call 39; refine (Fire_any n m tn _ _ lo hi _ _ _ (HV.out.after M.out.2.2.2.2.2.2.1.1) M.out.2.1).mono ?_; rintro e w6 hret; replace hret := hret.of HFE.out; obtain ⟨A9, c9, rfl, hr, hb⟩ := hret; dsimp only at hr ⊢; replace M := Lib.hid (M.out.below hb); clear hb hr))
                  exact HR.out _ _ ⟨rfl, M.out.2.2.2.2.2.2.1.1⟩
            · obtain rfl : k = cs.length := by omega
              go_wp2_with fail
              go_meet
              exact ⟨m, sl, ct, Am, cm, B, d, rfl, rfl, rfl, by omega, HB, Lib.hid ⟨M.out.1.rd.mono (Nat.zero_le _) (by omega), M.out.2.1.mono (Nat.zero_le _) (by omega), M.out.2.2⟩⟩
        case rest =>
          clear M hsz hhs hk3 hwm HB0 hll HSL
          obtain ⟨m, sl, ct, Am, cm, B, d, rfl, rfl, rfl, hsl, HB, M⟩ := hcut
          have hml := mark_len HB.out.mark
          have HCH := Lib.hid (HCK.out _ _ _ HB.out (by omega))
          obtain ⟨z, hz⟩ : ∃ z, decide (m = m2) = z := ⟨_, rfl⟩
          have HZ := Lib.hid hz
          clear hz
          rw [HZ.out] at HCH
          obtain ⟨_, _, hf5, hc5, _⟩ := Rd.form M.out.2.2.1
          injection hf5 with hf51 hf52 hf53
          subst hf51 hf53
          clear hf52
          obtain ⟨At, ct5, hsl5, ht5⟩ := RdI.tail1 M.out.2.2.1 (by simp) hc5
          simp only [List.drop_succ_cons, List.drop_zero, List.length_cons] at hsl5 ht5
          have HT5 := Lib.hid ht5
          have hk4 := M.out.2.2.2.2.1
          have hk3 := M.out.2.2.2.2.2.1
          clear ht5 hc5
          go_wp2_with (first
            | (go_at_call 23; refine (equalI_any m m2 _ _ _ _ _ _ _ M.out.2.1 HT5.out).mono ?_; rintro e w5 ⟨rfl, hb⟩; rw [HZ.out]; have hz5 := hb.size; replace M := Lib.hid (M.out.below hb); clear hb; replace hk4 := M.out.2.2.2.2.1; replace hk3 := M.out.2.2.2.2.2.1)
            | (go_at_call 12; refine (Check_any n l c sl ct _ _ _ lo hi lo hi _ _ _ (HV.out.after M.out.2.2.2.2.2.2.1.1) (HW.out.after M.out.2.2.2.2.2.2.1.1) M.out.1).mono ?_; rintro e w6 ⟨rfl, hb⟩; rw [HCH.out]; have hz6 := hb.size; replace M := Lib.hid (M.out.below hb); clear hb))
          obtain ⟨N6, hN6⟩ : ∃ N, N = w6.heap.size := ⟨_, rfl⟩
          have M6 : Hid (Mem [Loc.rdM 0 N6 (.slice B sl.length d) sl, Loc.rdI 0 N6 (.slice Am m.length cm) m, Loc.k4 w.heap.size (.int .i64 n.places) (.slice A n.trans.length ca) (.int .i64 n.source) (.int .i64 n.sink), Loc.bl w.heap.size w, Loc.sz N6] w6) := Lib.hid ⟨M.out.1.mono (Nat.le_refl _) (by omega), M.out.2.1.mono (Nat.le_refl _) (by omega), M.out.2.2.2.2.1, M.out.2.2.2.2.2.2.1, by show N6 ≤ _; omega, True.intro⟩
          have MS : Hid (RdI w6 0 w6.heap.size (.slice A4 (m0.length + 1) c4) (0 :: m0)) := Lib.hid (M.out.2.2.2.1.mono (Nat.le_refl _) M.out.2.2.2.2.2.2.2.1)
          have HRU : Hid (runA n l (0 :: m0) sl = some ((l.length : Int) :: m)) := Lib.hid (HSS.out ▸ HB.out.run)
          have HST0 : Hid (stateB n l (0 :: m0) = true) := Lib.hid (HSS.out ▸ HST.out)
          have HKI := Lib.hid HB.out.kinds
          clear M hk4 hk3 hN6 HCH HZ HT5 hsl5 HB HST
          go_loopw [201, 9, 29, 30, 31, 32, 33] (fun v201 v9 _ _ _ _ _ wr => ∃ (k : Nat) (s : List Int) (As : Option Addr) (cc : Nat), k ≤ sl.length ∧ v201 = .int .i64 k ∧ v9 = .slice As s.length cc ∧ Hid (stateB n l s = true) ∧ Hid (runA n l s (sl.drop k) = some ((l.length : Int) :: m)) ∧ Hid (RdI wr 0 wr.heap.size (.slice As s.length cc) s) ∧ Hid (Mem [Loc.rdM 0 N6 (.slice B sl.length d) sl, Loc.rdI 0 N6 (.slice Am m.length cm) m, Loc.k4 w.heap.size (.int .i64 n.places) (.slice A n.trans.length ca) (.int .i64 n.source) (.int .i64 n.sink), Loc.bl w.heap.size w, Loc.sz N6] wr)) (fun v201 _ _ _ _ _ _ _ => sl.length - (intOf v201).toNat)
          case atStart => exact ⟨0, 0 :: m0, A4, c4, Nat.zero_le _, rfl, rfl, HST0, HRU, MS, M6⟩
          case round =>
            clear M6 MS HRU HST0
            obtain ⟨k, s, As, cc, hk, rfl, rfl, HST, HRU, MS, M⟩ := hrel
            have hk4 := M.out.2.2.1
            by_cases hlt : k < sl.length
            · obtain ⟨b6, off6, rfl, _, _, hc6⟩ := RdM.at3 M.out.1 hlt
              have hxk := HKI.out _ (gti_mem hlt)
              obtain ⟨ha, hru⟩ := runA_step hlt HRU.out
              have hap := ApplyE_of HST.out hxk
              have HST1 := Lib.hid (apply_state HST.out ha)
              have HCM : Hid (hasM (gti sl k) (movesL n l s) = true) := Lib.hid (by rw [can_mem HST.out hxk, canB, hap, ha]; rfl)
              have HME : Hid (MovesE n l s = (movesL n l s, 0)) := Lib.hid (by rw [MovesE, HST.out]; rfl)
              obtain ⟨⟨s1, e1⟩, hs1⟩ : ∃ r, applyE n l s (gti sl k) = r := ⟨_, rfl⟩
              rw [hs1] at ha hru hap HST1
              dsimp only at ha hru HST1
              subst ha
              have HAE := Lib.hid hap
              have HRU1 := Lib.hid hru
              clear hxk hap hru hs1
              generalize movesL n l s = mv at *
              generalize gti sl k = x at *
              obtain ⟨kd, tr, ac⟩ := x
              simp only at hc6
              have M7 := Lib.hid (Mem.cons (a := Loc.k3 wr.heap.size _ _ _) (K3.new wr (.int .i64 kd) (.int .i64 tr) (.string ac) 57) (M.out.alloc (.cells #[.int .i64 kd, .int .i64 tr, .string ac] 57)))
              have MS7 := Lib.hid (Rd.after MS.out ((Below.refl _ wr).alloc (Nat.le_refl _) (.cells #[.int .i64 kd, .int .i64 tr, .string ac] 57)))
              have hkt := M7.out.1
              replace hk4 := M7.out.2.2.2.1
              go_wp2_with (first
                | (go_at_call 34; refine (Moves_any n l s _ _ _ lo hi lo hi _ _ _ (HV.out.after M7.out.2.2.2.2.1.1) (HW.out.after M7.out.2.2.2.2.1.1) MS7.out).mono ?_; rintro e w8 hret; replace hret := hret.of HME.out; obtain ⟨A8, c8, rfl, hr, hb⟩ := hret; dsimp only at hr ⊢; replace M7 := Lib.hid (M7.out.below hb); replace MS7 := Lib.hid (Rd.after MS7.out hb); have HMV := Lib.hid hr; clear hb hr; replace hk4 := M7.out.2.2.2.1; replace hkt := M7.out.1)
                | (go_at_call 32; refine (Apply_any n l s ⟨kd, tr, ac⟩ _ _ _ lo hi lo hi _ _ _ (HV.out.after M7.out.2.2.2.2.1.1) (HW.out.after M7.out.2.2.2.2.1.1) MS7.out).mono ?_; rintro e w9 hret; replace hret := hret.of HAE.out; obtain ⟨A9, c9, rfl, hr, hb⟩ := hret; dsimp only at hr ⊢; replace M7 := Lib.hid (M7.out.below hb); replace HMV := Lib.hid (Rd.after HMV.out hb); have MS9 := Lib.hid (hr.mono (Nat.zero_le _) (Nat.le_refl _)); clear hb hr; replace hkt := M7.out.1)
                | (go_at_call 40; refine (containsM_yes HCM.out _ _ _ _ HMV.out).mono ?_; rintro e w10 ⟨rfl, hb⟩; replace M7 := Lib.hid (M7.out.below hb); have MS10 := Lib.hid ((Rd.after MS9.out hb).mono (Nat.le_refl _) hb.size); clear hb))
              exact ⟨⟨k + 1, s1, A9, c9, by omega, by go_num, rfl, HST1, HRU1, MS10, Lib.hid M7.out.2⟩, by simp [intOf]; omega⟩
            · obtain rfl : k = sl.length := by omega
              have hru := HRU.out
              rw [List.drop_length, runA, Option.some.injEq] at hru
              subst hru
              clear HRU
              obtain ⟨b9, off9, rfl, _, _, hc9⟩ := RdI.at1 MS.out (k := 0) (by simp)
              obtain ⟨_, _, hf9, hc9b, _⟩ := Rd.form MS.out
              injection hf9 with hf91 hf92 hf93
              subst hf93
              clear hf92 hf91
              obtain ⟨At, ct9, hsl9, ht9⟩ := RdI.tail1 MS.out (by simp) hc9b
              simp only [List.drop_succ_cons, List.drop_zero, List.length_cons, Nat.add_zero] at hsl9 ht9 hc9
              rw [gti_cons0] at hc9
              have HT9 := Lib.hid ht9
              clear ht9 hc9b
              go_wp2_with (go_at_call 23; refine (equalI_any m m _ _ _ _ _ _ _ HT9.out M.out.2.1).mono ?_; rintro e w8 ⟨rfl, hb⟩; rw [decide_eq_true rfl]; replace M := Lib.hid (M.out.below hb); clear hb)
              exact HR.out _ _ ⟨rfl, M.out.2.2.2.1.1⟩

section
variable {H : Type} {enc : TypeId × Value → H} {w : World} {base : Nat} {sp : Nat → Bool} {held : Bool} {r : Reach} {b0 : Nat} {v : Value} {d : DataW H} {p : List MemPlace}
theorem bytes_open {fuel : Nat} {cs : List Value} {x : DataW H × List MemPlace} (h : DataW.trod enc Try.prog w base sp held fuel 68 cs = some x) : ∃ v l, cs = [v] ∧ RdB w 0 w.heap.size v l ∧ ∀ a ∈ l, 0 ≤ a ∧ a ≤ 255 :=
  open_rd (en := encB) (Pr := fun a => 0 ≤ a ∧ a ≤ 255) (size := 1) Try.underlying68 (by kernel_rfl) (by decide) (fun _ => rfl) (fun fuel cs x h => by
    obtain ⟨n, rfl, _, hw⟩ := DataW.trod_int Try.underlying5 h
    refine ⟨n, rfl, ?_⟩
    simpa [Lit.wf, IntKind.min, IntKind.max, IntKind.bits, IntKind.signed] using hw) h
set_option maxRecDepth 100000 in
theorem open_bytes (hv : Value.okWide Try.prog w r b0 68 v) (h : DataW.Trod enc Try.prog w base sp held 68 v d p) : ∃ l, RdB w 0 w.heap.size v l ∧ ∀ a ∈ l, 0 ≤ a ∧ a ≤ 255 := by
  obtain ⟨a, n, c, rfl⟩ := okWide_slice Try.underlying68 hv
  obtain ⟨fuel, hf⟩ := h
  obtain ⟨v', l, ha, hr, hl⟩ := bytes_open hf
  simp [Value.cells] at ha
  subst ha
  exact ⟨l, hr, hl⟩
end

set_option maxRecDepth 100000 in
theorem productBoth_lifted (os : Os) (started : os.Started) (H : Type) (enc : TypeId × Value → H) :
    ReturnsInHanded {} Try.checked os 7 .any (Rows.productBothSpec.pre6 enc Try.prog Try.f7 Rows.productBothRow.domain false) (Rows.productBothSpec.post enc Try.prog Try.f7 false true false false) := by
  refine returnsInHanded_of_change (C := Try.checked) own_knob started (by kernel_rfl) Try.func7
    (ChangeSpec.witness6 (enc := enc) (C := Try.checked) false ⟨#[], #[.agg #[.int .i64 0, .slice none 0 0, .int .i64 0, .int .i64 0], .slice none 0 0, .agg #[.int .i64 0, .int .i64 0, .int .i64 0], .slice none 0 0], []⟩ 8 (by kernel_rfl) (by kernel_rfl) (by kernel_rfl) (by kernel_rfl)) ?_
  intro W base args ds gs before hval0 hW hcnd _
  have hval : ∀ (j : Nat) t v, Try.f7.params[j]? = some t → args[j]? = some v → Value.okWide Try.prog W .any base t v := hval0
  have hW' := hW
  obtain ⟨p, q, hA0, hV, rfl, hfz, hnd⟩ := hW
  have hA : DataW.TrodAll enc Try.prog W 0 (fun _ => true) true Try.f7.params.toList args.toList ds p := hA0
  rw [Try.params7] at hA hval
  obtain ⟨v0, v1, v2, v3, d0, d1, d2, d3, p0, p1, p2, p3, rfl, rfl, rfl, h0, h1, h2, h3⟩ := trodAll_four hA
  obtain ⟨rfl, rfl⟩ := trodVars_none hV
  obtain ⟨n, vt, rfl, rn⟩ := open_net (hval 0 24 v0 rfl rfl) h0
  obtain ⟨l, rl⟩ := open_strs' (hval 1 25 v1 rfl rfl) h1
  obtain ⟨c, rfl⟩ := open_costs (hval 2 27 v2 rfl rfl) h2
  obtain ⟨sl, rs, hcs⟩ := open_bytes (hval 3 68 v3 rfl rfl) h3
  simp only [List.append_nil] at hW'
  refine (lawBoth_any n l c sl vt v1 v3 0 _ 0 _ W rn rl rs hcs).mono fun e W' ⟨he, hb⟩ => ?_
  subst he
  have hp : ∀ x ∈ p0 ++ p1 ++ p2 ++ p3, x.block < W.heap.size := fun x hx => hW'.lt x (by simpa using hx)
  have hg := trodAll_mk4 (Below.trod laid_out (by kernel_rfl) (of_decide_eq_true (by kernel_rfl)) h0 hb (fun x hx => hp x (by simp [hx]))) (Below.trod laid_out (by kernel_rfl) (of_decide_eq_true (by kernel_rfl)) h1 hb (fun x hx => hp x (by simp [hx]))) (Below.trod laid_out (by kernel_rfl) (of_decide_eq_true (by kernel_rfl)) h2 hb (fun x hx => hp x (by simp [hx]))) (Below.trod laid_out (by kernel_rfl) (of_decide_eq_true (by kernel_rfl)) h3 hb (fun x hx => hp x (by simp [hx])))
  rw [← List.append_assoc, ← List.append_assoc] at hg
  exact ⟨_, rfl, law_post (t := 4) hW' (by kernel_rfl) Try.underlying4 ⟨rfl, rfl, rfl⟩ rfl hg hb⟩

theorem productBoth_holds : Rows.ProductBothSaid :=
  OpenClaim.holds_of_wide 7 Try.f7 rfl rfl rfl rfl rfl rfl rfl ⟨rfl, rfl, rfl, rfl, rfl⟩ rfl rfl rfl rfl rfl (by kernel_rfl) Try.func7 (by kernel_rfl)
    (of_decide_eq_true (by kernel_rfl)) (by unfold Func.isWrapper; first | (rw [if_pos (by decide +kernel)]; kernel_rfl) | (rw [if_neg (by decide +kernel)]; exact ⟨rfl, rfl⟩))
    (fun os started H enc _ => productBoth_lifted os started H enc)

#print axioms productBoth_holds

end Go.Proofs.Ytamhbmaimiifmaa
