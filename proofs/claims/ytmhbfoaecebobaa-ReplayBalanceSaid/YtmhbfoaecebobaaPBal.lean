/-
  ReplayBalance: tokens are neither made nor lost: what is produced and missing is what is consumed and remains. Conditions: none.
-/
import Derived.Test.YtmhbfoaecebobaaGreat
import Derived.Test.YtmhbfoaecebobaaOpen
import Derived.ChangeShapes
namespace Go.Proofs.Ytmhbfoaecebobaa
set_option linter.unusedSimpArgs false
set_option linter.unusedVariables false
open Go.ChangeShapes Go.WideShapes Go.ChangeAt Go.RowKit

theorem inS_take (n : Net) {l : List Int} {j : Nat} (h : j < l.length) : inS n (l.take (j + 1)) = inS n (l.take j) + (gti n.trans (gti l j).toNat).inn.length := by
  rw [List.take_add_one, gti_get h]
  exact inS_snoc n _ _
theorem outS_take (n : Net) {l : List Int} {j : Nat} (h : j < l.length) : outS n (l.take (j + 1)) = outS n (l.take j) + (gti n.trans (gti l j).toNat).out.length := by
  rw [List.take_add_one, gti_get h]
  exact outS_snoc n _ _
theorem g4_bd {c : Cnt} {n : Net} {run : List Int} (h : Good3 n c run) : ∀ k, k < 4 → 0 ≤ gti [c.p, c.c, c.m, c.r] k ∧ gti [c.p, c.c, c.m, c.r] k ≤ 10000000 := by
  intro k hk
  have h1 := h.m0; have h2 := h.mc; have h3 := h.r0; have h4 := h.rp; have h5 := h.big; have h6 := h.bal
  have e : k = 0 ∨ k = 1 ∨ k = 2 ∨ k = 3 := by omega
  rcases e with rfl | rfl | rfl | rfl <;> simp [gti] <;> omega
set_option maxRecDepth 100000 in
set_option maxHeartbeats 8000000 in
theorem lawBalance_any (n : Net) (l : List ByteArray) (vt v : Value) (lo hi lo' hi' : Nat) (w : World) (hv : RdT w lo hi vt n.trans) (hw : RdS w lo' hi' v l) (hhi : hi ≤ w.heap.size) (hhi2 : hi' ≤ w.heap.size) :
    Calls Try.prog 5 #[netV n vt, v] w fun e w' => e = .returned (.bool true) ∧ Below w.heap.size w w' := by
  obtain ⟨A, c, rfl, hc, hmm⟩ := hv.form
  obtain ⟨A2, c2, rfl, hc2, hmm2⟩ := hw.form
  have HV := Lib.hid hv
  have HW := Lib.hid hw
  clear hv hw
  refine calls_cps fun R hR => ?_
  have HR := Lib.hid hR
  clear hR
  go_enter Try.func5, Try.ntmps5
  have M : Hid (Mem [Loc.k4 w.heap.size (.int .i64 n.places) (.slice A n.trans.length c) (.int .i64 n.source) (.int .i64 n.sink), Loc.bl w.heap.size w] (w.alloc (.cells #[.int .i64 n.places, .slice A n.trans.length c, .int .i64 n.source, .int .i64 n.sink] 24))) := Lib.hid ⟨K4.new w _ _ _ _ _, ⟨(Below.refl _ _).alloc (Nat.le_refl _) _, by simp⟩, True.intro⟩
  have hk4 := M.out.1
  have hzw := M.out.2.1.2
  have HPL : Hid (∀ W, RdT W lo hi (.slice A n.trans.length c) n.trans → RdS W lo' hi' (.slice A2 l.length c2) l → w.heap.size ≤ W.heap.size → Calls Try.prog 10 #[netV n (.slice A n.trans.length c), .slice A2 l.length c2] W (RetPl W (PlayE n l))) := Lib.hid (fun W h1 h2 h3 => Play_any n l _ _ lo hi lo' hi' W h1 h2 (Nat.le_trans hhi h3) (Nat.le_trans hhi2 h3))
  have HGD : Hid ((PlayE n l).2.2 = 0 → Good3 n (PlayE n l).1 (PlayE n l).2.1) := Lib.hid PlayE_good
  have HER : Hid ((PlayE n l).2.2 ≠ 0 → (PlayE n l).1 = ⟨0, 0, 0, 0⟩ ∧ (PlayE n l).2.1 = []) := Lib.hid PlayE_err
  obtain ⟨⟨pc, run, er⟩, hP⟩ : ∃ r, PlayE n l = r := ⟨_, rfl⟩
  rw [hP] at HPL HGD HER
  dsimp only at HGD HER
  clear hP
  by_cases he : er = 0
  · subst he
    have HG := Lib.hid (HGD.out rfl)
    clear HGD HER
    go_wp2_with (first
    | (go_at_call 8; refine (awake_any _).mono ?_; rintro e w1 ⟨rfl, hb1⟩; replace M := Lib.hid (M.out.below hb1); clear hb1; replace hk4 := M.out.1)
    | (go_at_call 9; refine (great_any n l lo hi lo' hi' _ _ _ (HV.out.after M.out.2.1.1) (HW.out.after M.out.2.1.1)).mono ?_; rintro e w1 ⟨z, rfl, hb1⟩; replace M := Lib.hid (M.out.below hb1); clear hb1; replace hk4 := M.out.1; cases z)
    | (go_at_call 10; have hz1 := M.out.2.1.2; refine (HPL.out _ (HV.out.after M.out.2.1.1) (HW.out.after M.out.2.1.1) hz1).mono ?_; rintro e w2 ⟨A3, k3, rfl, hr2, hb2⟩; have HR2 := Lib.hid hr2; replace M := Lib.hid (M.out.below hb2); clear hb2 hr2; replace hk4 := M.out.1; dsimp only at HR2 ⊢))
    all_goals try exact HR.out _ _ ⟨rfl, M.out.2.1.1⟩
    obtain ⟨gx, hgx⟩ : ∃ g, w2.heap.size = g := ⟨_, rfl⟩
    have hgx1 : w.heap.size < gx := by have := M.out.1.2.2.2.2; omega
    have M2 : Hid (Mem [Loc.rdI (gx + 1) (gx + 2) (.slice (some ⟨gx + 1, 0, none⟩) 4 4) [pc.p, pc.c, pc.m, pc.r], Loc.k4 gx (.int .i64 pc.p) (.int .i64 pc.c) (.int .i64 pc.m) (.int .i64 pc.r), Loc.rdI 0 gx (.slice A3 run.length k3) run, Loc.k4 w.heap.size (.int .i64 n.places) (.slice A n.trans.length c) (.int .i64 n.source) (.int .i64 n.sink), Loc.bl w.heap.size w] ((w2.alloc (.cells #[.int .i64 pc.p, .int .i64 pc.c, .int .i64 pc.m, .int .i64 pc.r] 29)).alloc (.cells #[.int .i64 pc.p, .int .i64 pc.c, .int .i64 pc.m, .int .i64 pc.r] 3))) := Lib.hid (by
      have h1 := Own.lit (enc := encI) (size := 1) (w2.alloc (.cells #[.int .i64 pc.p, .int .i64 pc.c, .int .i64 pc.m, .int .i64 pc.r] 29)) 3 (gx + 1) [pc.p, pc.c, pc.m, pc.r] #[.int .i64 pc.p, .int .i64 pc.c, .int .i64 pc.m, .int .i64 pc.r] 4 rfl rfl (by simp; omega) (by decide) (fun _ => rfl)
      simp only [World.size_alloc, hgx] at h1
      have h2 := K4.new w2 (.int .i64 pc.p) (.int .i64 pc.c) (.int .i64 pc.m) (.int .i64 pc.r) 29
      rw [hgx] at h2
      have h3 := HR2.out.mono (lo' := 0) (Nat.zero_le _) (Nat.le_refl _)
      rw [hgx] at h3
      exact ⟨Own.rd h1, (Mem.alloc (l := [Loc.k4 gx _ _ _ _]) ⟨h2, True.intro⟩ _).1, (Mem.alloc (Mem.alloc (l := [Loc.rdI 0 gx _ _]) ⟨h3, True.intro⟩ _) _).1, (M.out.alloc _).alloc _⟩)
    have HG4 := Lib.hid (g4_bd HG.out)
    rw [hgx]
    clear M hgx HR2
    go_loopw [46, 9] (fun v46 _ wr => ∃ k : Nat, k ≤ 4 ∧ v46 = .int .i64 k ∧ Hid (Mem [Loc.rdI (gx + 1) (gx + 2) (.slice (some ⟨gx + 1, 0, none⟩) 4 4) [pc.p, pc.c, pc.m, pc.r], Loc.k4 gx (.int .i64 pc.p) (.int .i64 pc.c) (.int .i64 pc.m) (.int .i64 pc.r), Loc.rdI 0 gx (.slice A3 run.length k3) run, Loc.k4 w.heap.size (.int .i64 n.places) (.slice A n.trans.length c) (.int .i64 n.source) (.int .i64 n.sink), Loc.bl w.heap.size w] wr)) (fun v46 _ _ => 4 - (intOf v46).toNat)
    case atStart => exact ⟨0, by omega, rfl, M2⟩
    case round =>
      clear M2 hk4
      obtain ⟨k, hk4, rfl, M⟩ := hrel
      by_cases hlk : k < 4
      · obtain ⟨bx, ox, hbx, _, _, hcx⟩ := RdI.at1 (l := [pc.p, pc.c, pc.m, pc.r]) M.out.1 (k := k) hlk
        injection hbx with hbx
        injection hbx with e1 e2
        subst e1 e2
        have hX4 := HG4.out k hlk
        obtain ⟨X, hX⟩ : ∃ X, gti [pc.p, pc.c, pc.m, pc.r] k = X := ⟨_, rfl⟩
        rw [hX] at hX4
        rw [hX, Nat.zero_add] at hcx
        clear hX
        have hd1 : decide (X < 0) = false := by simp; omega
        have hd2 : decide ((1099511627776 : Int) < X) = false := by simp; omega
        go_wp2_with fail
        exact ⟨⟨k + 1, by omega, by go_num, M⟩, by simp [intOf]; omega⟩
      · obtain rfl : k = 4 := by omega
        clear hlk hk4
        have hrl := HG.out.len
        go_wp2_with fail
        go_loopw [59, 10, 11, 13] (fun v59 v10 v11 _ wr => ∃ (j : Nat) (a b : Int), j ≤ run.length ∧ v59 = .int .i64 j ∧ v10 = .int .i64 a ∧ v11 = .int .i64 b ∧ Hid (a = 1 + inS n (run.take j) ∧ b = 1 + outS n (run.take j)) ∧ (0 ≤ a ∧ a ≤ 1 + 40 * j ∧ 0 ≤ b ∧ b ≤ 1 + 40 * j) ∧ Hid (Mem [Loc.k4 gx (.int .i64 pc.p) (.int .i64 pc.c) (.int .i64 pc.m) (.int .i64 pc.r), Loc.rdI 0 gx (.slice A3 run.length k3) run, Loc.k4 w.heap.size (.int .i64 n.places) (.slice A n.trans.length c) (.int .i64 n.source) (.int .i64 n.sink), Loc.bl w.heap.size w] wr)) (fun v59 _ _ _ _ => run.length - (intOf v59).toNat)
        case atStart => exact ⟨0, 1, 1, Nat.zero_le _, rfl, rfl, rfl, Lib.hid (by simp [inS, outS]), by omega, Lib.hid M.out.2⟩
        case round =>
          clear M
          obtain ⟨j, a, b, hj, rfl, rfl, rfl, HAB, hab, M⟩ := hrel
          have hk4 := M.out.2.2.1
          have hkx := M.out.1
          by_cases hlt : j < run.length
          · have hrg := HG.out.rg (gti run j) (gti_mem hlt)
            obtain ⟨br, or, rfl, _, _, hcr⟩ := RdI.at1 M.out.2.1 hlt
            have hT1 := inS_take n hlt
            have hT2 := outS_take n hlt
            obtain ⟨t, ht⟩ : ∃ k : Nat, gti run j = k := ⟨(gti run j).toNat, by omega⟩
            rw [ht] at hcr hrg hT1 hT2
            clear ht
            have htl : t < n.trans.length := by omega
            obtain ⟨_, _, hi40, ho40⟩ := trans_in HG.out.valid htl
            obtain ⟨b4, off4, vi, vo, rfl, _, _, hct, hri, hro⟩ := RdT.at3 (HV.out.after M.out.2.2.2.1.1) htl
            obtain ⟨Ai, ci, rfl, hci, hmi⟩ := hri.form
            obtain ⟨Ao, co, rfl, hco, hmo⟩ := hro.form
            rw [Int.toNat_natCast] at hT1 hT2
            have HT1 := Lib.hid hT1
            have HT2 := Lib.hid hT2
            clear hT1 hT2 hri hro
            generalize gti n.trans t = x at *
            have hd1 : decide ((t : Int) < 0) = false := by first | (simp; done) | (simp; omega)
            have hd2 : decide ((n.trans.length : Int) ≤ (t : Int)) = false := by first | (simp; done) | (simp; omega)
            obtain ⟨q1, q2, q3, q4⟩ := hab
            go_wp2_with fail
            have hj1 : j + 1 ≤ run.length := by omega
            have HAB2 : Hid (a + (x.inn.length : Int) = 1 + inS n (run.take (j + 1)) ∧ b + (x.out.length : Int) = 1 + outS n (run.take (j + 1))) := Lib.hid (by have := HAB.out; rw [HT1.out, HT2.out]; omega)
            have hab2 : 0 ≤ a + (x.inn.length : Int) ∧ a + (x.inn.length : Int) ≤ 1 + 40 * ((j + 1 : Nat) : Int) ∧ 0 ≤ b + (x.out.length : Int) ∧ b + (x.out.length : Int) ≤ 1 + 40 * ((j + 1 : Nat) : Int) := by omega
            go_roundw
            case rel => (first | exact ⟨j + 1, a + (x.inn.length : Int), b + (x.out.length : Int), hj1, rfl, rfl, rfl, HAB2, hab2, M⟩ | ((repeat apply Exists.intro); exact ⟨⟨j + 1, a + (x.inn.length : Int), b + (x.out.length : Int), hj1, rfl, rfl, rfl, HAB2, hab2, M⟩, rfl⟩))
            case measure => simp [intOf]; omega
          · obtain rfl : j = run.length := by omega
            obtain ⟨u, u0, u1, u2⟩ := HG.out.u
            have hA := HAB.out
            rw [List.take_length] at hA
            have hbal := HG.out.bal
            have hmc := HG.out.mc
            have hrp := HG.out.rp
            have hbg := HG.out.big
            have hm0 := HG.out.m0
            have hr0 := HG.out.r0
            obtain ⟨q1, q2, q3, q4⟩ := hab
            have d1 : (pc.p + pc.m == pc.c + pc.r) = true := by simp; omega
            have d2 : decide (pc.m ≤ pc.c) = true := by simp; omega
            have d3 : decide (pc.r ≤ pc.p) = true := by simp; omega
            have d4 : decide (a ≤ pc.c) = true := by simp; omega
            have d5 : decide (b ≤ pc.p) = true := by simp; omega
            have d6 : (pc.c - a == pc.p - b) = true := by simp; omega
            have hbd : 0 ≤ pc.p ∧ pc.p ≤ 10000000 ∧ 0 ≤ pc.c ∧ pc.c ≤ 10000000 ∧ 0 ≤ pc.m ∧ pc.m ≤ 10000000 ∧ 0 ≤ pc.r ∧ pc.r ≤ 10000000 := by omega
            clear u1 u2 hA hbal hmc hrp hbg hm0 hr0
            obtain ⟨s1, s2, s3, s4, s5, s6, s7, s8⟩ := hbd
            go_wp2_with fail
            exact HR.out _ _ ⟨rfl, M.out.2.2.2.1.1⟩
  · obtain ⟨hz1, hz2⟩ := HER.out he
    subst hz1 hz2
    clear HGD HER
    go_wp2_with (first
    | (go_at_call 8; refine (awake_any _).mono ?_; rintro e w1 ⟨rfl, hb1⟩; replace M := Lib.hid (M.out.below hb1); clear hb1; replace hk4 := M.out.1)
    | (go_at_call 9; refine (great_any n l lo hi lo' hi' _ _ _ (HV.out.after M.out.2.1.1) (HW.out.after M.out.2.1.1)).mono ?_; rintro e w1 ⟨z, rfl, hb1⟩; replace M := Lib.hid (M.out.below hb1); clear hb1; replace hk4 := M.out.1; cases z)
    | (go_at_call 10; have hz1 := M.out.2.1.2; refine (HPL.out _ (HV.out.after M.out.2.1.1) (HW.out.after M.out.2.1.1) hz1).mono ?_; rintro e w2 ⟨A3, k3, rfl, hr2, hb2⟩; have HR2 := Lib.hid hr2; replace M := Lib.hid (M.out.below hb2); clear hb2 hr2; replace hk4 := M.out.1; dsimp only at HR2 ⊢))
    all_goals first | exact HR.out _ _ ⟨rfl, M.out.2.1.1⟩ | exact HR.out _ _ ⟨rfl, (M.out.alloc _).2.1.1⟩
set_option maxRecDepth 100000 in
theorem replayBalance_lifted (os : Os) (started : os.Started) (H : Type) (enc : TypeId × Value → H) :
    ReturnsInHanded {} Try.checked os 5 .any (Rows.replayBalanceSpec.pre6 enc Try.prog Try.f5 Rows.replayBalanceRow.domain false) (Rows.replayBalanceSpec.post enc Try.prog Try.f5 false true false false) := by
  refine returnsInHanded_of_change (C := Try.checked) own_knob started (by kernel_rfl) Try.func5
    (ChangeSpec.witness6 (enc := enc) (C := Try.checked) false ⟨#[], #[.agg #[.int .i64 0, .slice none 0 0, .int .i64 0, .int .i64 0], .slice none 0 0], []⟩ 8 (by kernel_rfl) (by kernel_rfl) (by kernel_rfl) (by kernel_rfl)) ?_
  intro W base args ds gs before hval0 hW hcnd _
  have hval : ∀ (j : Nat) t v, Try.f5.params[j]? = some t → args[j]? = some v → Value.okWide Try.prog W .any base t v := hval0
  have hW' := hW
  obtain ⟨p, q, hA0, hV, rfl, hfz, hnd⟩ := hW
  have hA : DataW.TrodAll enc Try.prog W 0 (fun _ => true) true Try.f5.params.toList args.toList ds p := hA0
  rw [Try.params5] at hA hval
  obtain ⟨v0, v1, d0, d1, p0, p1, rfl, rfl, rfl, h0, h1⟩ := trodAll_two hA
  obtain ⟨rfl, rfl⟩ := trodVars_none hV
  obtain ⟨n, vt, rfl, hn⟩ := open_net (hval 0 24 v0 rfl rfl) h0
  obtain ⟨l, hs⟩ := open_strs' (hval 1 25 v1 rfl rfl) h1
  simp only [List.append_nil] at hW'
  refine (lawBalance_any n l vt v1 0 _ 0 _ W hn hs (Nat.le_refl _) (Nat.le_refl _)).mono fun e W' ⟨he, hb⟩ => ?_
  subst he
  have hp : ∀ x ∈ p0 ++ p1, x.block < W.heap.size := fun x hx => hW'.lt x (by simpa using hx)
  have hg := trodAll_mk2 (Below.trod laid_out (by kernel_rfl) (of_decide_eq_true (by kernel_rfl)) h0 hb (fun x hx => hp x (by simp [hx]))) (Below.trod laid_out (by kernel_rfl) (of_decide_eq_true (by kernel_rfl)) h1 hb (fun x hx => hp x (by simp [hx])))
  exact ⟨_, rfl, law_post (t := 4) hW' (by kernel_rfl) Try.underlying4 ⟨rfl, rfl, rfl⟩ rfl hg hb⟩

theorem replayBalance_holds : Rows.ReplayBalanceSaid :=
  OpenClaim.holds_of_wide 5 Try.f5 rfl rfl rfl rfl rfl rfl rfl ⟨rfl, rfl, rfl, rfl, rfl⟩ rfl rfl rfl rfl rfl (by kernel_rfl) Try.func5 (by kernel_rfl)
    (of_decide_eq_true (by kernel_rfl)) (by unfold Func.isWrapper; first | (rw [if_pos (by decide +kernel)]; kernel_rfl) | (rw [if_neg (by decide +kernel)]; exact ⟨rfl, rfl⟩))
    (fun os started H enc _ => replayBalance_lifted os started H enc)

#print axioms replayBalance_holds

end Go.Proofs.Ytmhbfoaecebobaa
