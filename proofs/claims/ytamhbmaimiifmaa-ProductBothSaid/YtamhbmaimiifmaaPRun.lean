/-
  Walks of petri's Run, of slices.Equal at strings. Conditions: none.
-/
import Derived.Test.YtamhbmaimiifmaaSound
import Derived.Test.YtamhbmaimiifmaaEq
namespace Go.Proofs.Ytamhbmaimiifmaa
set_option linter.unusedSimpArgs false
set_option linter.unusedVariables false
open Go.RowKit

def RetR (w : World) (r : List Int × Int × Int) (e : Ending) (w' : World) : Prop :=
  ∃ A c, e = .returned (.tuple #[.slice A r.1.length c, .int .i64 r.2.1, .int .i64 r.2.2]) ∧ RdI w' w.heap.size w'.heap.size (.slice A r.1.length c) r.1 ∧ Below w.heap.size w w'
theorem RetR.nil {w w' : World} {r : List Int × Int × Int} {c d : Int} (h : r = ([], c, d)) (hb : Below w.heap.size w w') : RetR w r (.returned (.tuple #[.slice none 0 0, .int .i64 c, .int .i64 d])) w' := by
  subst h
  exact ⟨none, 0, rfl, Rd.nil _ _ _, hb⟩
theorem RetR.mk {w w' : World} {r : List Int × Int × Int} {l : List Int} {n k : Nat} {A : Option Addr} {c d : Int} (h : r = (l, c, d)) (hn : n = l.length) {lo hi : Nat} (hr : RdI w' lo hi (.slice A n k) l) (hlo : w.heap.size ≤ lo) (hhi : hi ≤ w'.heap.size) (hb : Below w.heap.size w w') : RetR w r (.returned (.tuple #[.slice A n k, .int .i64 c, .int .i64 d])) w' := by
  subst h hn
  exact ⟨A, k, rfl, hr.mono hlo hhi, hb⟩

set_option maxHeartbeats 2000000 in
theorem pRun_any (n : Net) (m l : List Int) (vt v vl : Value) (lo hi lo' hi' lo2 hi2 : Nat) (w : World) (hv : RdT w lo hi vt n.trans) (hm : RdI w lo' hi' v m) (hl : RdI w lo2 hi2 vl l) :
    Calls Try.prog 27 #[netV n vt, v, vl] w (RetR w (RunE n m l)) := by
  obtain ⟨A, c, rfl, hc, hmm⟩ := hv.form
  obtain ⟨A2, c2, rfl, hc2, hmm2⟩ := hm.form
  obtain ⟨A3, c3, rfl, hc3, hmm3⟩ := hl.form
  have HV := Lib.hid hv
  have HW := Lib.hid hm
  have HL := Lib.hid hl
  clear hv hm hl
  cases hvb : markB n m
  · have HVB := Lib.hid hvb
    clear hvb
    refine calls_cps fun R hR => ?_
    have HR := Lib.hid hR
    clear hR
    go_enter Try.func27, Try.ntmps27
    have M : Hid (Mem [Loc.k4 w.heap.size (.int .i64 n.places) (.slice A n.trans.length c) (.int .i64 n.source) (.int .i64 n.sink), Loc.bl w.heap.size w] (w.alloc (.cells #[.int .i64 n.places, .slice A n.trans.length c, .int .i64 n.source, .int .i64 n.sink] 24))) := Lib.hid ⟨K4.new w _ _ _ _ _, ⟨(Below.refl _ _).alloc (Nat.le_refl _) _, by simp⟩, True.intro⟩
    have hk4 := M.out.1
    go_wp2_with (go_at_call 66; refine (marking_is HVB.out _ _ lo hi lo' hi' _ (HV.out.after M.out.2.1.1) (HW.out.after M.out.2.1.1)).mono ?_; rintro e w1 ⟨rfl, hb1⟩; replace M := Lib.hid (M.out.below hb1); clear hb1; replace hk4 := M.out.1)
    go_ret3
    exact HR.out _ _ (RetR.nil (by rw [RunE, HVB.out]; rfl) M.out.2.1.1)
  · have HVB := Lib.hid hvb
    have hml : m.length ≤ 40 := by
      have h := hvb
      unfold markB at h
      simp only [Bool.and_eq_true] at h
      have h1 := mark2B_len h.2
      have h2 := validB_places h.1
      omega
    clear hvb
    by_cases hbig : 1000 < l.length
    · have hbi : (1000 : Int) < l.length := by omega
      refine calls_cps fun R hR => ?_
      have HR := Lib.hid hR
      clear hR
      go_enter Try.func27, Try.ntmps27
      have M : Hid (Mem [Loc.k4 w.heap.size (.int .i64 n.places) (.slice A n.trans.length c) (.int .i64 n.source) (.int .i64 n.sink), Loc.bl w.heap.size w] (w.alloc (.cells #[.int .i64 n.places, .slice A n.trans.length c, .int .i64 n.source, .int .i64 n.sink] 24))) := Lib.hid ⟨K4.new w _ _ _ _ _, ⟨(Below.refl _ _).alloc (Nat.le_refl _) _, by simp⟩, True.intro⟩
      have hk4 := M.out.1
      go_wp2_with (go_at_call 66; refine (marking_is HVB.out _ _ lo hi lo' hi' _ (HV.out.after M.out.2.1.1) (HW.out.after M.out.2.1.1)).mono ?_; rintro e w1 ⟨rfl, hb1⟩; replace M := Lib.hid (M.out.below hb1); clear hb1; replace hk4 := M.out.1)
      go_ret3
      exact HR.out _ _ (RetR.nil (by rw [RunE, HVB.out, if_pos rfl, if_pos hbig]) M.out.2.1.1)
    · have hbi : ¬ (1000 : Int) < l.length := by omega
      have HRE : Hid (RunE n m l = runG n m l 0) := Lib.hid (by rw [RunE, HVB.out, if_pos rfl, if_neg hbig])
      refine calls_cps fun R hR => ?_
      have HR := Lib.hid hR
      clear hR
      go_enter Try.func27, Try.ntmps27
      have M : Hid (Mem [Loc.k4 w.heap.size (.int .i64 n.places) (.slice A n.trans.length c) (.int .i64 n.source) (.int .i64 n.sink), Loc.bl w.heap.size w] (w.alloc (.cells #[.int .i64 n.places, .slice A n.trans.length c, .int .i64 n.source, .int .i64 n.sink] 24))) := Lib.hid ⟨K4.new w _ _ _ _ _, ⟨(Below.refl _ _).alloc (Nat.le_refl _) _, by simp⟩, True.intro⟩
      have hk4 := M.out.1
      go_wp2_with (first
        | (go_at_call 66; refine (marking_is HVB.out _ _ lo hi lo' hi' _ (HV.out.after M.out.2.1.1) (HW.out.after M.out.2.1.1)).mono ?_; rintro e w1 ⟨rfl, hb1⟩; replace M := Lib.hid (M.out.below hb1); clear hb1; replace hk4 := M.out.1)
        | (go_at_call 67; refine (clone_any m _ lo' hi' _ (HW.out.after M.out.2.1.1) (by omega)).mono ?_; rintro e w2 ⟨A1, c1, rfl, ho1, hb1⟩; have hzz := M.out.2.1.2; replace M := Lib.hid (Mem.cons (a := Loc.rdI _ _ _ _) ho1.rd (M.out.below hb1)); clear hb1 ho1))
      go_loopw [27, 9, 10, 11, 12, 13] (fun v27 v9 _ _ _ _ wr => ∃ (j : Nat) (s : List Int) (B : Option Addr) (d lh : Nat), j ≤ l.length ∧ v27 = .int .i64 j ∧ v9 = .slice B s.length d ∧ w.heap.size ≤ lh ∧ Hid (markB n s = true) ∧ Hid (runG n m l 0 = runG n s (l.drop j) j) ∧ Hid (Mem [Loc.rdI lh wr.heap.size (.slice B s.length d) s, Loc.k4 w.heap.size (.int .i64 n.places) (.slice A n.trans.length c) (.int .i64 n.source) (.int .i64 n.sink), Loc.bl w.heap.size w] wr)) (fun v27 _ _ _ _ _ _ => l.length - (intOf v27).toNat)
      case atStart => exact ⟨0, m, A1, c1, _, by omega, rfl, rfl, hzz, HVB, Lib.hid rfl, M⟩
      case round =>
        clear M hk4
        obtain ⟨j, s, B, d, lh, hj, rfl, rfl, hlh, HMS, HI, M⟩ := hrel
        have hk4 := M.out.2.1
        by_cases hlt : j < l.length
        · obtain ⟨b, off, rfl, _, _, hcell⟩ := RdI.at1 (HL.out.after M.out.2.2.1.1) hlt
          have HJ : Hid (runG n m l 0 = if (fireE n s (gti l j)).2 = 0 then runG n (fireE n s (gti l j)).1 (l.drop (j + 1)) (j + 1) else ([], (j : Int), (fireE n s (gti l j)).2)) := Lib.hid (by rw [HI.out, drop_gti hlt, runG])
          have HAS := Lib.hid (fireE_mark (t := gti l j) HMS.out)
          have HAP := Lib.hid (fun (W : World) (h : Below w.heap.size w W) (hr : RdI W lh wr.heap.size (.slice B s.length d) s) => fire_any n s (gti l j) _ _ lo hi lh wr.heap.size W (HV.out.after h) hr HMS.out)
          obtain ⟨⟨fl, fe⟩, hfe⟩ : ∃ r, fireE n s (gti l j) = r := ⟨_, rfl⟩
          rw [hfe] at HJ HAS HAP
          simp only at HJ HAS
          clear hfe
          generalize gti l j = x at *
          have hws := M.out.2.2.1.2
          by_cases he0 : fe = 0
          · subst he0
            rw [if_pos rfl] at HJ
            go_wp2_with (go_at_call 68; refine (HAP.out _ M.out.2.2.1.1 M.out.1).mono ?_; rintro e w9 ⟨A9, c9, rfl, hr9, hb9⟩; have HR9 := Lib.hid hr9; replace M := Lib.hid (M.out.below hb9); clear hb9 hr9; dsimp only at HR9 ⊢)
            exact ⟨⟨j + 1, fl, A9, c9, _, by omega, by go_num, rfl, hws, Lib.hid (HAS.out (by first | rfl | trivial)), HJ, Lib.hid ⟨HR9.out, M.out.2⟩⟩, by simp [intOf]; omega⟩
          · rw [if_neg he0] at HJ
            have be0 : (fe != 0) = true := by simpa using he0
            go_wp2_with (go_at_call 68; refine (HAP.out _ M.out.2.2.1.1 M.out.1).mono ?_; rintro e w9 ⟨A9, c9, rfl, hr9, hb9⟩; have HR9 := Lib.hid hr9; replace M := Lib.hid (M.out.below hb9); clear hb9 hr9; dsimp only at HR9 ⊢)
            go_ret3
            exact HR.out _ _ (RetR.nil (by rw [HRE.out, HJ.out]) M.out.2.2.1.1)
        · obtain rfl : j = l.length := by omega
          have HE : Hid (runG n m l 0 = (s, (l.length : Int), 0)) := Lib.hid (by rw [HI.out]; simp [runG])
          clear HI
          go_wp2_with fail
          go_ret3
          exact HR.out _ _ (RetR.mk (by rw [HRE.out, HE.out]) rfl M.out.1 hlh (Nat.le_refl _) M.out.2.2.1.1)

set_option maxHeartbeats 1000000 in
theorem equalS_eq (l : List ByteArray) (lo hi lo2 hi2 : Nat) (v1 v2 : Value) (w : World) (h1 : RdS w lo hi v1 l) (h2 : RdS w lo2 hi2 v2 l) :
    Calls Try.prog 24 #[v1, v2] w fun e w' => e = .returned (.bool true) ∧ Below w.heap.size w w' := by
  obtain ⟨A1, c1, rfl, hc1, hm1⟩ := h1.form
  obtain ⟨A2, c2, rfl, hc2, hm2⟩ := h2.form
  have H1 := Lib.hid h1
  have H2 := Lib.hid h2
  clear h1 h2
  refine calls_cps fun R hR => ?_
  have HR := Lib.hid hR
  clear hR
  go_enter Try.func24, Try.ntmps24
  go_wp2_with fail
  go_loopw [13, 5] (fun v13 _ wr => ∃ (k q : Nat), k ≤ l.length ∧ v13 = .int .i64 k ∧ wr = w.drewN q) (fun v13 _ _ => l.length - (intOf v13).toNat)
  case atStart => exact ⟨0, 0, by omega, rfl, rfl⟩
  case round =>
    obtain ⟨k, q, hk, rfl, rfl⟩ := hrel
    by_cases hlt : k < l.length
    · have hkd : decide ((k : Int) < (l.length : Int)) = true := by simp; omega
      have hkb : (k : Int) < (l.length : Int) := by omega
      obtain ⟨b1, o1, rfl, _, _, f1⟩ := RdS.at1 H1.out hlt
      obtain ⟨b2, o2, rfl, _, _, f2⟩ := RdS.at1 H2.out hlt
      generalize gti l k = x at *
      go_wp2
      go_quiet (fail)
      go_wp2
      refine ⟨⟨k + 1, _, by omega, by go_num, by first | rfl | (rw [World.drewN_drewN])⟩, by simp [intOf]; omega⟩
    · have hkd : decide ((k : Int) < (l.length : Int)) = false := by simp; omega
      go_wp2
      exact HR.out _ _ ⟨rfl, below_drewN (Below.refl _ _) _⟩
end Go.Proofs.Ytamhbmaimiifmaa
