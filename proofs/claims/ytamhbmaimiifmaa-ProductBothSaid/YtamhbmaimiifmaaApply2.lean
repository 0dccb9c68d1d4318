/-
  Walks of product's Apply, casebookref42's Apply. Conditions: none.
-/
import Derived.Test.YtamhbmaimiifmaaApply
namespace Go.Proofs.Ytamhbmaimiifmaa
set_option linter.unusedSimpArgs false
set_option linter.unusedVariables false
open Go.RowKit

def ApplyE (n : Net) (w : List ByteArray) (s : List Int) (m : Stp) : List Int × Int := if stateB n w s && kindB m.kind then applyE n w s m else ([], 1)
theorem isState_is {n : Net} {l : List ByteArray} {s : List Int} {z : Bool} (hz : stateB n l s = z) (vt v vs : Value) (lo hi lo' hi' lo2 hi2 : Nat) (w : World) (hv : RdT w lo hi vt n.trans) (hw : RdS w lo' hi' v l) (hs : RdI w lo2 hi2 vs s) :
    Calls Try.prog 73 #[netV n vt, v, vs] w fun e w' => e = .returned (.bool z) ∧ Below w.heap.size w w' := hz ▸ isState_any n l s vt v vs lo hi lo' hi' lo2 hi2 w hv hw hs
theorem rIsState_is {n : Net} {l : List ByteArray} {s : List Int} {z : Bool} (hz : stateB n l s = z) (vt v vs : Value) (lo hi lo' hi' lo2 hi2 : Nat) (w : World) (hv : RdT w lo hi vt n.trans) (hw : RdS w lo' hi' v l) (hs : RdI w lo2 hi2 vs s) :
    Calls Try.prog 35 #[netV n vt, v, vs] w fun e w' => e = .returned (.bool z) ∧ Below w.heap.size w w' := hz ▸ rIsState_any n l s vt v vs lo hi lo' hi' lo2 hi2 w hv hw hs
theorem kind_is {k : Int} {z : Bool} (hz : kindB k = z) (w : World) : Calls Try.prog 74 #[.int .i64 k] w fun e w' => e = .returned (.bool z) ∧ Below w.heap.size w w' := hz ▸ kind_any k w
theorem stateB_facts {n : Net} {l : List ByteArray} {s : List Int} (h : stateB n l s = true) : 1 ≤ s.length ∧ s.length ≤ 1000 ∧ 0 ≤ gti s 0 ∧ gti s 0 ≤ l.length ∧ l.length ≤ 200 := by
  obtain ⟨h1, h2, h3, h4, h5⟩ := stateB_iff.1 h
  unfold markB at h5
  simp only [Bool.and_eq_true] at h5
  have h6 := mark2B_len h5.2
  have h7 := validB_places h5.1
  unfold wordB at h1
  simp only [Bool.and_eq_true, decide_eq_true_eq] at h1
  simp at h6
  omega
theorem stepM (kd tr : Int) (ac : ByteArray) (n : Net) (vt : Value) (w0 : World) : Mem [Loc.k3 (w0.heap.size + 1) (.int .i64 kd) (.int .i64 tr) (.string ac), Loc.k4 w0.heap.size (.int .i64 n.places) (vt) (.int .i64 n.source) (.int .i64 n.sink), Loc.bl w0.heap.size w0] ((w0.alloc (.cells #[.int .i64 n.places, vt, .int .i64 n.source, .int .i64 n.sink] 24)).alloc (.cells #[.int .i64 kd, .int .i64 tr, .string ac] 57)) :=
  ⟨by have := K3.new (w0.alloc (.cells #[.int .i64 n.places, vt, .int .i64 n.source, .int .i64 n.sink] 24)) (.int .i64 kd) (.int .i64 tr) (.string ac) 57; rw [World.size_alloc] at this; exact this, K4.aft ((Below.refl _ _).alloc (Nat.le_refl _) _) (K4.new w0 _ _ _ _ _), ⟨((Below.refl _ _).alloc (Nat.le_refl _) _).alloc (by simp) _, by simp; omega⟩, True.intro⟩

set_option maxHeartbeats 1000000 in
theorem Apply_any (n : Net) (l : List ByteArray) (s : List Int) (m : Stp) (vt v vs : Value) (lo hi lo' hi' lo2 hi2 : Nat) (w : World) (hv : RdT w lo hi vt n.trans) (hw : RdS w lo' hi' v l) (hs : RdI w lo2 hi2 vs s) :
    Calls Try.prog 32 #[netV n vt, v, vs, stpV m] w (RetI w (ApplyE n l s m)) := by
  obtain ⟨A, c, rfl, hc, hmm⟩ := hv.form
  obtain ⟨A2, c2, rfl, hc2, hmm2⟩ := hw.form
  obtain ⟨A3, c3, rfl, hc3, hmm3⟩ := hs.form
  have HV := Lib.hid hv
  have HW := Lib.hid hw
  have HS := Lib.hid hs
  clear hv hw hs
  obtain ⟨z, hz⟩ : ∃ z, stateB n l s = z := ⟨_, rfl⟩
  obtain ⟨y, hy⟩ : ∃ y, kindB m.kind = y := ⟨_, rfl⟩
  have HZ := Lib.hid hz
  have HY := Lib.hid hy
  have HAE : Hid (ApplyE n l s m = if z && y then applyE n l s m else ([], 1)) := Lib.hid (by rw [ApplyE, hz, hy])
  clear hz hy
  have hM := stepM m.kind m.trans m.act n (.slice A n.trans.length c)
  cases z <;> cases y
  all_goals
    refine calls_cps fun R hR => ?_
    have HR := Lib.hid hR
    clear hR
    go_enter Try.func32, Try.ntmps32
    have M := Lib.hid (hM w)
    have hk3 := M.out.1
    have hk4 := M.out.2.1
    go_wp2_with (first
      | (go_at_call 73; refine (isState_is HZ.out _ _ _ lo hi lo' hi' lo2 hi2 _ (HV.out.after M.out.2.2.1.1) (HW.out.after M.out.2.2.1.1) (HS.out.after M.out.2.2.1.1)).mono ?_; rintro e w1 ⟨rfl, hb1⟩; replace M := Lib.hid (M.out.below hb1); clear hb1; replace hk3 := M.out.1; replace hk4 := M.out.2.1)
      | (go_at_call 74; refine (kind_is HY.out _).mono ?_; rintro e w1 ⟨rfl, hb1⟩; replace M := Lib.hid (M.out.below hb1); clear hb1; replace hk3 := M.out.1; replace hk4 := M.out.2.1)
      | (go_at_call 49; refine (apply_any n l s m _ _ _ lo hi lo' hi' lo2 hi2 _ (HV.out.after M.out.2.2.1.1) (HW.out.after M.out.2.2.1.1) (HS.out.after M.out.2.2.1.1) (stateB_facts HZ.out).1 (stateB_facts HZ.out).2.1 (stateB_facts HZ.out).2.2.1 (stateB_facts HZ.out).2.2.2.1 (by have := (stateB_facts HZ.out).2.2.2.2; omega)).mono ?_; rintro e w7 ⟨A7, c7, rfl, hr7, hb7⟩; have HR7 := Lib.hid hr7; have hz7 := M.out.2.2.1.2; replace M := Lib.hid (M.out.below hb7); clear hb7 hr7))
  · exact HR.out _ _ (RetI.nil (by rw [HAE.out]; rfl) M.out.2.2.1.1)
  · exact HR.out _ _ (RetI.nil (by rw [HAE.out]; rfl) M.out.2.2.1.1)
  · exact HR.out _ _ (RetI.nil (by rw [HAE.out]; rfl) M.out.2.2.1.1)
  · exact HR.out _ _ (RetI.mk (by rw [HAE.out]; rfl) rfl HR7.out hz7 (Nat.le_refl _) M.out.2.2.1.1)

set_option maxRecDepth 100000 in
set_option maxHeartbeats 8000000 in
theorem rApply_any (n : Net) (l : List ByteArray) (s : List Int) (m : Stp) (vt v vs : Value) (lo hi lo' hi' lo2 hi2 : Nat) (w : World) (hv : RdT w lo hi vt n.trans) (hw : RdS w lo' hi' v l) (hs : RdI w lo2 hi2 vs s) :
    Calls Try.prog 33 #[netV n vt, v, vs, stpV m] w (RetI w (ApplyE n l s m)) := by
  obtain ⟨A, c, rfl, hc, hmm⟩ := hv.form
  obtain ⟨A2, c2, rfl, hc2, hmm2⟩ := hw.form
  obtain ⟨A3, c3, rfl, hc3, hmm3⟩ := hs.form
  have HV := Lib.hid hv
  have HW := Lib.hid hw
  have HS := Lib.hid hs
  clear hv hw
  obtain ⟨z, hz⟩ : ∃ z, stateB n l s = z := ⟨_, rfl⟩
  have HZ := Lib.hid hz
  obtain ⟨kd, tr, ac⟩ := m
  have hM := stepM kd tr ac n (.slice A n.trans.length c)
  by_cases hbad : z = false ∨ kindB kd = false
  · have HAE : Hid (ApplyE n l s ⟨kd, tr, ac⟩ = ([], 1)) := Lib.hid (by rw [ApplyE, hz]; rcases hbad with h | h <;> simp [h])
    have HBAD := Lib.hid hbad
    clear hz hs hbad
    cases z
    · skip
      refine calls_cps fun R hR => ?_
      have HR := Lib.hid hR
      clear hR
      go_enter Try.func33, Try.ntmps33
      have M := Lib.hid (hM w)
      have hk3 := M.out.1
      have hk4 := M.out.2.1
      go_wp2_with (go_at_call 35; refine (rIsState_is HZ.out _ _ _ lo hi lo' hi' lo2 hi2 _ (HV.out.after M.out.2.2.1.1) (HW.out.after M.out.2.2.1.1) (HS.out.after M.out.2.2.1.1)).mono ?_; rintro e w1 ⟨rfl, hb1⟩; replace M := Lib.hid (M.out.below hb1); clear hb1; replace hk3 := M.out.1; replace hk4 := M.out.2.1)
      exact HR.out _ _ (RetI.nil HAE.out M.out.2.2.1.1)
    · have hkb : ¬ (1 ≤ kd ∧ kd ≤ 4) := by
        rcases HBAD.out with h | h
        · cases h
        · unfold kindB at h; simp at h; omega
      by_cases h1 : kd < 1
      · have b1 : (decide (kd < 1)) = true := decide_eq_true h1
        refine calls_cps fun R hR => ?_
        have HR := Lib.hid hR
        clear hR
        go_enter Try.func33, Try.ntmps33
        have M := Lib.hid (hM w)
        have hk3 := M.out.1
        have hk4 := M.out.2.1
        go_wp2_with (go_at_call 35; refine (rIsState_is HZ.out _ _ _ lo hi lo' hi' lo2 hi2 _ (HV.out.after M.out.2.2.1.1) (HW.out.after M.out.2.2.1.1) (HS.out.after M.out.2.2.1.1)).mono ?_; rintro e w1 ⟨rfl, hb1⟩; replace M := Lib.hid (M.out.below hb1); clear hb1; replace hk3 := M.out.1; replace hk4 := M.out.2.1)
        exact HR.out _ _ (RetI.nil HAE.out M.out.2.2.1.1)
      · have b1 : (decide (kd < 1)) = false := decide_eq_false h1
        have h2 : 4 < kd := by omega
        have b2 : (decide (4 < kd)) = true := decide_eq_true h2
        clear hkb
        refine calls_cps fun R hR => ?_
        have HR := Lib.hid hR
        clear hR
        go_enter Try.func33, Try.ntmps33
        have M := Lib.hid (hM w)
        have hk3 := M.out.1
        have hk4 := M.out.2.1
        go_wp2_with (go_at_call 35; refine (rIsState_is HZ.out _ _ _ lo hi lo' hi' lo2 hi2 _ (HV.out.after M.out.2.2.1.1) (HW.out.after M.out.2.2.1.1) (HS.out.after M.out.2.2.1.1)).mono ?_; rintro e w1 ⟨rfl, hb1⟩; replace M := Lib.hid (M.out.below hb1); clear hb1; replace hk3 := M.out.1; replace hk4 := M.out.2.1)
        exact HR.out _ _ (RetI.nil HAE.out M.out.2.2.1.1)
  · have hz1 : z = true := by cases z <;> simp_all
    have hkk : kindB kd = true := by cases h : kindB kd <;> simp_all
    subst hz1
    have hkb : 1 ≤ kd ∧ kd ≤ 4 := by unfold kindB at hkk; simp at hkk; exact hkk
    obtain ⟨h1, h2, h3, h4, h5⟩ := stateB_facts hz
    have HAA : Hid (ApplyE n l s ⟨kd, tr, ac⟩ = applyE n l s ⟨kd, tr, ac⟩) := Lib.hid (by rw [ApplyE, hz, hkk]; rfl)
    clear hbad hz hkk
    obtain ⟨b, off, rfl, _, _, hcell⟩ := RdI.at1 hs (k := 0) (by omega)
    obtain ⟨At, ct, hsl, ht⟩ := RdI.tail1 hs h1 hc3
    obtain ⟨tl, htl⟩ : ∃ tl, s.drop 1 = tl := ⟨_, rfl⟩
    have htl2 : tl.length ≤ 1000 := by rw [← htl]; simp; omega
    rw [htl] at hsl ht
    have hae0 := (show applyE n l s ⟨kd, tr, ac⟩ = _ from by unfold applyE; rfl)
    have HAE := Lib.hid (HAA.out.trans hae0)
    clear hae0
    rw [htl] at HAE
    have HT := Lib.hid ht
    have hs0 : (0 : Int) < (s.length : Int) := by omega
    have hs2 : ¬ s = [] := by intro e; rw [e] at h1; simp at h1
    have hs3 : 0 < s.length := h1
    clear hs ht htl HAA
    simp only [Nat.add_zero] at hcell
    have HC := Lib.hid hcell
    clear hcell
    generalize gti s 0 = p at *
    simp only at HAE
    obtain ⟨kp, rfl⟩ : ∃ k : Nat, p = k := ⟨p.toNat, by omega⟩
    by_cases hk2 : kd = 2
    · subst hk2
      by_cases htr : tr = -1
      · subst htr
        cases hna : nameB ac with
        | false =>
          have HNA := Lib.hid hna
          clear hna
          refine calls_cps fun R hR => ?_
          have HR := Lib.hid hR
          clear hR
          go_enter Try.func33, Try.ntmps33
          have M := Lib.hid (hM w)
          have hk3 := M.out.1
          have hk4 := M.out.2.1
          have hcell := C1.aft M.out.2.2.1.1 HC.out
          go_wp2_with (first
            | (go_at_call 35; refine (rIsState_is HZ.out _ _ _ lo hi lo' hi' lo2 hi2 _ (HV.out.after M.out.2.2.1.1) (HW.out.after M.out.2.2.1.1) (HS.out.after M.out.2.2.1.1)).mono ?_; rintro e w1 ⟨rfl, hb1⟩; replace M := Lib.hid (M.out.below hb1); clear hb1; replace hk3 := M.out.1; replace hk4 := M.out.2.1; replace hcell := C1.aft M.out.2.2.1.1 HC.out)
            | (go_at_call 75; refine (isName2_any _ _).mono ?_; rintro e w1 ⟨rfl, hb1⟩; replace M := Lib.hid (M.out.below hb1); clear hb1; rw [HNA.out]; replace hk3 := M.out.1))
          exact HR.out _ _ (RetI.nil (by rw [HAE.out]; simp [HNA.out]) M.out.2.2.1.1)
        | true =>
          have HNA := Lib.hid hna
          clear hna
          by_cases hp : kp < l.length
          · obtain ⟨b5, off5, rfl, _, _, hce5⟩ := RdS.at1 HW.out hp
            have HC5 := Lib.hid hce5
            have HAT : Hid (atB l kp ac = decide (gti l kp = ac)) := Lib.hid (by simp [atB, hp])
            generalize gti l kp = x5 at *
            have bp : ((kp : Int) == (l.length : Int)) = false := by rw [beq_eq_false_iff_ne]; omega
            have hpi : (kp : Int) < l.length := by omega
            clear hce5
            refine calls_cps fun R hR => ?_
            have HR := Lib.hid hR
            clear hR
            go_enter Try.func33, Try.ntmps33
            have M := Lib.hid (hM w)
            have hk3 := M.out.1
            have hk4 := M.out.2.1
            have hcell := C1.aft M.out.2.2.1.1 HC.out
            have hce5 := C1.aft M.out.2.2.1.1 HC5.out
            go_wp2_with (first
              | (go_at_call 35; refine (rIsState_is HZ.out _ _ _ lo hi lo' hi' lo2 hi2 _ (HV.out.after M.out.2.2.1.1) (HW.out.after M.out.2.2.1.1) (HS.out.after M.out.2.2.1.1)).mono ?_; rintro e w1 ⟨rfl, hb1⟩; replace M := Lib.hid (M.out.below hb1); clear hb1; replace hk3 := M.out.1; replace hk4 := M.out.2.1; replace hcell := C1.aft M.out.2.2.1.1 HC.out; replace hce5 := C1.aft M.out.2.2.1.1 HC5.out)
              | (go_at_call 75; refine (isName2_any _ _).mono ?_; rintro e w1 ⟨rfl, hb1⟩; replace M := Lib.hid (M.out.below hb1); clear hb1; rw [HNA.out]; replace hk3 := M.out.1; replace hce5 := C1.aft M.out.2.2.1.1 HC5.out))
            go_quiet (fail)
            replace M := Lib.hid (M.out.drewN nq)
            replace hk3 := M.out.1
            generalize World.drewN _ nq = W at *
            have hzM := M.out.2.2.1.2
            go_wp2_with (go_at_call 70; refine (rstate_any _ tl lo2 hi2 _ _ (HT.out.after M.out.2.2.1.1) (by omega)).mono ?_; rintro e w7 ⟨A7, c7, rfl, hr7, hb7⟩; have HR7 := Lib.hid hr7; replace M := Lib.hid (M.out.below hb7); clear hb7 hr7)
            all_goals have hae := HAE.out
            all_goals have hinj := @toList_inj x5 ac
            all_goals rw [HAT.out, HNA.out] at hae
            all_goals clear HAE
            all_goals first
              | exact HR.out _ _ (RetI.nil (by rw [hae]; clear hae; go_light; grind) M.out.2.2.1.1)
              | exact HR.out _ _ (RetI.mk (by rw [hae]; clear hae; go_light; grind) rfl HR7.out (by omega) (Nat.le_refl _) M.out.2.2.1.1)
          · obtain rfl : kp = l.length := by omega
            have HAT : Hid (atB l l.length ac = false) := Lib.hid (by simp [atB])
            refine calls_cps fun R hR => ?_
            have HR := Lib.hid hR
            clear hR
            go_enter Try.func33, Try.ntmps33
            have M := Lib.hid (hM w)
            have hk3 := M.out.1
            have hk4 := M.out.2.1
            have hcell := C1.aft M.out.2.2.1.1 HC.out
            go_wp2_with (first
              | (go_at_call 35; refine (rIsState_is HZ.out _ _ _ lo hi lo' hi' lo2 hi2 _ (HV.out.after M.out.2.2.1.1) (HW.out.after M.out.2.2.1.1) (HS.out.after M.out.2.2.1.1)).mono ?_; rintro e w1 ⟨rfl, hb1⟩; replace M := Lib.hid (M.out.below hb1); clear hb1; replace hk3 := M.out.1; replace hk4 := M.out.2.1; replace hcell := C1.aft M.out.2.2.1.1 HC.out)
              | (go_at_call 75; refine (isName2_any _ _).mono ?_; rintro e w1 ⟨rfl, hb1⟩; replace M := Lib.hid (M.out.below hb1); clear hb1; rw [HNA.out]; replace hk3 := M.out.1))
            go_quiet (fail)
            replace M := Lib.hid (M.out.drewN nq)
            generalize World.drewN _ nq = W at *
            go_wp2_with fail
            exact HR.out _ _ (RetI.nil (by rw [HAE.out, HAT.out, HNA.out]; rfl) M.out.2.2.1.1)
      · have btr : (tr != -1) = true := by simpa using htr
        refine calls_cps fun R hR => ?_
        have HR := Lib.hid hR
        clear hR
        go_enter Try.func33, Try.ntmps33
        have M := Lib.hid (hM w)
        have hk3 := M.out.1
        have hk4 := M.out.2.1
        have hcell := C1.aft M.out.2.2.1.1 HC.out
        go_wp2_with (go_at_call 35; refine (rIsState_is HZ.out _ _ _ lo hi lo' hi' lo2 hi2 _ (HV.out.after M.out.2.2.1.1) (HW.out.after M.out.2.2.1.1) (HS.out.after M.out.2.2.1.1)).mono ?_; rintro e w1 ⟨rfl, hb1⟩; replace M := Lib.hid (M.out.below hb1); clear hb1; replace hk3 := M.out.1; replace hk4 := M.out.2.1; replace hcell := C1.aft M.out.2.2.1.1 HC.out)
        exact HR.out _ _ (RetI.nil (by rw [HAE.out]; simp; intro h; exact absurd h (by go_light; omega)) M.out.2.2.1.1)
    · have HK2 := Lib.hid hk2
      have hk2' : (kd == 2) = false := by simpa using hk2
      by_cases ht : tr < 0 ∨ n.trans.length ≤ tr
      · have HTT := Lib.hid ht
        refine calls_cps fun R hR => ?_
        have HR := Lib.hid hR
        clear hR
        go_enter Try.func33, Try.ntmps33
        have M := Lib.hid (hM w)
        have hk3 := M.out.1
        have hk4 := M.out.2.1
        have hcell := C1.aft M.out.2.2.1.1 HC.out
        go_wp2_with (go_at_call 35; refine (rIsState_is HZ.out _ _ _ lo hi lo' hi' lo2 hi2 _ (HV.out.after M.out.2.2.1.1) (HW.out.after M.out.2.2.1.1) (HS.out.after M.out.2.2.1.1)).mono ?_; rintro e w1 ⟨rfl, hb1⟩; replace M := Lib.hid (M.out.below hb1); clear hb1; replace hk3 := M.out.1; replace hk4 := M.out.2.1; replace hcell := C1.aft M.out.2.2.1.1 HC.out)
        all_goals have hae := HAE.out
        all_goals rw [if_neg HK2.out, if_pos HTT.out] at hae
        all_goals first
          | exact HR.out _ _ (RetI.nil hae M.out.2.2.1.1)
          | (exfalso; go_light; omega)
      · have HTT := Lib.hid ht
        obtain ⟨kt, rfl⟩ : ∃ k : Nat, tr = k := ⟨tr.toNat, by omega⟩
        have hlt : kt < n.trans.length := by omega
        clear ht
        obtain ⟨b4, off4, vi, vo, rfl, hbl, hbh, hcl, hri, hro⟩ := RdT.at3 HV.out hlt
        have HCL := Lib.hid hcl
        have hx1 : ((kt : Int) < 0) = False := by simp
        have hx2 : ((n.trans.length : Int) ≤ (kt : Int)) = False := by simp; omega
        have HFL := Lib.hid (fireE_len (n := n) (m := tl) (t := kt))
        rw [if_neg HK2.out, if_neg HTT.out, Int.toNat_natCast] at HAE
        generalize gti n.trans kt = x at *
        clear hri hro hcl
        have HFE := Lib.hid (fun (W : World) (h : Below w.heap.size w W) => rFire_any n tl kt _ _ lo hi lo2 hi2 W (HV.out.after h) (HT.out.after h))
        obtain ⟨⟨fl, fe⟩, hfe⟩ : ∃ r, FireE n tl kt = r := ⟨_, rfl⟩
        rw [hfe] at HAE HFE HFL
        simp only at HAE HFL
        clear hfe
        by_cases hlab : ac ≠ x.label ∨ x.label.toList.isEmpty ≠ decide (kd = 4)
        · have HLAB := Lib.hid hlab
          rw [if_pos hlab] at HAE
          have hinj := @toList_inj ac x.label
          have HIN := Lib.hid hinj
          clear hlab hinj
          refine calls_cps fun R hR => ?_
          have HR := Lib.hid hR
          clear hR
          go_enter Try.func33, Try.ntmps33
          have M := Lib.hid (hM w)
          have hk3 := M.out.1
          have hk4 := M.out.2.1
          have hcell := C1.aft M.out.2.2.1.1 HC.out
          have hcr := C3.aft M.out.2.2.1.1 HCL.out
          go_wp2_with (go_at_call 35; refine (rIsState_is HZ.out _ _ _ lo hi lo' hi' lo2 hi2 _ (HV.out.after M.out.2.2.1.1) (HW.out.after M.out.2.2.1.1) (HS.out.after M.out.2.2.1.1)).mono ?_; rintro e w1 ⟨rfl, hb1⟩; replace M := Lib.hid (M.out.below hb1); clear hb1; replace hk3 := M.out.1; replace hk4 := M.out.2.1; replace hcell := C1.aft M.out.2.2.1.1 HC.out; replace hcr := C3.aft M.out.2.2.1.1 HCL.out)
          all_goals first
            | exact HR.out _ _ (RetI.nil HAE.out M.out.2.2.1.1)
            | (exfalso; have hl := HLAB.out; have hi := HIN.out; clear HAE HLAB HIN; go_light; grind)
        · rw [if_neg hlab] at HAE
          have hac : ac = x.label := by
            by_cases h : ac = x.label
            · exact h
            · exact absurd (Or.inl h) hlab
          have hem : x.label.toList.isEmpty = decide (kd = 4) := by
            by_cases h : x.label.toList.isEmpty = decide (kd = 4)
            · exact h
            · exact absurd (Or.inr h) hlab
          subst hac
          have HEM := Lib.hid hem
          have hem4 : (x.label.toList.isEmpty != (kd == 4)) = false := by rw [hem]; by_cases h : kd = 4 <;> simp [h]
          have hem5 : ¬ (x.label.toList.isEmpty = !(kd == 4)) := by rw [hem]; cases h : (kd == 4) <;> simp_all
          clear hlab hem
          generalize hac : x.label = ac at *
          clear hac
          by_cases hk1 : kd = 1
          · subst hk1
            by_cases hp : kp < l.length
            · obtain ⟨b5, off5, rfl, _, _, hce5⟩ := RdS.at1 HW.out hp
              have HC5 := Lib.hid hce5
              have HAT : Hid (atB l kp ac = decide (gti l kp = ac)) := Lib.hid (by simp [atB, hp])
              generalize gti l kp = x5 at *
              have bp : ((kp : Int) == (l.length : Int)) = false := by rw [beq_eq_false_iff_ne]; omega
              have hpi : (kp : Int) < l.length := by omega
              clear hce5
              have hinj := @toList_inj x5 ac
              rw [HAT.out] at HAE
              have HIN := Lib.hid hinj
              clear hinj
              refine calls_cps fun R hR => ?_
              have HR := Lib.hid hR
              clear hR
              go_enter Try.func33, Try.ntmps33
              have M := Lib.hid (hM w)
              have hk3 := M.out.1
              have hk4 := M.out.2.1
              have hcell := C1.aft M.out.2.2.1.1 HC.out
              have hce5 := C1.aft M.out.2.2.1.1 HC5.out
              have hcr := C3.aft M.out.2.2.1.1 HCL.out
              go_wp2_with (go_at_call 35; refine (rIsState_is HZ.out _ _ _ lo hi lo' hi' lo2 hi2 _ (HV.out.after M.out.2.2.1.1) (HW.out.after M.out.2.2.1.1) (HS.out.after M.out.2.2.1.1)).mono ?_; rintro e w1 ⟨rfl, hb1⟩; replace M := Lib.hid (M.out.below hb1); clear hb1; replace hk3 := M.out.1; replace hk4 := M.out.2.1; replace hcell := C1.aft M.out.2.2.1.1 HC.out; replace hcr := C3.aft M.out.2.2.1.1 HCL.out; replace hce5 := C1.aft M.out.2.2.1.1 HC5.out)
              all_goals try (exfalso; have hl := HEM.out; clear HAE HEM HIN; go_light; (first | (clear hem4 hem5; grind) | grind); done)
              go_quiet (fail)
              replace M := Lib.hid (M.out.drewN nq)
              replace hk3 := M.out.1
              replace hk4 := M.out.2.1
              generalize World.drewN _ nq = W at *
              have hzM := M.out.2.2.1.2
              go_wp2_with fail
              · exact HR.out _ _ (RetI.nil (by have hae := HAE.out; have hi := HIN.out; rw [hae]; clear hae HAE HIN; go_light; grind) M.out.2.2.1.1)
              have hi := HIN.out
              replace HAE : Hid (ApplyE n l s ⟨1, kt, ac⟩ = if fe ≠ 0 then ([], fe) else ((kp + 1 : Int) :: fl, 0)) := Lib.hid (by have hae := HAE.out; rw [hae]; clear hae HAE HIN; go_light; grind)
              clear hi
              go_region_held3 (fun W => K4 W w.heap.size (.int .i64 n.places) (.slice (some ⟨b4, off4, none⟩) n.trans.length c) (.int .i64 n.source) (.int .i64 n.sink) ∧ K3 W (w.heap.size + 1) (.int .i64 1) (.int .i64 kt) (.string ac)) (exact ⟨hk4, hk3⟩) (first
                | (go_at_call 76; refine (HFE.out _ (by first | exact M.out.2.2.1.1 | exact M.out.drew.2.2.1.1)).mono ?_; rintro e w6 ⟨A6, c6, rfl, hr6, hb6⟩; have hz0 := M.out.2.1.2.2.2.2; have hz1 := M.out.1.2.2.2; have hz6 := hb6.size; replace M := Lib.hid (Mem.below (by first | exact M.out | exact M.out.drew) hb6); have HR6 := Lib.hid hr6; dsimp only at HR6 ⊢; replace hk3 := M.out.1; replace hk4 := M.out.2.1; clear hb6 hr6))
              all_goals
                go_wp2_with (go_at_call 70; refine (rstate_any _ _ _ _ _ _ HR6.out (by have := HFL.out; omega)).mono ?_; rintro e w7 ⟨A7, c7, rfl, hr7, hb7⟩; have HR7 := Lib.hid hr7; replace M := Lib.hid (M.out.below hb7); clear hb7 hr7)
                all_goals have hae := HAE.out
                all_goals clear HAE
                all_goals first
                  | exact HR.out _ _ (RetI.nil (by rw [hae]; clear hae; go_light; grind) M.out.2.2.1.1)
                  | exact HR.out _ _ (RetI.mk (by rw [hae]; clear hae; go_light; grind) rfl HR7.out (by omega) (Nat.le_refl _) M.out.2.2.1.1)
            · obtain rfl : kp = l.length := by omega
              have HAT : Hid (atB l l.length ac = false) := Lib.hid (by simp [atB])
              rw [HAT.out] at HAE
              refine calls_cps fun R hR => ?_
              have HR := Lib.hid hR
              clear hR
              go_enter Try.func33, Try.ntmps33
              have M := Lib.hid (hM w)
              have hk3 := M.out.1
              have hk4 := M.out.2.1
              have hcell := C1.aft M.out.2.2.1.1 HC.out
              have hcr := C3.aft M.out.2.2.1.1 HCL.out
              go_wp2_with (go_at_call 35; refine (rIsState_is HZ.out _ _ _ lo hi lo' hi' lo2 hi2 _ (HV.out.after M.out.2.2.1.1) (HW.out.after M.out.2.2.1.1) (HS.out.after M.out.2.2.1.1)).mono ?_; rintro e w1 ⟨rfl, hb1⟩; replace M := Lib.hid (M.out.below hb1); clear hb1; replace hk3 := M.out.1; replace hk4 := M.out.2.1; replace hcell := C1.aft M.out.2.2.1.1 HC.out; replace hcr := C3.aft M.out.2.2.1.1 HCL.out)
              all_goals try (exfalso; have hl := HEM.out; clear HAE HEM; go_light; (first | (clear hem4 hem5; grind) | grind); done)
              go_quiet (fail)
              replace M := Lib.hid (M.out.drewN nq)
              replace hk3 := M.out.1
              replace hk4 := M.out.2.1
              generalize World.drewN _ nq = W at *
              have hzM := M.out.2.2.1.2
              go_wp2_with fail
              exact HR.out _ _ (RetI.nil (by rw [HAE.out]; simp) M.out.2.2.1.1)
          · have bk1 : (kd == 1) = false := by simpa using hk1
            replace HAE : Hid (ApplyE n l s ⟨kd, kt, ac⟩ = if fe ≠ 0 then ([], fe) else ((kp : Int) :: fl, 0)) := Lib.hid (by have hae := HAE.out; rw [hae]; simp [hk1])
            refine calls_cps fun R hR => ?_
            have HR := Lib.hid hR
            clear hR
            go_enter Try.func33, Try.ntmps33
            have M := Lib.hid (hM w)
            have hk3 := M.out.1
            have hk4 := M.out.2.1
            have hcell := C1.aft M.out.2.2.1.1 HC.out
            have hcr := C3.aft M.out.2.2.1.1 HCL.out
            go_wp2_with (go_at_call 35; refine (rIsState_is HZ.out _ _ _ lo hi lo' hi' lo2 hi2 _ (HV.out.after M.out.2.2.1.1) (HW.out.after M.out.2.2.1.1) (HS.out.after M.out.2.2.1.1)).mono ?_; rintro e w1 ⟨rfl, hb1⟩; replace M := Lib.hid (M.out.below hb1); clear hb1; replace hk3 := M.out.1; replace hk4 := M.out.2.1; replace hcell := C1.aft M.out.2.2.1.1 HC.out; replace hcr := C3.aft M.out.2.2.1.1 HCL.out)
            all_goals try (exfalso; have hl := HEM.out; clear HAE HEM; go_light; (first | (clear hem4 hem5; grind) | grind); done)
            go_quiet (fail)
            replace M := Lib.hid (M.out.drewN nq)
            replace hk3 := M.out.1
            replace hk4 := M.out.2.1
            generalize World.drewN _ nq = W at *
            have hzM := M.out.2.2.1.2
            go_wp2_with fail
            go_region_held3 (fun W => K4 W w.heap.size (.int .i64 n.places) (.slice (some ⟨b4, off4, none⟩) n.trans.length c) (.int .i64 n.source) (.int .i64 n.sink) ∧ K3 W (w.heap.size + 1) (.int .i64 kd) (.int .i64 kt) (.string ac)) (exact ⟨hk4, hk3⟩) (first
              | (go_at_call 76; refine (HFE.out _ (by first | exact M.out.2.2.1.1 | exact M.out.drew.2.2.1.1)).mono ?_; rintro e w6 ⟨A6, c6, rfl, hr6, hb6⟩; have hz0 := M.out.2.1.2.2.2.2; have hz1 := M.out.1.2.2.2; have hz6 := hb6.size; replace M := Lib.hid (Mem.below (by first | exact M.out | exact M.out.drew) hb6); have HR6 := Lib.hid hr6; dsimp only at HR6 ⊢; replace hk3 := M.out.1; replace hk4 := M.out.2.1; clear hb6 hr6))
            all_goals
              go_wp2_with (go_at_call 70; refine (rstate_any _ _ _ _ _ _ HR6.out (by have := HFL.out; omega)).mono ?_; rintro e w7 ⟨A7, c7, rfl, hr7, hb7⟩; have HR7 := Lib.hid hr7; replace M := Lib.hid (M.out.below hb7); clear hb7 hr7)
              all_goals have hae := HAE.out
              all_goals clear HAE
              all_goals first
                | exact HR.out _ _ (RetI.nil (by rw [hae]; clear hae; go_light; grind) M.out.2.2.1.1)
                | exact HR.out _ _ (RetI.mk (by rw [hae]; clear hae; go_light; grind) rfl HR7.out (by omega) (Nat.le_refl _) M.out.2.2.1.1)
end Go.Proofs.Ytamhbmaimiifmaa
