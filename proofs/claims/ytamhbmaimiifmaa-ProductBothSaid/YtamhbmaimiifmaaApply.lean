/-
  Walks of product's apply, Apply. Conditions: none.
-/
import Derived.Test.YtamhbmaimiifmaaState2
namespace Go.Proofs.Ytamhbmaimiifmaa
set_option linter.unusedSimpArgs false
set_option linter.unusedVariables false
open Go.RowKit

def applyE (n : Net) (w : List ByteArray) (s : List Int) (m : Stp) : List Int × Int :=
  if m.kind = 2 then
    if m.trans ≠ -1 then ([], 2) else if nameB m.act = false then ([], 8) else if atB w (gti s 0) m.act = false then ([], 10) else ((gti s 0 + 1) :: s.drop 1, 0)
  else if m.trans < 0 ∨ (n.trans.length : Int) ≤ m.trans then ([], 2)
  else if m.act ≠ (gti n.trans m.trans.toNat).label ∨ (gti n.trans m.trans.toNat).label.toList.isEmpty ≠ decide (m.kind = 4) then ([], 8)
  else if m.kind = 1 ∧ atB w (gti s 0) m.act = false then ([], 10)
  else if (FireE n (s.drop 1) m.trans).2 ≠ 0 then ([], (FireE n (s.drop 1) m.trans).2)
  else ((if m.kind = 1 then gti s 0 + 1 else gti s 0) :: (FireE n (s.drop 1) m.trans).1, 0)
abbrev stpV (m : Stp) : Value := .agg #[.int .i64 m.kind, .int .i64 m.trans, .string m.act]
theorem fireE_len {n : Net} {m : List Int} {t : Int} : (FireE n m t).1.length ≤ m.length := by
  unfold FireE fireE
  split
  · split
    · simp
    · split
      · split
        · simp
        · simp [incL_len, decL_len]
      · simp
  · simp
theorem toList_bne (x a : ByteArray) : (x.toList != a.toList) = decide (x ≠ a) := by
  rw [Bool.eq_iff_iff]; simp [toList_inj]

set_option maxRecDepth 100000 in
set_option maxHeartbeats 4000000 in
theorem apply_any (n : Net) (l : List ByteArray) (s : List Int) (m : Stp) (vt v vs : Value) (lo hi lo' hi' lo2 hi2 : Nat) (w : World) (hv : RdT w lo hi vt n.trans) (hw : RdS w lo' hi' v l) (hs : RdI w lo2 hi2 vs s)
    (h1 : 1 ≤ s.length) (h2 : s.length ≤ 1000) (h3 : 0 ≤ gti s 0) (h4 : gti s 0 ≤ l.length) (h5 : l.length ≤ 1000) :
    Calls Try.prog 49 #[netV n vt, v, vs, stpV m] w (RetI w (applyE n l s m)) := by
  obtain ⟨A, c, rfl, hc, hmm⟩ := hv.form
  obtain ⟨A2, c2, rfl, hc2, hmm2⟩ := hw.form
  obtain ⟨A3, c3, rfl, hc3, hmm3⟩ := hs.form
  have HV := Lib.hid hv
  have HW := Lib.hid hw
  have HS := Lib.hid hs
  clear hv hw
  obtain ⟨b, off, rfl, _, _, hcell⟩ := RdI.at1 hs (k := 0) (by omega)
  obtain ⟨At, ct, hsl, ht⟩ := RdI.tail1 hs h1 hc3
  obtain ⟨tl, htl⟩ : ∃ tl, s.drop 1 = tl := ⟨_, rfl⟩
  have htl2 : tl.length ≤ 1000 := by rw [← htl]; simp; omega
  rw [htl] at hsl ht
  have HAE := Lib.hid (show applyE n l s m = _ from by unfold applyE; rfl)
  rw [htl] at HAE
  have HT := Lib.hid ht
  have hs0 : (0 : Int) < (s.length : Int) := by omega
  have hs2 : ¬ s = [] := by intro e; rw [e] at h1; simp at h1
  have hs3 : 0 < s.length := h1
  clear hs ht htl
  simp only [Nat.add_zero] at hcell
  have HC := Lib.hid hcell
  clear hcell
  generalize gti s 0 = p at *
  obtain ⟨kd, tr, ac⟩ := m
  simp only at HAE
  have hM : ∀ (w0 : World), Mem [Loc.k3 (w0.heap.size + 1) (.int .i64 kd) (.int .i64 tr) (.string ac), Loc.k4 w0.heap.size (.int .i64 n.places) (.slice A n.trans.length c) (.int .i64 n.source) (.int .i64 n.sink), Loc.bl w0.heap.size w0] ((w0.alloc (.cells #[.int .i64 n.places, .slice A n.trans.length c, .int .i64 n.source, .int .i64 n.sink] 24)).alloc (.cells #[.int .i64 kd, .int .i64 tr, .string ac] 57)) := fun w0 =>
    ⟨by have := K3.new (w0.alloc (.cells #[.int .i64 n.places, .slice A n.trans.length c, .int .i64 n.source, .int .i64 n.sink] 24)) (.int .i64 kd) (.int .i64 tr) (.string ac) 57; rw [World.size_alloc] at this; exact this, K4.aft ((Below.refl _ _).alloc (Nat.le_refl _) _) (K4.new w0 _ _ _ _ _), ⟨((Below.refl _ _).alloc (Nat.le_refl _) _).alloc (by simp) _, by simp; omega⟩, True.intro⟩
  by_cases hk2 : kd = 2
  · subst hk2
    refine calls_cps fun R hR => ?_
    have HR := Lib.hid hR
    clear hR
    go_enter Try.func49, Try.ntmps49
    have M := Lib.hid (hM w)
    clear hM
    have hk3 := M.out.1
    have hcell := C1.aft M.out.2.2.1.1 HC.out
    go_wp2_with fail
    go_quiet (fail)
    replace M := Lib.hid (M.out.drewN nq)
    replace hk3 := M.out.1
    generalize World.drewN _ nq = W at *
    go_wp2_with (first
      | (go_at_call 86; refine (isName_any _ _).mono ?_; rintro e w1 ⟨rfl, hb1⟩; replace M := Lib.hid (M.out.below hb1); clear hb1; replace hk3 := M.out.1)
      | (go_at_call 77; refine (at_any l p _ lo' hi' _ _ (HW.out.after M.out.2.2.1.1) h3).mono ?_; rintro e w1 ⟨rfl, hb1⟩; replace M := Lib.hid (M.out.below hb1); clear hb1; replace hk3 := M.out.1; have hz1 := M.out.1.2.2.2; have hz0 := M.out.2.1.2.2.2.2)
      | (at_builtin; refine wpList_app rfl _ _ rfl ti_int (fun _ => rfl) oneI rfl rfl (Mem.lit1 M.out (p + 1)) (by (repeat' (first | exact True.intro | refine And.intro (fun k hk e => ?_) ?_)) <;> (first | exact e | ((try dsimp only [Loc.c1, Loc.c2, Loc.k1, Loc.k2, Loc.k3, Loc.k4, Loc.k6, Loc.fr, Loc.bl, Loc.own, Loc.sz, Loc.rd, Loc.rdI, Loc.rdS, Loc.rdM, Loc.rdT, Loc.ow, Loc.owI] at hk e) <;> omega))) (HT.out.after (M.out.2.2.1.1.alloc M.out.2.2.1.2 _)) (by simp; omega) (by simp; omega) (by simp) ?_; intro A9 c9 w9 hM1 hs1 hch1; replace M := Lib.hid hM1; clear hM1 hch1))
    all_goals have hae := HAE.out
    all_goals clear HAE
    all_goals first
      | exact HR.out _ _ (RetI.nil (by rw [hae]; clear hae; go_light; grind) M.out.2.2.1.1)
      | exact HR.out _ _ (RetI.mk (l := (p + 1) :: tl) (by rw [hae]; clear hae; go_light; grind) (by simp; omega) M.out.1.rd (by omega) (Nat.le_refl _) M.out.2.2.2.1.1)
  · by_cases ht : tr < 0 ∨ n.trans.length ≤ tr
    · have HTT := Lib.hid ht
      have HK2 := Lib.hid hk2
      have hk2' : (kd == 2) = false := by simpa using hk2
      refine calls_cps fun R hR => ?_
      have HR := Lib.hid hR
      clear hR
      go_enter Try.func49, Try.ntmps49
      have M := Lib.hid (hM w)
      clear hM
      have hk3 := M.out.1
      have hk4 := M.out.2.1
      have hcell := C1.aft M.out.2.2.1.1 HC.out
      go_wp2_with fail
      go_quiet (fail)
      replace M := Lib.hid (M.out.drewN nq)
      replace hk3 := M.out.1
      replace hk4 := M.out.2.1
      generalize World.drewN _ nq = W at *
      go_wp2_with fail
      all_goals have hae := HAE.out
      all_goals rw [if_neg HK2.out, if_pos HTT.out] at hae
      all_goals first
        | exact HR.out _ _ (RetI.nil hae M.out.2.2.1.1)
        | (exfalso; go_light; omega)
    · have HTT := Lib.hid ht
      have HK2 := Lib.hid hk2
      have hk2' : (kd == 2) = false := by simpa using hk2
      obtain ⟨kt, rfl⟩ : ∃ k : Nat, tr = k := ⟨tr.toNat, by omega⟩
      have hlt : kt < n.trans.length := by omega
      clear ht
      obtain ⟨b4, off4, vi, vo, rfl, hbl, hbh, hcl, hri, hro⟩ := RdT.at3 HV.out hlt
      have HCL := Lib.hid hcl
      have hx1 : ((kt : Int) < 0) = False := by simp
      have hx2 : ((n.trans.length : Int) ≤ (kt : Int)) = False := by simp; omega
      have HFL := Lib.hid (fireE_len (n := n) (m := tl) (t := kt))
      rw [if_neg HK2.out, if_neg HTT.out, Int.toNat_natCast] at HAE
      generalize gti n.trans kt = x at *
      clear hri hro hcl
      have HFE := Lib.hid (fun (W : World) (h : Below w.heap.size w W) => Fire_any n tl kt _ _ lo hi lo2 hi2 W (HV.out.after h) (HT.out.after h))
      obtain ⟨⟨fl, fe⟩, hfe⟩ : ∃ r, FireE n tl kt = r := ⟨_, rfl⟩
      rw [hfe] at HAE HFE HFL
      simp only at HAE HFL
      clear hfe
      refine calls_cps fun R hR => ?_
      have HR := Lib.hid hR
      clear hR
      go_enter Try.func49, Try.ntmps49
      have M := Lib.hid (hM w)
      clear hM
      have hk3 := M.out.1
      have hk4 := M.out.2.1
      have hcell := C1.aft M.out.2.2.1.1 HC.out
      go_wp2_with fail
      go_quiet (fail)
      replace M := Lib.hid (M.out.drewN nq)
      replace hk3 := M.out.1
      replace hk4 := M.out.2.1
      generalize World.drewN _ nq = W at *
      have hcr := C3.aft M.out.2.2.1.1 HCL.out
      go_wp2_with (first
        | (go_at_call 77; refine (at_any l p _ lo' hi' _ _ (HW.out.after M.out.2.2.1.1) h3).mono ?_; rintro e w1 ⟨rfl, hb1⟩; replace M := Lib.hid (M.out.below hb1); clear hb1; replace hk3 := M.out.1; replace hk4 := M.out.2.1)
        | (go_at_call 39; refine (HFE.out _ M.out.2.2.1.1).mono ?_; rintro e w6 ⟨A6, c6, rfl, hr6, hb6⟩; have hz0 := M.out.2.1.2.2.2.2; have hz1 := M.out.1.2.2.2; have hz6 := hb6.size; replace M := Lib.hid (M.out.below hb6); have HR6 := Lib.hid hr6; dsimp only at HR6 ⊢; clear hb6 hr6)
        | (at_builtin; refine wpList_app rfl _ _ rfl ti_int (fun _ => rfl) oneI rfl rfl (Mem.lit1 M.out _) (by (repeat' (first | exact True.intro | refine And.intro (fun k hk e => ?_) ?_)) <;> (first | exact e | ((try dsimp only [Loc.c1, Loc.c2, Loc.k1, Loc.k2, Loc.k3, Loc.k4, Loc.k6, Loc.fr, Loc.bl, Loc.own, Loc.sz, Loc.rd, Loc.rdI, Loc.rdS, Loc.rdM, Loc.rdT, Loc.ow, Loc.owI] at hk e) <;> omega))) (HR6.out.after ((Below.refl _ _).alloc (Nat.le_refl _) _)) (by have := HFL.out; simp; omega) (by have := HFL.out; simp; omega) (by simp) ?_; intro A9 c9 w9 hM1 hs1 hch1; replace M := Lib.hid hM1; clear hM1 hch1))
      all_goals have hae := HAE.out
      all_goals clear HAE
      all_goals have hinj := @toList_inj ac x.label
      all_goals first
        | exact HR.out _ _ (RetI.nil (by rw [hae]; clear hae; go_light; grind) M.out.2.2.1.1)
        | exact HR.out _ _ (RetI.mk (by rw [hae]; clear hae; go_light; grind) (by simp; omega) M.out.1.rd (by omega) (Nat.le_refl _) M.out.2.2.2.1.1)
end Go.Proofs.Ytamhbmaimiifmaa
