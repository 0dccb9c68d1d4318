/-
  Walks of casebookref21's Fire. Conditions: none.
-/
import Derived.Test.YtmhbfoaecebobaaFire2
namespace Go.Proofs.Ytmhbfoaecebobaa
set_option linter.unusedSimpArgs false
set_option linter.unusedVariables false
open Go.RowKit

theorem rmarking_is {n : Net} {m : List Int} {b : Bool} (hb : mark2B n m = b) (vt v : Value) (lo hi : Nat) (w : World) (hv : RdI w lo hi v m) :
    Calls Try.prog 86 #[netV n vt, v] w fun e w' => e = .returned (.bool b) ∧ Below w.heap.size w w' := hb ▸ rmarking_any n vt m v lo hi w hv
theorem Mem.lit0 {L : List Loc} {w : World} (hM : Mem L w) : Mem (Loc.owI w.heap.size (w.heap.size + 1) (.slice (some ⟨w.heap.size, 0, none⟩) 0 0) [] :: L) (w.alloc (.cells #[] 3)) :=
  ⟨Own.lit w 3 w.heap.size [] #[] 0 rfl rfl (Nat.le_refl _) (Nat.zero_le _) (fun _ => rfl), hM.alloc _⟩
theorem Mem.lit1 {L : List Loc} {w : World} (hM : Mem L w) (x : Int) : Mem (Loc.owI w.heap.size (w.heap.size + 1) (.slice (some ⟨w.heap.size, 0, none⟩) 1 1) [x] :: L) (w.alloc (.cells #[.int .i64 x] 3)) :=
  ⟨Own.lit w 3 w.heap.size [x] #[.int .i64 x] 1 rfl rfl (Nat.le_refl _) (by decide) (fun _ => rfl), hM.alloc _⟩
theorem Mem.app0 {w : World} {L : List Loc} {lo hi : Nat} {A : Option Addr} {c : Nat} {m : List Int} (h : Mem (Loc.owI lo hi (.slice A (([] : List Int).length + m.length) c) ([] ++ m) :: L) w) : Mem (Loc.owI lo hi (.slice A m.length c) m :: L) w := by
  simpa only [List.length_nil, Nat.zero_add, List.nil_append] using h

set_option maxRecDepth 100000 in
set_option maxHeartbeats 4000000 in
theorem rFire_any (n : Net) (m : List Int) (t : Int) (vt v : Value) (lo hi lo' hi' : Nat) (w : World) (hv : RdT w lo hi vt n.trans) (hm : RdI w lo' hi' v m) :
    Calls Try.prog 48 #[netV n vt, v, .int .i64 t] w (RetI w (FireE n m t)) := by
  obtain ⟨A, c, rfl, hc, hmm⟩ := hv.form
  obtain ⟨A2, c2, rfl, hc2, hmm2⟩ := hm.form
  have HV := Lib.hid hv
  have HW := Lib.hid hm
  clear hv hm
  cases hvb : validB n with
  | false =>
    have HVB := Lib.hid hvb
    clear hvb
    refine calls_cps fun R hR => ?_
    have HR := Lib.hid hR
    clear hR
    go_enter Try.func48, Try.ntmps48
    have M : Hid (Mem [Loc.k4 w.heap.size (.int .i64 n.places) (.slice A n.trans.length c) (.int .i64 n.source) (.int .i64 n.sink), Loc.bl w.heap.size w] (w.alloc (.cells #[.int .i64 n.places, .slice A n.trans.length c, .int .i64 n.source, .int .i64 n.sink] 24))) := Lib.hid ⟨K4.new w _ _ _ _ _, ⟨(Below.refl _ _).alloc (Nat.le_refl _) _, by simp⟩, True.intro⟩
    have hk4 := M.out.1
    go_wp2_with (go_at_call 49; refine (rvalid_is HVB.out _ lo hi _ (HV.out.after M.out.2.1.1)).mono ?_; rintro e w1 ⟨rfl, hb1⟩; replace M := Lib.hid (M.out.below hb1); clear hb1; replace hk4 := M.out.1)
    exact HR.out _ _ (RetI.nil (by rw [FireE, markB, HVB.out]; rfl) M.out.2.1.1)
  | true =>
  cases hmb : mark2B n m with
  | false =>
    have HVB := Lib.hid hvb
    have HMB := Lib.hid hmb
    clear hvb hmb
    refine calls_cps fun R hR => ?_
    have HR := Lib.hid hR
    clear hR
    go_enter Try.func48, Try.ntmps48
    have M : Hid (Mem [Loc.k4 w.heap.size (.int .i64 n.places) (.slice A n.trans.length c) (.int .i64 n.source) (.int .i64 n.sink), Loc.bl w.heap.size w] (w.alloc (.cells #[.int .i64 n.places, .slice A n.trans.length c, .int .i64 n.source, .int .i64 n.sink] 24))) := Lib.hid ⟨K4.new w _ _ _ _ _, ⟨(Below.refl _ _).alloc (Nat.le_refl _) _, by simp⟩, True.intro⟩
    have hk4 := M.out.1
    go_wp2_with (first
      | (go_at_call 49; refine (rvalid_is HVB.out _ lo hi _ (HV.out.after M.out.2.1.1)).mono ?_; rintro e w1 ⟨rfl, hb1⟩; replace M := Lib.hid (M.out.below hb1); clear hb1; replace hk4 := M.out.1)
      | (go_at_call 86; refine (rmarking_is HMB.out _ _ lo' hi' _ (HW.out.after M.out.2.1.1)).mono ?_; rintro e w1 ⟨rfl, hb1⟩; replace M := Lib.hid (M.out.below hb1); clear hb1; replace hk4 := M.out.1))
    exact HR.out _ _ (RetI.nil (by rw [FireE, markB, HVB.out, HMB.out]; rfl) M.out.2.1.1)
  | true =>
  have HVB := Lib.hid hvb
  have HMB := Lib.hid hmb
  have hpl := validB_places hvb
  have hlen := mark2B_len hmb
  have HFF : Hid (FireE n m t = fireE n m t) := Lib.hid (by rw [FireE, markB, hvb, hmb]; rfl)
  obtain ⟨np, hnp⟩ : ∃ k : Nat, n.places = k := ⟨n.places.toNat, by omega⟩
  have hml : m.length = np := by omega
  have hnp1 : 1 ≤ np := by omega
  have hnp40 : np ≤ 40 := by omega
  have HNP := Lib.hid hnp
  have HML := Lib.hid hml
  clear hpl hlen hnp hml hvb hmb
  by_cases ht : t < 0 ∨ n.trans.length ≤ t
  · have HT := Lib.hid ht
    refine calls_cps fun R hR => ?_
    have HR := Lib.hid hR
    clear hR
    go_enter Try.func48, Try.ntmps48
    have M : Hid (Mem [Loc.k4 w.heap.size (.int .i64 n.places) (.slice A n.trans.length c) (.int .i64 n.source) (.int .i64 n.sink), Loc.bl w.heap.size w] (w.alloc (.cells #[.int .i64 n.places, .slice A n.trans.length c, .int .i64 n.source, .int .i64 n.sink] 24))) := Lib.hid ⟨K4.new w _ _ _ _ _, ⟨(Below.refl _ _).alloc (Nat.le_refl _) _, by simp⟩, True.intro⟩
    have hk4 := M.out.1
    go_wp2_with (first
      | (go_at_call 49; refine (rvalid_is HVB.out _ lo hi _ (HV.out.after M.out.2.1.1)).mono ?_; rintro e w1 ⟨rfl, hb1⟩; replace M := Lib.hid (M.out.below hb1); clear hb1; replace hk4 := M.out.1)
      | (go_at_call 86; refine (rmarking_is HMB.out _ _ lo' hi' _ (HW.out.after M.out.2.1.1)).mono ?_; rintro e w1 ⟨rfl, hb1⟩; replace M := Lib.hid (M.out.below hb1); clear hb1; replace hk4 := M.out.1))
    all_goals first
      | exact HR.out _ _ (RetI.nil (by rw [HFF.out, fireE, if_pos HT.out]) M.out.2.1.1)
      | (exfalso; go_light; omega)
  · have HT := Lib.hid ht
    obtain ⟨kt, rfl⟩ : ∃ k : Nat, t = k := ⟨t.toNat, by omega⟩
    have hlt : kt < n.trans.length := by omega
    clear ht
    obtain ⟨b, off, vi, vo, rfl, hbl, hbh, hcell, hri, hro⟩ := RdT.at3 HV.out hlt
    have HTR := Lib.hid (validB_tr HVB.out (gti_mem hlt))
    obtain ⟨Ai, ci, rfl, hci, hmi⟩ := hri.form
    obtain ⟨Ao, co, rfl, hco, hmo⟩ := hro.form
    have HFE : Hid (FireE n m kt = if enB (gti n.trans kt) m then
        if (incL (gti n.trans kt).out (decL (gti n.trans kt).inn m)).any (fun y => decide (100 < y)) then ([], 5)
        else (incL (gti n.trans kt).out (decL (gti n.trans kt).inn m), 0)
      else ([], 12)) := Lib.hid (by rw [HFF.out, fireE, if_neg HT.out, Int.toNat_natCast])
    have HCAN : Hid (∀ W, Below w.heap.size w W → Calls Try.prog 80 #[netV n (.slice (some ⟨b, off, none⟩) n.trans.length c), .slice A2 m.length c2, .int .i64 kt] W fun e w' => e = .returned (.bool (enB (gti n.trans kt) m)) ∧ Below W.heap.size W w') :=
      Lib.hid (fun W hW => by
        have h := can_any n m kt _ _ lo hi lo' hi' W (HV.out.after hW) (HW.out.after hW) hlt (fun k hk => by
          have := placesB_at HTR.out.2.1 hk
          have := HNP.out
          have := HML.out
          omega)
        rw [canL_en (fun i => (mark2B_at HMB.out i).1)] at h
        exact h)
    have HFM : Hid (enB (gti n.trans kt) m = true → mark2B n (incL (gti n.trans kt).out (decL (gti n.trans kt).inn m)) = !(incL (gti n.trans kt).out (decL (gti n.trans kt).inn m)).any fun y => decide (100 < y)) := Lib.hid (fun h => fire_mark HMB.out HTR.out.2.1 h)
    generalize gti n.trans kt = x at *
    have HRI := Lib.hid hri
    have HRO := Lib.hid hro
    have hil : x.inn.length ≤ 40 := by have := placesB_len HTR.out.2.1; have := HNP.out; omega
    have hol : x.out.length ≤ 40 := by have := placesB_len HTR.out.2.2; have := HNP.out; omega
    have hx1 : ((kt : Int) < 0) = False := by simp
    have hx2 : ((n.trans.length : Int) ≤ (kt : Int)) = False := by simp; omega
    have HC := Lib.hid hcell
    clear hri hro HT HFF hcell
    refine calls_cps fun R hR => ?_
    have HR := Lib.hid hR
    clear hR
    go_enter Try.func48, Try.ntmps48
    have M : Hid (Mem [Loc.k4 w.heap.size (.int .i64 n.places) (.slice (some ⟨b, off, none⟩) n.trans.length c) (.int .i64 n.source) (.int .i64 n.sink), Loc.bl w.heap.size w] (w.alloc (.cells #[.int .i64 n.places, .slice (some ⟨b, off, none⟩) n.trans.length c, .int .i64 n.source, .int .i64 n.sink] 24))) := Lib.hid ⟨K4.new w _ _ _ _ _, ⟨(Below.refl _ _).alloc (Nat.le_refl _) _, by simp⟩, True.intro⟩
    have hk4 := M.out.1
    go_wp2_with (first
      | (go_at_call 49; refine (rvalid_is HVB.out _ lo hi _ (HV.out.after M.out.2.1.1)).mono ?_; rintro e w1 ⟨rfl, hb1⟩; replace M := Lib.hid (M.out.below hb1); clear hb1; replace hk4 := M.out.1)
      | (go_at_call 86; refine (rmarking_is HMB.out _ _ lo' hi' _ (HW.out.after M.out.2.1.1)).mono ?_; rintro e w1 ⟨rfl, hb1⟩; replace M := Lib.hid (M.out.below hb1); clear hb1; replace hk4 := M.out.1)
      | (go_at_call 80; refine (HCAN.out _ M.out.2.1.1).mono ?_; rintro e w3 ⟨rfl, hb1⟩; replace M := Lib.hid (M.out.below hb1); clear hb1; replace hk4 := M.out.1; have hz3 := M.out.1.2.2.2.2)
      | (at_builtin; refine wpList_app rfl _ _ rfl ti_int (fun _ => rfl) oneI rfl rfl (Mem.lit0 M.out) (by (repeat' (first | exact True.intro | refine And.intro (fun k hk e => ?_) ?_)) <;> (first | exact e | ((try dsimp only [Loc.c1, Loc.c2, Loc.k1, Loc.k2, Loc.k3, Loc.k4, Loc.k6, Loc.fr, Loc.bl, Loc.own, Loc.sz, Loc.rd, Loc.rdI, Loc.rdS, Loc.rdM, Loc.rdT, Loc.ow, Loc.owI] at hk e) <;> omega))) (HW.out.after (M.out.2.1.1.alloc M.out.2.1.2 _)) (by have := HML.out; simp; omega) (by have := HML.out; simp; omega) (by simp) ?_; intro A1 c1 w4 hM1 hs1 hch1; replace M := Lib.hid (Mem.app0 hM1); clear hM1 hch1; (try simp only [World.size_alloc] at hs1)))
    · exact HR.out _ _ (RetI.nil (by have hfe := HFE.out; clear HFE; go_light; grind) M.out.2.1.1)
    · have hEN : enB x m = true := by go_light; grind
      have HEN := Lib.hid hEN
      clear hEN
      obtain ⟨g, cap, hA1, hgl, hgh, hgs⟩ := M.out.1.blk (by have := HML.out; omega)
      injection hA1 with e1 _ e3
      subst e1 e3
      go_loopw [9] (fun v9 wr => ∃ (k : Nat) (cur : List Int), k ≤ x.inn.length ∧ v9 = .int .i64 k ∧ Hid (decL (x.inn.drop k) cur = decL x.inn m) ∧ Hid (Bnd (100 + k) cur) ∧ Hid (cur.length = m.length) ∧ Hid (Mem [Loc.owI w3.heap.size w4.heap.size (.slice (some ⟨g, 0, none⟩) m.length c1) cur, Loc.k4 w.heap.size (.int .i64 n.places) (.slice (some ⟨b, off, none⟩) n.trans.length c) (.int .i64 n.source) (.int .i64 n.sink), Loc.bl w.heap.size w, Loc.sz w4.heap.size] wr)) (fun v9 _ => x.inn.length - (intOf v9).toNat)
      case atStart => exact ⟨0, m, by omega, rfl, Lib.hid rfl, Lib.hid (fun i => by have := mark2B_at HMB.out i; omega), Lib.hid rfl, Lib.hid ⟨M.out.1, M.out.2.1, M.out.2.2.1, Nat.le_refl _, True.intro⟩⟩
      case round =>
        obtain ⟨k, cur, hk, rfl, HI, HBD, HCL, HM⟩ := hrel
        replace hk4 := HM.out.2.1
        have hcr := C3.aft HM.out.2.2.1.1 HC.out
        by_cases hltk : k < x.inn.length
        · obtain ⟨bb, oo, rfl, _, _, hce⟩ := RdI.at1 (HRI.out.after HM.out.2.2.1.1) hltk
          have HD := Lib.hid (drop_gti hltk)
          have hpr := placesB_at HTR.out.2.1 hltk
          generalize gti x.inn k = p at *
          obtain ⟨kp, rfl⟩ : ∃ j : Nat, p = j := ⟨p.toNat, by omega⟩
          have hkp : kp < m.length := by have := HNP.out; have := HML.out; omega
          have hkc : kp < cur.length := by rw [HCL.out]; exact hkp
          have hat := OwnI.at1 HM.out.1 hkc
          have hbd := HBD.out kp
          have HO2 := Lib.hid (OwnI.set (HM.out.drew).1 kp (gti cur kp - 1))
          clear hpr hkc
          go_wp2_with fail
          go_still_tail 24, (by kernel_rfl)
          change wpList _ _ _ _ _ wr.drew
          go_wp2_with fail
          have hA : Hid (decL (x.inn.drop (k + 1)) (cur.set kp (gti cur kp - 1)) = decL x.inn m) := Lib.hid (by
            have h := HI.out
            rw [HD.out, decL, Int.toNat_natCast] at h
            exact h)
          have hB : Hid (Bnd (100 + ((k + 1 : Nat) : Int)) (cur.set kp (gti cur kp - 1))) := Lib.hid (by
            have := HBD.out.dec kp
            rw [show (100 + ((k + 1 : Nat) : Int)) = 100 + (k : Int) + 1 by omega]
            exact this)
          have hC : Hid ((cur.set kp (gti cur kp - 1)).length = m.length) := Lib.hid (by rw [List.length_set]; exact HCL.out)
          have hk1 : k + 1 ≤ x.inn.length := by omega
          have hMr := HM.out.drew.2.set (g := g) (i := kp) (u := .int .i64 (gti cur kp - 1)) (by (repeat' (first | exact True.intro | refine And.intro (fun k hk e => ?_) ?_)) <;> (first | exact e | ((try dsimp only [Loc.c1, Loc.c2, Loc.k1, Loc.k2, Loc.k3, Loc.k4, Loc.k6, Loc.fr, Loc.bl, Loc.own, Loc.sz, Loc.rd, Loc.rdI, Loc.rdS, Loc.rdM, Loc.rdT, Loc.ow, Loc.owI] at hk e) <;> omega)))
          go_roundw
          case rel => (first | exact ⟨k + 1, cur.set kp (gti cur kp - 1), hk1, rfl, hA, hB, hC, Lib.hid ⟨HO2.out, hMr⟩⟩ | ((repeat apply Exists.intro); exact ⟨⟨k + 1, cur.set kp (gti cur kp - 1), hk1, rfl, hA, hB, hC, Lib.hid ⟨HO2.out, hMr⟩⟩, rfl⟩))
          case measure => simp [intOf]; omega
        · obtain rfl : k = x.inn.length := by omega
          have HE : Hid (cur = decL x.inn m) := Lib.hid (by have h := HI.out; simpa [decL] using h)
          clear HI
          go_wp2_with fail
          go_loopw [10] (fun v10 wr => ∃ (k : Nat) (cur : List Int), k ≤ x.out.length ∧ v10 = .int .i64 k ∧ Hid (incL (x.out.drop k) cur = incL x.out (decL x.inn m)) ∧ Hid (Bnd ((100 + x.inn.length) + k) cur) ∧ Hid (cur.length = m.length) ∧ Hid (Mem [Loc.owI w3.heap.size w4.heap.size (.slice (some ⟨g, 0, none⟩) m.length c1) cur, Loc.k4 w.heap.size (.int .i64 n.places) (.slice (some ⟨b, off, none⟩) n.trans.length c) (.int .i64 n.source) (.int .i64 n.sink), Loc.bl w.heap.size w, Loc.sz w4.heap.size] wr)) (fun v10 _ => x.out.length - (intOf v10).toNat)
          case atStart => exact ⟨0, cur, by omega, rfl, Lib.hid (by rw [HE.out]; rfl), Lib.hid (by simpa using HBD.out), HCL, HM⟩
          case round =>
            clear HE HBD HCL HM hk4 hcr
            obtain ⟨k, cur, hk, rfl, HI, HBD, HCL, HM⟩ := hrel
            have hk4 := HM.out.2.1
            have hcr := C3.aft HM.out.2.2.1.1 HC.out
            by_cases hltk : k < x.out.length
            · obtain ⟨bb, oo, rfl, _, _, hce⟩ := RdI.at1 (HRO.out.after HM.out.2.2.1.1) hltk
              have HD := Lib.hid (drop_gti hltk)
              have hpr := placesB_at HTR.out.2.2 hltk
              generalize gti x.out k = p at *
              obtain ⟨kp, rfl⟩ : ∃ j : Nat, p = j := ⟨p.toNat, by omega⟩
              have hkp : kp < m.length := by have := HNP.out; have := HML.out; omega
              have hkc : kp < cur.length := by rw [HCL.out]; exact hkp
              have hat := OwnI.at1 HM.out.1 hkc
              have hbd := HBD.out kp
              have HO2 := Lib.hid (OwnI.set (HM.out.drew).1 kp (gti cur kp + 1))
              clear hpr hkc
              go_wp2_with fail
              go_still_tail 24, (by kernel_rfl)
              change wpList _ _ _ _ _ wr.drew
              go_wp2_with fail
              have hA : Hid (incL (x.out.drop (k + 1)) (cur.set kp (gti cur kp + 1)) = incL x.out (decL x.inn m)) := Lib.hid (by
                have h := HI.out
                rw [HD.out, incL, Int.toNat_natCast] at h
                exact h)
              have hB : Hid (Bnd ((100 + x.inn.length) + ((k + 1 : Nat) : Int)) (cur.set kp (gti cur kp + 1))) := Lib.hid (by
                have := HBD.out.inc kp
                rw [show ((100 + x.inn.length) + ((k + 1 : Nat) : Int)) = (100 + x.inn.length) + (k : Int) + 1 by omega]
                exact this)
              have hC : Hid ((cur.set kp (gti cur kp + 1)).length = m.length) := Lib.hid (by rw [List.length_set]; exact HCL.out)
              have hk1 : k + 1 ≤ x.out.length := by omega
              have hMr := HM.out.drew.2.set (g := g) (i := kp) (u := .int .i64 (gti cur kp + 1)) (by (repeat' (first | exact True.intro | refine And.intro (fun k hk e => ?_) ?_)) <;> (first | exact e | ((try dsimp only [Loc.c1, Loc.c2, Loc.k1, Loc.k2, Loc.k3, Loc.k4, Loc.k6, Loc.fr, Loc.bl, Loc.own, Loc.sz, Loc.rd, Loc.rdI, Loc.rdS, Loc.rdM, Loc.rdT, Loc.ow, Loc.owI] at hk e) <;> omega)))
              go_roundw
              case rel => (first | exact ⟨k + 1, cur.set kp (gti cur kp + 1), hk1, rfl, hA, hB, hC, Lib.hid ⟨HO2.out, hMr⟩⟩ | ((repeat apply Exists.intro); exact ⟨⟨k + 1, cur.set kp (gti cur kp + 1), hk1, rfl, hA, hB, hC, Lib.hid ⟨HO2.out, hMr⟩⟩, rfl⟩))
              case measure => simp [intOf]; omega
            · obtain rfl : k = x.out.length := by omega
              have HE : Hid (cur = incL x.out (decL x.inn m)) := Lib.hid (by have h := HI.out; simpa [incL] using h)
              clear HI
              have M := HM
              clear HM
              go_wp2_with (go_at_call 86; refine (rmarking_any n _ cur _ w3.heap.size w4.heap.size _ M.out.1.rd).mono ?_; rintro e w1 ⟨rfl, hb1⟩; replace M := Lib.hid (M.out.below hb1); clear hb1; skip)
              all_goals (have hfe := HFE.out; have he := HE.out; have hmg := HFM.out HEN.out; rw [← he] at hfe hmg; rw [if_pos HEN.out] at hfe)
              all_goals first
                | exact HR.out _ _ (RetI.nil (by clear HFE HE HFM he; go_light; grind) M.out.2.2.1.1)
                | exact HR.out _ _ (RetI.mk (l := cur) (by clear HFE HE HFM he; go_light; grind) HCL.out.symm M.out.1.rd (by omega) M.out.2.2.2.1 M.out.2.2.1.1)
end Go.Proofs.Ytmhbfoaecebobaa
