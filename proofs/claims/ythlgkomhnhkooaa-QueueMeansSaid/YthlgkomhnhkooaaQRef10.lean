/-
  Walks of casebookref52: Wait. Conditions: none.
-/
import Derived.Test.YthlgkomhnhkooaaQRef9
namespace Go.Proofs.Ythlgkomhnhkooaa
set_option linter.unusedSimpArgs false
set_option linter.unusedVariables false
open Go.RowKit

set_option maxRecDepth 100000 in
set_option maxHeartbeats 8000000 in
theorem rWait_any (ar se : Fr) (sv cp : Nat) (w : World) (hq : QOk ar se sv cp) :
    Calls Try.prog 21 #[.agg #[.int .i64 ar.n, .int .i64 ar.d, .int .i64 se.n, .int .i64 se.d, .int .i64 sv, .int .i64 cp]] w fun e w' => e = .returned (.tuple #[.agg #[.int .i64 (gF (waitQ ar se sv cp)).n, .int .i64 (gF (waitQ ar se sv cp)).d], .bool (waitQ ar se sv cp).isSome]) ∧ Below w.heap.size w w' := by
  refine calls_cps fun R hR => ?_
  have HR := Lib.hid hR
  clear hR
  go_enter Try.func21, Try.ntmps21
  go_wp2_with fail
  have M0 : Mem [Loc.k6 w.heap.size (.int .i64 ar.n) (.int .i64 ar.d) (.int .i64 se.n) (.int .i64 se.d) (.int .i64 sv) (.int .i64 cp), Loc.bl w.heap.size w] (w.alloc (.cells #[.int .i64 ar.n, .int .i64 ar.d, .int .i64 se.n, .int .i64 se.d, .int .i64 sv, .int .i64 cp] 25)) := ⟨K6.new w _ _ _ _ _ _ _, ⟨(Below.refl _ _).alloc (Nat.le_refl _) _, by simp⟩, True.intro⟩
  have r0 := K2.new (w.alloc (.cells #[.int .i64 ar.n, .int .i64 ar.d, .int .i64 se.n, .int .i64 se.d, .int .i64 sv, .int .i64 cp] 25)) (.int .i64 0) (.int .i64 0) 23
  simp only [World.size_alloc] at r0
  have M1 : Mem [Loc.k2 (w.heap.size + 1) (.int .i64 0) (.int .i64 0), Loc.k6 w.heap.size (.int .i64 ar.n) (.int .i64 ar.d) (.int .i64 se.n) (.int .i64 se.d) (.int .i64 sv) (.int .i64 cp), Loc.bl w.heap.size w] _ := ⟨r0, M0.alloc _⟩
  obtain ⟨on, hon⟩ : ∃ o, numQ ar se sv cp = o := ⟨_, rfl⟩
  obtain ⟨ol, hol⟩ : ∃ o, lossQ ar se sv cp = o := ⟨_, rfl⟩
  have HON := Lib.hid hon
  have HOL := Lib.hid hol
  clear hon hol
  refine (rNumber_any ar se sv cp _ hq).mono ?_
  rintro e w1 ⟨rfl, hb1⟩
  rw [HON.out]
  obtain ⟨n, hn⟩ : ∃ n, gF on = n := ⟨_, rfl⟩
  rw [hn]
  have HN := Lib.hid hn
  clear hn
  have hz1 := hb1.size
  simp at hz1
  replace M1 := (M1.below hb1).alloc (.cells #[.int .i64 n.n, .int .i64 n.d] 23)
  have n1 := K2.new w1 (.int .i64 n.n) (.int .i64 n.d) 23
  have M2 : Mem [Loc.k2 w1.heap.size (.int .i64 n.n) (.int .i64 n.d), Loc.k2 (w.heap.size + 1) (.int .i64 0) (.int .i64 0), Loc.k6 w.heap.size (.int .i64 ar.n) (.int .i64 ar.d) (.int .i64 se.n) (.int .i64 se.d) (.int .i64 sv) (.int .i64 cp), Loc.bl w.heap.size w] _ := ⟨n1, M1⟩
  clear hb1 M0 M1 r0 n1
  have q0 := M2.2.2.1
  go_wp2_with fail
  refine (rLoss_any ar se sv cp _ hq).mono ?_
  rintro e w2 ⟨rfl, hb2⟩
  rw [HOL.out]
  obtain ⟨lo, hlo⟩ : ∃ n, gF ol = n := ⟨_, rfl⟩
  rw [hlo]
  have HLO := Lib.hid hlo
  clear hlo q0
  have hz2 := hb2.size
  simp at hz2
  replace M2 := (M2.below hb2).alloc (.cells #[.int .i64 lo.n, .int .i64 lo.d] 23)
  have l1 := K2.new w2 (.int .i64 lo.n) (.int .i64 lo.d) 23
  have M3 : Mem [Loc.k2 w2.heap.size (.int .i64 lo.n) (.int .i64 lo.d), Loc.k2 w1.heap.size (.int .i64 n.n) (.int .i64 n.d), Loc.k2 (w.heap.size + 1) (.int .i64 0) (.int .i64 0), Loc.k6 w.heap.size (.int .i64 ar.n) (.int .i64 ar.d) (.int .i64 se.n) (.int .i64 se.d) (.int .i64 sv) (.int .i64 cp), Loc.bl w.heap.size w] _ := ⟨l1, M2⟩
  clear hb2 M2 l1
  have hfin : waitQ ar se sv cp = none → ∀ W : World, Below w.heap.size w W → R (.returned (.tuple #[.agg #[.int .i64 0, .int .i64 0], .bool false])) W := by
    intro hno W hb
    refine HR.out _ _ ⟨?_, hb⟩
    rw [hno]
    rfl
  have HFIN := Lib.hid hfin
  clear hfin
  by_cases hsome : on.isSome = true ∧ ol.isSome = true
  · obtain ⟨h1, h2⟩ := hsome
    have hon : numQ ar se sv cp = some n := by
      rw [HON.out, ← HN.out]
      cases on with
      | none => cases h1
      | some a => rfl
    have hol : lossQ ar se sv cp = some lo := by
      rw [HOL.out, ← HLO.out]
      cases ol with
      | none => cases h2
      | some a => rfl
    have hln := lossQ_good hq hol
    have hnn := numQ_nn hq hon
    obtain ⟨os, hos⟩ : ∃ o, fsub oneF lo = o := ⟨_, rfl⟩
    have HSU := Lib.hid (show subE oneF lo = FE.of os by rw [← hos]; exact subE_ok oneF_ok hln.1.1)
    have HEN : Hid (enterQ ar se sv cp = os.bind fun s => fmul ar s) := Lib.hid (by rw [← hos]; show (lossQ ar se sv cp).bind _ = _; rw [hol]; rfl)
    have HWA : Hid (waitQ ar se sv cp = (os.bind fun s => fmul ar s).bind fun en => fdiv n en) := Lib.hid (by unfold waitQ; rw [HEN.out, hon]; rfl)
    have HOS := Lib.hid (show ∀ s, os = some s → s.ok from fun s e => fsub_ok oneF_ok hln.1.1 (hos.trans e))
    have HNN := Lib.hid hnn
    obtain ⟨s, hs⟩ : ∃ m : Fr, (⟨(FE.of os).n, (FE.of os).d⟩ : Fr) = m := ⟨_, rfl⟩
    obtain ⟨y, hy⟩ : ∃ y, (false || ((FE.of os).e != 0)) = y := ⟨_, rfl⟩
    have HMY := Lib.hid (opR (E := FE.of os) rfl hy hs)
    have HS := Lib.hid (show (FE.of os).n = s.n ∧ (FE.of os).d = s.d by rw [← hs]; exact ⟨rfl, rfl⟩)
    have HY := Lib.hid hy
    clear hs hy hln hnn hon hol hos
    go_upto_region 6 with (fail)
    have c0 := K1.new (w2.alloc (.cells #[.int .i64 lo.n, .int .i64 lo.d] 23)) (.bool false) 66
    simp only [World.size_alloc] at c0
    replace M3 := M3.alloc (.cells #[.bool false] 66)
    have hzV : w2.heap.size + 1 < ((w2.alloc (.cells #[.int .i64 lo.n, .int .i64 lo.d] 23)).alloc (.cells #[.bool false] 66)).heap.size := by simp
    generalize (w2.alloc (.cells #[.int .i64 lo.n, .int .i64 lo.d] 23)).alloc (.cells #[.bool false] 66) = V at *
    have l0 := M3.1
    go_cut [9] (fun s9 wx => ∃ sb : Nat, s9 = .pointer (some ⟨sb, 0, none⟩) ∧ (w2.heap.size + 1) < sb ∧ K1 wx (w2.heap.size + 1) (.bool y) ∧ K2 wx sb (.int .i64 s.n) (.int .i64 s.d) ∧ Mem [Loc.k2 w2.heap.size (.int .i64 lo.n) (.int .i64 lo.d), Loc.k2 w1.heap.size (.int .i64 n.n) (.int .i64 n.d), Loc.k2 (w.heap.size + 1) (.int .i64 0) (.int .i64 0), Loc.k6 w.heap.size (.int .i64 ar.n) (.int .i64 ar.d) (.int .i64 se.n) (.int .i64 se.d) (.int .i64 sv) (.int .i64 cp), Loc.bl w.heap.size w] wx)
    case first =>
      go_region_held3 (fun V => K2 V w2.heap.size (.int .i64 lo.n) (.int .i64 lo.d)) (first | exact l0 | exact K2.alloc l0 _ | exact K2.far' l0 (by omega) _ _) (first
        | (go_at_call 41; refine (one_any _).mono ?_; rintro e w3 ⟨rfl, hb3⟩; replace M3 := Mem.below (by first | exact M3.drew | exact (M3.alloc _).drew) hb3; replace l0 := K2.aft hb3 (by first | exact l0 | exact K2.alloc l0 _); replace c0 := K1.aft hb3 (by first | exact c0 | exact K1.alloc c0 _); (first | have s0 := K2.aft hb3 (K2.newd V (.int .i64 0) (.int .i64 0) 23) | skip); have hs3 := hb3.size; (try simp at hs3); clear hb3)
        | (go_at_call 55; refine (csub_any oneF lo (w2.heap.size + 1) false _ (by first | exact c0 | exact K1.alloc c0 _)).mono ?_; rintro e w4 ⟨rfl, hc4, ho4⟩; rw [HSU.out, HS.out.1, HS.out.2]; rw [HSU.out, HY.out] at hc4; replace M3 := Mem.off (by first | exact M3 | exact M3.alloc _) ho4 (by (repeat' (first | exact True.intro | refine And.intro (fun k hk e => ?_) ?_)) <;> (first | exact e | ((try dsimp only [Loc.c1, Loc.c2, Loc.k1, Loc.k2, Loc.k6, Loc.rdF, Loc.rdFF, Loc.all2, Loc.fr, Loc.bl, Loc.own, Loc.sz] at hk e) <;> omega))); replace l0 := K2.oft ho4 (by first | exact l0 | exact K2.alloc l0 _) (by omega); (first | replace s0 := K2.oft ho4 s0 (by omega) | have s0 := K2.oft ho4 (K2.new _ (.int .i64 0) (.int .i64 0) 23) (by omega) | skip); have hs4 := ho4.size; (try simp at hs4); clear ho4))
      · go_wp2_with fail
        go_meet
        exact ⟨w4.heap.size, rfl, by omega, K1.alloc hc4 _, K2.new _ _ _ _, M3.alloc _⟩
      all_goals
        go_wp2_with fail
        go_meet
        exact ⟨_, rfl, by omega, K1.far2 hc4 (by omega) _ _, K2.set s0 _ _, M3.set2 (by (repeat' (first | exact True.intro | refine And.intro (fun k hk e => ?_) ?_)) <;> (first | exact e | ((try dsimp only [Loc.c1, Loc.c2, Loc.k1, Loc.k2, Loc.k6, Loc.rdF, Loc.rdFF, Loc.all2, Loc.fr, Loc.bl, Loc.own, Loc.sz] at hk e) <;> omega)))⟩
    case rest =>
      clear M3 c0 l0
      obtain ⟨sb, rfl, hsb, c1, s1, M3⟩ := hcut
      cases y with
      | true =>
        have HNO : Hid (waitQ ar se sv cp = none) := Lib.hid (by
          rw [HWA.out]
          rcases HMY.out with ⟨h, _⟩ | ⟨_, h⟩
          · cases h
          · rw [h]; rfl)
        have r1 := M3.2.2.1
        have HB := Lib.hid M3.2.2.2.2.1.1
        clear M3
        go_wp2_with fail
        refine ret_B2_tmp (x := .int .i64 0) (y := .int .i64 0) (z := .bool false) rfl rfl rfl rfl (K2.set r1 _ _) (HFIN.out HNO.out _ ?_)
        have := HB.out
        (repeat (first | exact Below.refl _ _ | assumption | refine Below.setCell ?_ (by first | omega | (simp; done) | (simp; omega)) _ | refine Below.alloc ?_ (by first | omega | (simp; done) | (simp; omega)) _ | refine Below.drew ?_ | refine below_drewN ?_ _))
      | false =>
        have hsx : os = some s := by
          rcases HMY.out with ⟨_, h⟩ | ⟨h, _⟩
          · exact h
          · cases h
        subst hsx
        obtain ⟨oe, hoe⟩ : ∃ o, fmul ar s = o := ⟨_, rfl⟩
        have HMU := Lib.hid (show mulE ar s = FE.of oe by rw [← hoe]; exact mulE_ok hq.oa (HOS.out s rfl))
        have HWA2 : Hid (waitQ ar se sv cp = oe.bind fun en => fdiv n en) := Lib.hid (by rw [HWA.out, ← hoe]; rfl)
        have HEG := Lib.hid (show ∀ en, oe = some en → en.ok ∧ 0 < en.n from fun en e => enterQ_good hq (by rw [HEN.out]; exact hoe.trans e))
        obtain ⟨en, he⟩ : ∃ m : Fr, (⟨(FE.of oe).n, (FE.of oe).d⟩ : Fr) = m := ⟨_, rfl⟩
        obtain ⟨y2, hy2⟩ : ∃ y, (false || ((FE.of oe).e != 0)) = y := ⟨_, rfl⟩
        have HMY2 := Lib.hid (opR (E := FE.of oe) rfl hy2 he)
        have HE := Lib.hid (show (FE.of oe).n = en.n ∧ (FE.of oe).d = en.d by rw [← he]; exact ⟨rfl, rfl⟩)
        have HY2 := Lib.hid hy2
        clear he hy2 hoe
        have q1 := M3.2.2.2.1
        go_wp2_with fail
        refine (cmul_any ar s (w2.heap.size + 1) false _ c1).mono ?_
        rintro e w5 ⟨rfl, hc5, ho5⟩
        rw [HMU.out, HE.out.1, HE.out.2]
        rw [HMU.out, HY2.out] at hc5
        replace M3 := (M3.off ho5 (by (repeat' (first | exact True.intro | refine And.intro (fun k hk e => ?_) ?_)) <;> (first | exact e | ((try dsimp only [Loc.c1, Loc.c2, Loc.k1, Loc.k2, Loc.k6, Loc.rdF, Loc.rdFF, Loc.all2, Loc.fr, Loc.bl, Loc.own, Loc.sz] at hk e) <;> omega)))).alloc (.cells #[.int .i64 en.n, .int .i64 en.d] 23)
        replace hc5 := K1.alloc hc5 (.cells #[.int .i64 en.n, .int .i64 en.d] 23)
        have en1 := K2.new w5 (.int .i64 en.n) (.int .i64 en.d) 23
        clear ho5 c1 s1 q1
        cases y2 with
        | true =>
          have HNO : Hid (waitQ ar se sv cp = none) := Lib.hid (by
            rw [HWA2.out]
            rcases HMY2.out with ⟨h, _⟩ | ⟨_, h⟩
            · cases h
            · rw [h]; rfl)
          have r1 := M3.2.2.1
          have HB := Lib.hid M3.2.2.2.2.1.1
          clear M3
          go_wp2_with fail
          refine ret_B2_tmp (x := .int .i64 0) (y := .int .i64 0) (z := .bool false) rfl rfl rfl rfl (K2.set r1 _ _) (HFIN.out HNO.out _ ?_)
          have := HB.out
          (repeat (first | exact Below.refl _ _ | assumption | refine Below.setCell ?_ (by first | omega | (simp; done) | (simp; omega)) _ | refine Below.alloc ?_ (by first | omega | (simp; done) | (simp; omega)) _ | refine Below.drew ?_ | refine below_drewN ?_ _))
        | false =>
          have hsx : oe = some en := by
            rcases HMY2.out with ⟨_, h⟩ | ⟨h, _⟩
            · exact h
            · cases h
          subst hsx
          obtain ⟨od, hod⟩ : ∃ o, fdiv n en = o := ⟨_, rfl⟩
          have HDU := Lib.hid (show divE n en = FE.of od by rw [← hod]; exact divE_ok HNN.out.1 (HEG.out en rfl).1 (by have := (HEG.out en rfl).2; omega))
          have HWA3 : Hid (waitQ ar se sv cp = od) := Lib.hid (by rw [HWA2.out, ← hod]; rfl)
          obtain ⟨dd, hdd⟩ : ∃ m : Fr, (⟨(FE.of od).n, (FE.of od).d⟩ : Fr) = m := ⟨_, rfl⟩
          obtain ⟨y3, hy3⟩ : ∃ y, (false || ((FE.of od).e != 0)) = y := ⟨_, rfl⟩
          have HMY3 := Lib.hid (opR (E := FE.of od) rfl hy3 hdd)
          have HD := Lib.hid (show (FE.of od).n = dd.n ∧ (FE.of od).d = dd.d by rw [← hdd]; exact ⟨rfl, rfl⟩)
          have HY3 := Lib.hid hy3
          clear hdd hy3 hod
          have n1 := M3.2.1
          go_wp2_with fail
          refine (cdiv_any n en (w2.heap.size + 1) false _ hc5).mono ?_
          rintro e w6 ⟨rfl, hc6, ho6⟩
          rw [HDU.out, HD.out.1, HD.out.2]
          rw [HDU.out, HY3.out] at hc6
          replace M3 := (M3.off ho6 (by (repeat' (first | exact True.intro | refine And.intro (fun k hk e => ?_) ?_)) <;> (first | exact e | ((try dsimp only [Loc.c1, Loc.c2, Loc.k1, Loc.k2, Loc.k6, Loc.rdF, Loc.rdFF, Loc.all2, Loc.fr, Loc.bl, Loc.own, Loc.sz] at hk e) <;> omega)))).alloc (.cells #[.int .i64 dd.n, .int .i64 dd.d] 23)
          replace hc6 := K1.alloc hc6 (.cells #[.int .i64 dd.n, .int .i64 dd.d] 23)
          have d1 := K2.new w6 (.int .i64 dd.n) (.int .i64 dd.d) 23
          clear ho6 hc5 en1 n1
          cases y3 with
          | true =>
            have HNO : Hid (waitQ ar se sv cp = none) := Lib.hid (by
              rw [HWA3.out]
              rcases HMY3.out with ⟨h, _⟩ | ⟨_, h⟩
              · cases h
              · exact h)
            have r1 := M3.2.2.1
            have HB := Lib.hid M3.2.2.2.2.1.1
            clear M3
            go_wp2_with fail
            refine ret_B2_tmp (x := .int .i64 0) (y := .int .i64 0) (z := .bool false) rfl rfl rfl rfl (K2.set r1 _ _) (HFIN.out HNO.out _ ?_)
            have := HB.out
            (repeat (first | exact Below.refl _ _ | assumption | refine Below.setCell ?_ (by first | omega | (simp; done) | (simp; omega)) _ | refine Below.alloc ?_ (by first | omega | (simp; done) | (simp; omega)) _ | refine Below.drew ?_ | refine below_drewN ?_ _))
          | false =>
            have HSO : Hid (waitQ ar se sv cp = some dd) := Lib.hid (by
              rw [HWA3.out]
              rcases HMY3.out with ⟨_, h⟩ | ⟨h, _⟩
              · exact h
              · cases h)
            have r1 := M3.2.2.1
            have HB := Lib.hid M3.2.2.2.2.1.1
            clear M3
            go_wp2_with fail
            refine ret_B2_tmp (x := .int .i64 dd.n) (y := .int .i64 dd.d) (z := .bool true) rfl rfl rfl rfl (K2.set r1 _ _) (HR.out _ _ ⟨by rw [HSO.out]; rfl, ?_⟩)
            have := HB.out
            (repeat (first | exact Below.refl _ _ | assumption | refine Below.setCell ?_ (by first | omega | (simp; done) | (simp; omega)) _ | refine Below.alloc ?_ (by first | omega | (simp; done) | (simp; omega)) _ | refine Below.drew ?_ | refine below_drewN ?_ _))
  · have HNO : Hid (waitQ ar se sv cp = none) := Lib.hid (by
      unfold waitQ enterQ
      rw [HON.out, HOL.out]
      cases on with
      | none =>
        cases ol.bind fun lo => (fsub oneF lo).bind fun s => fmul ar s <;> rfl
      | some a =>
        cases ol with
        | none => rfl
        | some b => exact absurd ⟨rfl, rfl⟩ hsome)
    have r1 := M3.2.2.1
    have HB := Lib.hid M3.2.2.2.2.1.1
    clear M3
    have hfin2 : R (.returned (.tuple #[.agg #[.int .i64 0, .int .i64 0], .bool false])) _ := HFIN.out HNO.out (((w2.alloc (.cells #[.int .i64 lo.n, .int .i64 lo.d] 23)).setCell ⟨w.heap.size + 1, 0, none⟩ (.int .i64 0)).setCell ⟨w.heap.size + 1, 1, none⟩ (.int .i64 0)) (by have := HB.out; (repeat (first | exact Below.refl _ _ | assumption | refine Below.setCell ?_ (by first | omega | (simp; done) | (simp; omega)) _ | refine Below.alloc ?_ (by first | omega | (simp; done) | (simp; omega)) _ | refine Below.drew ?_ | refine below_drewN ?_ _)))
    have HF2 := Lib.hid hfin2
    clear hfin2
    cases h1 : on.isSome with
    | false =>
      clear hsome
      go_wp2_with fail
      exact ret_B2_tmp (x := .int .i64 0) (y := .int .i64 0) (z := .bool false) rfl rfl rfl rfl (K2.set r1 _ _) HF2.out
    | true =>
      have h2 : ol.isSome = false := by
        cases h2 : ol.isSome with
        | false => rfl
        | true => exact absurd ⟨h1, h2⟩ hsome
      clear hsome
      go_wp2_with fail
      exact ret_B2_tmp (x := .int .i64 0) (y := .int .i64 0) (z := .bool false) rfl rfl rfl rfl (K2.set r1 _ _) HF2.out

end Go.Proofs.Ythlgkomhnhkooaa
