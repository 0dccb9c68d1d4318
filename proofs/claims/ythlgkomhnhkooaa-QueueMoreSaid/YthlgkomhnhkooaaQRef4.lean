/-
  Walks of casebookref52: row. Conditions: none.
-/
import Derived.Test.YthlgkomhnhkooaaQRef3
import Derived.Test.YthlgkomhnhkooaaQSpec8
namespace Go.Proofs.Ythlgkomhnhkooaa
set_option linter.unusedSimpArgs false
set_option linter.unusedVariables false
open Go.RowKit

theorem orL {y : Bool} {A B : Prop} (h : (y = true ∧ A) ∨ (y = false ∧ B)) (hy : y = true) : A := by
  rcases h with ⟨_, h⟩ | ⟨h, _⟩
  · exact h
  · rw [hy] at h; cases h
theorem orR {y : Bool} {A B : Prop} (h : (y = true ∧ A) ∨ (y = false ∧ B)) (hy : y = false) : B := by
  rcases h with ⟨h, _⟩ | ⟨_, h⟩
  · rw [hy] at h; cases h
  · exact h

set_option maxRecDepth 100000 in
set_option maxHeartbeats 8000000 in
theorem rrow_any (ar se : Fr) (sv cp n : Nat) (cb : Nat) (w : World) (hc : K1 w cb (.bool false)) (hq : QOk ar se sv cp) (hn : n ≤ cp) :
    Calls Try.prog 61 #[.pointer (some ⟨cb, 0, none⟩), .agg #[.int .i64 ar.n, .int .i64 ar.d, .int .i64 se.n, .int .i64 se.d, .int .i64 sv, .int .i64 cp], .int .i64 n] w fun e w' =>
      ∃ g cap out x, e = .returned (.slice (some ⟨g, 0, none⟩) (cp + 1) cap) ∧ K1 w' cb (.bool x) ∧ Off cb w.heap.size w w' ∧ RdF w' (w.heap.size + 1) w'.heap.size (.slice (some ⟨g, 0, none⟩) (cp + 1) cap) out ∧ RrE ar se sv cp n out x := by
  have hv1 := hq.v1
  have hv2 := hq.v2
  have hc1 := hq.c1
  have hc2 := hq.c2
  refine calls_cps fun R hR => ?_
  have HR := Lib.hid hR
  clear hR
  have hcb := hc.2.2
  have lt0 : cb < w.heap.size + 1 := by omega
  go_enter Try.func61, Try.ntmps61
  go_wp2
  go_loopw [7, 8] (fun v7 v8 wr => ∃ m : Nat, m ≤ cp + 1 ∧ v8 = .int .i64 m ∧ K1 wr cb (.bool false) ∧ wr.ownsRow (w.heap.size + 1) 23 2 v7 m (flat (List.replicate m zeroF)) ∧ w.heap.size + 1 ≤ wr.heap.size ∧ Mem [Loc.k6 w.heap.size (.int .i64 ar.n) (.int .i64 ar.d) (.int .i64 se.n) (.int .i64 se.d) (.int .i64 sv) (.int .i64 cp), Loc.fr cb w.heap.size w] wr) (fun _ v8 _ => cp + 1 - (intOf v8).toNat)
  case atStart => exact ⟨0, by omega, rfl, K1.alloc hc _, World.ownsRow_nil _ _ _ _, by simp, K6.new w _ _ _ _ _ _ _, ⟨(Off.refl _ _ _).alloc (Nat.le_refl _) _, by simp⟩, True.intro⟩
  case round =>
    clear hc
    obtain ⟨m, hm, rfl, c1, hown, hwr, M⟩ := hrel
    have HOWN := Lib.hid hown
    clear hown
    have q1 := M.1
    by_cases hmc : m ≤ cp
    · have hmd : decide ((m : Int) ≤ (cp : Int)) = true := by simp; omega
      obtain ⟨i0, hi0, hz0, hz1', hz2'⟩ := info_parts info_frac
      go_wp2_with fail
      refine (zero_any _).mono ?_
      rintro e w1 ⟨rfl, hb1⟩
      have hz1 := hb1.size
      replace M := (M.below hb1).alloc (.cells #[.int .i64 0, .int .i64 1] 23)
      replace c1 := K1.alloc (K1.aft hb1 c1) (.cells #[.int .i64 0, .int .i64 1] 23)
      have ho1 := (own_below HOWN.out hb1).alloc (.cells #[.int .i64 0, .int .i64 1] 23)
      have HRB : Hid (∀ g, u7.ownBlock = some g → w.heap.size + 1 ≤ g) := Lib.hid (fun g hg => (ho1.lt g hg).1)
      clear hb1 HOWN q1
      go_wp2_with (at_builtin; refine wpList_append_lies _ rfl _ _ 27 rfl (w.heap.size + 1) 23 i0 _ 2 16 Try.underlying27 hi0 hz0 hz1' hz2' rfl (by omega) _ m (flat (List.replicate m zeroF)) rfl ho1 ⟨w1.heap.size, 0, none⟩ 1 1 [_, _] rfl rfl (World.news_of_block (heap_alloc_new w1 _)) (by simp [Value.oneCell']) (by omega) (by unfold maxLen; omega) (by omega) (by simp; omega) (w1.heap.size + 1) (by simp) ?_; intro g3 cap3 w6 hown6 hgrow6 hat6 hlt6; have hz6 := hgrow6.size; (try simp at hz6); replace M := Mem.grownO M hgrow6 ho1 (by (repeat' (first | exact True.intro | refine And.intro (fun k hk e => ?_) ?_)) <;> (first | exact e | ((try dsimp only [Loc.c1, Loc.c2, Loc.k1, Loc.k2, Loc.k6, Loc.rdF, Loc.rdFF, Loc.all2, Loc.fr, Loc.bl, Loc.own, Loc.sz] at hk e) <;> omega))); replace c1 := K1.grown c1 hgrow6 (fun k hk => by have := HRB.out k hk; omega); have HO6 : Hid (w6.ownsRow (w.heap.size + 1) 23 2 (.slice (some ⟨g3, 0, none⟩) (m + 1) cap3) (m + 1) (flat (List.replicate (m + 1) zeroF))) := Lib.hid (by rw [List.replicate_succ', flat_append]; exact hown6); clear hown6 hgrow6 hat6 hlt6 ho1)
      go_roundw
      case rel =>
        have hrel : ∃ m' : Nat, m' ≤ cp + 1 ∧ Value.int .i64 ((m : Int) + 1) = .int .i64 m' ∧ K1 w6 cb (.bool false) ∧ w6.ownsRow (w.heap.size + 1) 23 2 (.slice (some ⟨g3, 0, none⟩) (m + 1) cap3) m' (flat (List.replicate m' zeroF)) ∧ w.heap.size + 1 ≤ w6.heap.size ∧ Mem [Loc.k6 w.heap.size (.int .i64 ar.n) (.int .i64 ar.d) (.int .i64 se.n) (.int .i64 se.d) (.int .i64 sv) (.int .i64 cp), Loc.fr cb w.heap.size w] w6 := ⟨m + 1, by omega, by go_num, c1, HO6.out, by omega, M⟩
        first | exact hrel | ((repeat apply Exists.intro); exact ⟨hrel, rfl⟩)
      case measure => first | (simp [intOf]; done) | (simp [intOf]; omega)
    · have hmd : decide ((m : Int) ≤ (cp : Int)) = false := by simp; omega
      obtain rfl : m = cp + 1 := by omega
      obtain ⟨g, cap, rfl, hgb, hgs⟩ := HOWN.out.form (by omega)
      obtain ⟨j, hj⟩ : ∃ j, min n sv = j := ⟨_, rfl⟩
      have hj1 : j ≤ n ∧ j ≤ sv := by omega
      have hj2 : n ≤ j ∨ sv ≤ j := by omega
      have HJ := Lib.hid hj
      clear hj hm
      obtain ⟨wo, hwo⟩ : ∃ wo : World, wo = wr := ⟨_, rfl⟩
      clear hwo
      go_upto_region 6 with (fail)
      go_cut [9] (fun s9 wx => s9 = .int .i64 (j : Int) ∧ wr = wx)
      case first =>
        go_wp2_with fail
        all_goals (go_meet; exact ⟨congrArg _ (by omega), rfl⟩)
      case rest =>
        obtain ⟨rfl, rfl⟩ := hcut
        go_wp2_with fail
        refine (rleave_any ar se sv cp j cb _ c1 hq.os (by omega)).mono ?_
        rintro e w1 ⟨bV, bj, x0, rfl, c2, ho1, rf1, hE⟩
        replace M := M.off ho1 (by (repeat' (first | exact True.intro | refine And.intro (fun k hk e => ?_) ?_)) <;> (first | exact e | ((try dsimp only [Loc.c1, Loc.c2, Loc.k1, Loc.k2, Loc.k6, Loc.rdF, Loc.rdFF, Loc.all2, Loc.fr, Loc.bl, Loc.own, Loc.sz] at hk e) <;> omega)))
        replace HOWN := Lib.hid (own_off HOWN.out ho1 (by omega))
        have hz1 := ho1.size
        obtain ⟨bA, bc, rfl, hbc, hbl⟩ := rf1.form
        have M : Mem [Loc.rdF (wr.heap.size + 1) w1.heap.size (.slice bA bj.length bc) bj, Loc.own (w.heap.size + 1) wr.heap.size 23 2 (.slice (some ⟨g, 0, none⟩) (cp + 1) cap) (cp + 1) (flat (List.replicate (cp + 1) zeroF)), Loc.k6 w.heap.size (.int .i64 ar.n) (.int .i64 ar.d) (.int .i64 se.n) (.int .i64 se.d) (.int .i64 sv) (.int .i64 cp), Loc.fr cb w.heap.size w] w1 := ⟨rf1, ⟨HOWN.out, fun k hk => by simp [Value.ownBlock] at hk; omega⟩, M⟩
        obtain ⟨no, hno⟩ : ∃ no : Fr, (⟨(subE oneF ar).n, (subE oneF ar).d⟩ : Fr) = no := ⟨_, rfl⟩
        obtain ⟨x1, hx1⟩ : ∃ x1, (x0 || ((subE oneF ar).e != 0)) = x1 := ⟨_, rfl⟩
        have HNO := Lib.hid (show (subE oneF ar).n = no.n ∧ (subE oneF ar).d = no.d by rw [← hno]; exact ⟨rfl, rfl⟩)
        have HRI := Lib.hid (RrI.start (sv := sv) (cp := cp) (n := n) hq.oa (by rw [HJ.out]; exact hE) hx1 hno)
        have HX1 := Lib.hid hx1
        clear hno hx1 hE HOWN rf1 ho1 c1 q1
        go_upto_region 8 with (fail)
        have q0 := M.2.2.1
        go_cut [11] (fun s11 wx => ∃ nb : Nat, s11 = .pointer (some ⟨nb, 0, none⟩) ∧ w1.heap.size ≤ nb ∧ K1 wx cb (.bool x1) ∧ K2 wx nb (.int .i64 no.n) (.int .i64 no.d) ∧ Mem [Loc.rdF (wr.heap.size + 1) w1.heap.size (.slice bA bj.length bc) bj, Loc.own (w.heap.size + 1) wr.heap.size 23 2 (.slice (some ⟨g, 0, none⟩) (cp + 1) cap) (cp + 1) (flat (List.replicate (cp + 1) zeroF)), Loc.k6 w.heap.size (.int .i64 ar.n) (.int .i64 ar.d) (.int .i64 se.n) (.int .i64 se.d) (.int .i64 sv) (.int .i64 cp), Loc.fr cb w.heap.size w] wx)
        case first =>
          go_region_held3 (fun W => K6 W w.heap.size (.int .i64 ar.n) (.int .i64 ar.d) (.int .i64 se.n) (.int .i64 se.d) (.int .i64 sv) (.int .i64 cp)) (first | exact q0 | exact K6.alloc q0 _ | exact K6.far2 q0 (by omega) _ _) (first
            | (go_at_call 41; refine (one_any _).mono ?_; rintro e w3 ⟨rfl, hb3⟩; replace M := Mem.below (by first | exact M.drew | exact (M.alloc _).drew) hb3; replace q0 := K6.aft hb3 (by first | exact q0 | exact K6.alloc q0 _); replace c2 := K1.aft hb3 (by first | exact c2 | exact K1.alloc c2 _); (first | have s0 := K2.aft hb3 (K2.newd w1 (.int .i64 0) (.int .i64 0) 23) | skip); have hs3 := hb3.size; (try simp at hs3); clear hb3)
            | (go_at_call 55; refine (csub_any oneF ar cb x0 _ (by first | exact c2 | exact K1.alloc c2 _)).mono ?_; rintro e w4 ⟨rfl, hc4, ho4⟩; rw [HNO.out.1, HNO.out.2]; rw [HX1.out] at hc4; replace M := Mem.off (by first | exact M | exact M.alloc _) ho4 (by (repeat' (first | exact True.intro | refine And.intro (fun k hk e => ?_) ?_)) <;> (first | exact e | ((try dsimp only [Loc.c1, Loc.c2, Loc.k1, Loc.k2, Loc.k6, Loc.rdF, Loc.rdFF, Loc.all2, Loc.fr, Loc.bl, Loc.own, Loc.sz] at hk e) <;> omega))); replace q0 := K6.oft ho4 (by first | exact q0 | exact K6.alloc q0 _) (by omega); (first | replace s0 := K2.oft ho4 s0 (by omega) | have s0 := K2.oft ho4 (K2.new _ (.int .i64 0) (.int .i64 0) 23) (by omega) | skip); have hs4 := ho4.size; (try simp at hs4); clear ho4))
          · go_wp2_with fail
            go_meet
            exact ⟨w4.heap.size, rfl, by omega, K1.alloc hc4 _, K2.new _ _ _ _, M.alloc _⟩
          all_goals
            go_wp2_with fail
            go_meet
            exact ⟨_, rfl, by omega, K1.far2 hc4 (by omega) _ _, K2.set s0 _ _, M.set2 (by (repeat' (first | exact True.intro | refine And.intro (fun k hk e => ?_) ?_)) <;> (first | exact e | ((try dsimp only [Loc.c1, Loc.c2, Loc.k1, Loc.k2, Loc.k6, Loc.rdF, Loc.rdFF, Loc.all2, Loc.fr, Loc.bl, Loc.own, Loc.sz] at hk e) <;> omega)))⟩
        case rest =>
          clear M c2 q0
          obtain ⟨nb, rfl, hnb, c1, n1, M⟩ := hcut
          have hnb2 := n1.2.2.2.2
          have HO := Lib.hid M.2.1.1
          have M : Mem [Loc.k2 nb (.int .i64 no.n) (.int .i64 no.d), Loc.rdF (wr.heap.size + 1) w1.heap.size (.slice bA bj.length bc) bj, Loc.k6 w.heap.size (.int .i64 ar.n) (.int .i64 ar.d) (.int .i64 se.n) (.int .i64 se.d) (.int .i64 sv) (.int .i64 cp), Loc.fr cb w.heap.size w] wc := ⟨n1, M.1, M.2.2⟩
          clear n1
          obtain ⟨wo1, hwo1⟩ : ∃ wo1 : World, wo1 = wr := ⟨_, rfl⟩
          have hwr1 : w.heap.size + 1 ≤ wo1.heap.size := by rw [hwo1]; exact hwr
          rw [← hwo1] at M hz1 hgs
          clear hwo1 hwr
          go_wp2
          go_loopw [12] (fun v12 W => ∃ (k : Nat) (x : Bool) (out : List Fr), k ≤ j + 1 ∧ v12 = .int .i64 k ∧ nb < W.heap.size ∧ K1 W cb (.bool x) ∧ W.ownsRow (w.heap.size + 1) 23 2 (.slice (some ⟨g, 0, none⟩) (cp + 1) cap) (cp + 1) (flat out) ∧ Mem [Loc.k2 nb (.int .i64 no.n) (.int .i64 no.d), Loc.rdF (wo1.heap.size + 1) w1.heap.size (.slice bA bj.length bc) bj, Loc.k6 w.heap.size (.int .i64 ar.n) (.int .i64 ar.d) (.int .i64 se.n) (.int .i64 se.d) (.int .i64 sv) (.int .i64 cp), Loc.fr cb w.heap.size w] W ∧ RrI ar se sv cp n bj no k out x) (fun v12 _ => j + 1 - (intOf v12).toNat)
          case atStart => exact ⟨0, x1, _, by omega, rfl, hnb2, c1, HO.out, M, HRI.out⟩
          case round =>
            clear M c1 HO HRI hnb2
            obtain ⟨k, x, out, hk, rfl, hnb2, c1, hown, M, hI⟩ := hrel
            have HI := Lib.hid hI
            have HO := Lib.hid hown
            clear hI hown
            by_cases hkj : k ≤ j
            · have hkd : decide ((k : Int) ≤ (j : Int)) = true := by simp; omega
              cases x with
              | true =>
                go_wp2_with fail
                exact HR.out _ _ ⟨g, cap, out, true, rfl, c1, M.2.2.2.1.1, own_rdF HO.out HI.out.1, HI.out.done (fun h => by cases h)⟩
              | false =>
                have hbl2 : bj.length = j + 1 := by rw [← HJ.out]; exact HI.out.bl
                obtain ⟨m, hm⟩ : ∃ m : Fr, (⟨(mulE (gt bj k) no).n, (mulE (gt bj k) no).d⟩ : Fr) = m := ⟨_, rfl⟩
                obtain ⟨y1, hy1⟩ : ∃ y, (false || ((mulE (gt bj k) no).e != 0)) = y := ⟨_, rfl⟩
                have HH := Lib.hid (HI.out.half hq.oa hq.os (by rw [HJ.out]; exact hkj) hy1 hm)
                have HM := Lib.hid (show (mulE (gt bj k) no).n = m.n ∧ (mulE (gt bj k) no).d = m.d by rw [← hm]; exact ⟨rfl, rfl⟩)
                have HY1 := Lib.hid hy1
                clear hm hy1
                obtain ⟨bb, boff, hbA, lo2, hi2, f4, f5⟩ := RdF.at2 M.2.1 (gt_get (l := bj) (i := k) (by omega))
                have n1 := M.1
                have hbn : bb ≠ cb := by omega
                have hnn : nb ≠ cb := by omega
                have hkb : (k : Int) < (bj.length : Int) := by omega
                have HBL := Lib.hid hbl2
                have hol : out.length = cp + 1 := HI.out.1
                have HOL := Lib.hid hol
                clear hbl2 hol
                subst hbA
                go_upto_region 12 with (fail)
                obtain ⟨wr0, hwr0⟩ : ∃ wr0 : World, wr0 = wr := ⟨_, rfl⟩
                have hzr : nb < wr0.heap.size := by rw [hwr0]; exact hnb2
                clear hwr0
                go_cut [13] (fun s13 wx => ∃ mb : Nat, s13 = .pointer (some ⟨mb, 0, none⟩) ∧ nb < mb ∧ K1 wx cb (.bool y1) ∧ K2 wx mb (.int .i64 m.n) (.int .i64 m.d) ∧ wx.ownsRow (w.heap.size + 1) 23 2 (.slice (some ⟨g, 0, none⟩) (cp + 1) cap) (cp + 1) (flat out) ∧ Mem [Loc.k2 nb (.int .i64 no.n) (.int .i64 no.d), Loc.rdF (wo1.heap.size + 1) w1.heap.size (.slice (some ⟨bb, boff, none⟩) bj.length bc) bj, Loc.k6 w.heap.size (.int .i64 ar.n) (.int .i64 ar.d) (.int .i64 se.n) (.int .i64 se.d) (.int .i64 sv) (.int .i64 cp), Loc.fr cb w.heap.size w] wx)
                case first =>
                  have hown := HO.out
                  have S : Mem [Loc.k2 nb (.int .i64 no.n) (.int .i64 no.d), Loc.c2 bb (boff + k * 2) (.int .i64 (gt bj k).n) (.int .i64 (gt bj k).d)] wr := ⟨n1, ⟨f4, f5⟩, True.intro⟩
                  clear n1 f4 f5
                  go_region_held3 (fun W => K2 W nb (.int .i64 no.n) (.int .i64 no.d) ∧ C2 W bb (boff + k * 2) (.int .i64 (gt bj k).n) (.int .i64 (gt bj k).d) ∧ True) (first | exact S | exact S.alloc _ | exact S.set2 (by (repeat' (first | exact True.intro | refine And.intro (fun k hk e => ?_) ?_)) <;> (first | exact e | ((try dsimp only [Loc.c1, Loc.c2, Loc.k1, Loc.k2, Loc.k6, Loc.rdF, Loc.rdFF, Loc.all2, Loc.fr, Loc.bl, Loc.own, Loc.sz] at hk e) <;> omega)))) ((go_at_call 49; refine (cmul_any (gt bj k) no cb false _ (by first | exact c1 | exact K1.alloc c1 _)).mono ?_; rintro e w4 ⟨rfl, hc4, ho4⟩; rw [HM.out.1, HM.out.2]; rw [HY1.out] at hc4; replace M := Mem.off (by first | exact M.drew | exact (M.alloc _).drew) ho4 (by (repeat' (first | exact True.intro | refine And.intro (fun k hk e => ?_) ?_)) <;> (first | exact e | ((try dsimp only [Loc.c1, Loc.c2, Loc.k1, Loc.k2, Loc.k6, Loc.rdF, Loc.rdFF, Loc.all2, Loc.fr, Loc.bl, Loc.own, Loc.sz] at hk e) <;> omega))); replace S := Mem.off (by first | exact S.drew | exact (S.alloc _).drew) ho4 (by (repeat' (first | exact True.intro | refine And.intro (fun k hk e => ?_) ?_)) <;> (first | exact e | ((try dsimp only [Loc.c1, Loc.c2, Loc.k1, Loc.k2, Loc.k6, Loc.rdF, Loc.rdFF, Loc.all2, Loc.fr, Loc.bl, Loc.own, Loc.sz] at hk e) <;> omega))); replace hown := own_off (by first | exact hown | exact hown.alloc _) ho4 (by omega); (first | have s0 := K2.oft ho4 (K2.newd wr (.int .i64 0) (.int .i64 0) 23) (by omega) | skip); have hs4 := ho4.size; (try simp at hs4); clear ho4))
                  · go_wp2_with fail
                    go_meet
                    exact ⟨w4.heap.size, rfl, by omega, K1.alloc hc4 _, K2.new _ _ _ _, hown.alloc _, M.alloc _⟩
                  · go_wp2_with fail
                    go_meet
                    exact ⟨wr.heap.size, rfl, by omega, K1.far2 hc4 (by omega) _ _, K2.set s0 _ _, own_far2 hown (by omega), M.set2 (by (repeat' (first | exact True.intro | refine And.intro (fun k hk e => ?_) ?_)) <;> (first | exact e | ((try dsimp only [Loc.c1, Loc.c2, Loc.k1, Loc.k2, Loc.k6, Loc.rdF, Loc.rdFF, Loc.all2, Loc.fr, Loc.bl, Loc.own, Loc.sz] at hk e) <;> omega)))⟩
                case rest =>
                  clear M c1 HO n1 f4 f5
                  obtain ⟨mb, rfl, hmb, c1, m1, hown, M⟩ := hcut
                  have hgm : g < mb := by omega
                  have hfin : rowQ ar se sv cp n = none → ∀ (W : World) (o : List Fr), o.length = cp + 1 → K1 W cb (.bool true) → W.ownsRow (w.heap.size + 1) 23 2 (.slice (some ⟨g, 0, none⟩) (cp + 1) cap) (cp + 1) (flat o) → Mem [Loc.k2 nb (.int .i64 no.n) (.int .i64 no.d), Loc.rdF (wo1.heap.size + 1) w1.heap.size (.slice (some ⟨bb, boff, none⟩) bj.length bc) bj, Loc.k6 w.heap.size (.int .i64 ar.n) (.int .i64 ar.d) (.int .i64 se.n) (.int .i64 se.d) (.int .i64 sv) (.int .i64 cp), Loc.fr cb w.heap.size w] W → R (.returned (.slice (some ⟨g, 0, none⟩) (cp + 1) cap)) W := by
                    intro hno W o hl hcW hoW hMW
                    exact HR.out _ _ ⟨g, cap, o, true, rfl, hcW, hMW.2.2.2.1.1, own_rdF hoW hl, hl, .inr ⟨rfl, hno⟩⟩
                  have HFIN := Lib.hid hfin
                  clear hfin
                  cases y1 with
                  | true =>
                    have hno := orL HH.out rfl
                    have HNON := Lib.hid hno
                    have HO := Lib.hid hown
                    clear hno hown
                    go_wp2_with fail
                    exact HFIN.out HNON.out _ out HOL.out c1 HO.out M
                  | false =>
                    have hH := orR HH.out rfl
                    obtain ⟨low, hlow⟩ : ∃ low, n - k = low := ⟨_, rfl⟩
                    obtain ⟨high, hhigh⟩ : ∃ high, min (low + 1) cp = high := ⟨_, rfl⟩
                    have hlowi : (low : Int) + (k : Int) ≤ (n : Int) ∧ (n : Int) ≤ (low : Int) + (k : Int) := by omega
                    have hb1 : low ≤ cp ∧ high ≤ cp ∧ (low + 1 ≤ high ∨ cp ≤ high) ∧ high ≤ low + 1 := by omega
                    rw [hlow, hhigh] at hH
                    obtain ⟨v, hv⟩ : ∃ v : Fr, (⟨(addE (gt out low) m).n, (addE (gt out low) m).d⟩ : Fr) = v := ⟨_, rfl⟩
                    obtain ⟨y2, hy2⟩ : ∃ y, (false || ((addE (gt out low) m).e != 0)) = y := ⟨_, rfl⟩
                    have HH2 := Lib.hid (hH y2 v hy2 hv)
                    have HV := Lib.hid (show (addE (gt out low) m).n = v.n ∧ (addE (gt out low) m).d = v.d by rw [← hv]; exact ⟨rfl, rfl⟩)
                    have HY2 := Lib.hid hy2
                    have HLOW := Lib.hid hlow
                    have HHIGH := Lib.hid hhigh
                    clear hlow hhigh hv hy2 hH HH HI
                    obtain ⟨f1, f2, fz1, fz2, hgw, hig⟩ := own_at hown (gt_get (l := out) (i := low) (by rw [HOL.out]; omega))
                    have HO := Lib.hid hown
                    have hgn : g ≠ cb := by omega
                    have hmn : mb ≠ cb := by omega
                    have hlb : (low : Int) < (cp : Int) + 1 := by omega
                    clear hown
                    go_upto_region 14 with (fail)
                    have S : Mem [Loc.c2 g (low * 2) (.int .i64 (gt out low).n) (.int .i64 (gt out low).d), Loc.k2 mb (.int .i64 m.n) (.int .i64 m.d)] wc := ⟨⟨f1, f2⟩, m1, True.intro⟩
                    clear f1 f2 fz1 fz2 m1
                    have wnk : IntKind.i64.wrap ((n : Int) - (k : Int)) = (low : Int) := by rw [IntKind.wrap_i64]; omega
                    refine wp_region_tail (S := (fun W => C2 W g (low * 2) (.int .i64 (gt out low).n) (.int .i64 (gt out low).d) ∧ K2 W mb (.int .i64 m.n) (.int .i64 m.d) ∧ True)) (by kernel_rfl) rfl (by kernel_rfl) (by exact S) (fun hHeld => ?_)
                    simp only [List.dropLast]
                    refine wpAnyH_take (i := 0) (oi := _) (v := ?_) rfl (by kernel_rfl) (by kernel_rfl) (by kernel_rfl) (fun _ _ _ h => h) (Or.inl ⟨by rfl, ?_⟩) (by assumption) ?_
                    rotate_left
                    · (intro w hSw; (try dsimp only at hSw); go_simp; try (with_reducible rfl))
                    simp only [Act.put, List.setIfInBounds_toArray, List.set_cons_zero, List.set_cons_succ]
                    refine wpAnyH_take (i := 1) (oi := _) (v := ?_) rfl (by kernel_rfl) (by kernel_rfl) (by kernel_rfl) (fun _ _ _ h => h) (Or.inl ⟨by rfl, ?_⟩) (by assumption) ?_
                    rotate_left
                    · (intro w hSw; (try dsimp only at hSw); go_simp; try (with_reducible rfl))
                    simp only [Act.put, List.setIfInBounds_toArray, List.set_cons_zero, List.set_cons_succ]
                    refine wpAnyH_take (i := 2) (oi := _) (v := ?_) rfl (by kernel_rfl) (by kernel_rfl) (by kernel_rfl) (fun _ _ _ h => h) (Or.inl ⟨by rfl, ?_⟩) (by assumption) ?_
                    rotate_left
                    · (intro w hSw; (try dsimp only at hSw); go_simp; try (with_reducible rfl))
                    simp only [Act.put, List.setIfInBounds_toArray, List.set_cons_zero, List.set_cons_succ]
                    refine wpAnyH_take (i := 3) (oi := _) (v := ?_) rfl (by kernel_rfl) (by kernel_rfl) (by kernel_rfl) (fun _ _ _ h => h) (Or.inl ⟨by rfl, ?_⟩) (by assumption) ?_
                    rotate_left
                    · (intro w hSw; (try dsimp only at hSw); go_simp; try (with_reducible rfl))
                    simp only [Act.put, List.setIfInBounds_toArray, List.set_cons_zero, List.set_cons_succ]
                    refine wpAnyH_take (i := 4) (oi := _) (v := ?_) rfl (by kernel_rfl) (by kernel_rfl) (by kernel_rfl) (fun _ _ _ h => h) (Or.inl ⟨by rfl, ?_⟩) (by assumption) ?_
                    rotate_left
                    · (intro w hSw; (try dsimp only at hSw); go_simp; try (with_reducible rfl))
                    simp only [Act.put, List.setIfInBounds_toArray, List.set_cons_zero, List.set_cons_succ]
                    refine wpAnyH_take (i := 5) (oi := _) (v := ?_) rfl (by kernel_rfl) (by kernel_rfl) (by kernel_rfl) (fun _ _ _ h => h) (Or.inl ⟨by rfl, ?_⟩) (by assumption) ?_
                    rotate_left
                    · (intro w hSw; (try dsimp only at hSw); go_simp; try (with_reducible rfl))
                    simp only [Act.put, List.setIfInBounds_toArray, List.set_cons_zero, List.set_cons_succ]
                    refine wpAnyH_take (i := 6) (oi := _) (v := ?_) rfl (by kernel_rfl) (by kernel_rfl) (by kernel_rfl) (fun _ _ _ h => h) (Or.inl ⟨by rfl, ?_⟩) (by assumption) ?_
                    rotate_left
                    · (intro w hSw; (try dsimp only at hSw); go_simp; try (with_reducible rfl))
                    simp only [Act.put, List.setIfInBounds_toArray, List.set_cons_zero, List.set_cons_succ]
                    refine wpAnyH_take (i := 7) (oi := _) (v := ?_) rfl (by kernel_rfl) (by kernel_rfl) (by kernel_rfl) (fun _ _ _ h => h) (Or.inl ⟨by rfl, ?_⟩) (by assumption) ?_
                    rotate_left
                    · (intro w hSw; (try dsimp only at hSw); go_simp; try (with_reducible rfl))
                    simp only [Act.put, List.setIfInBounds_toArray, List.set_cons_zero, List.set_cons_succ]
                    refine wpAnyH_take (i := 8) (oi := _) (v := ?_) rfl (by kernel_rfl) (by kernel_rfl) (by kernel_rfl) (fun _ _ _ h => h) (Or.inl ⟨by rfl, ?_⟩) (by assumption) ?_
                    rotate_left
                    · (intro w hSw; (try dsimp only at hSw); go_simp; try (with_reducible rfl))
                    simp only [Act.put, List.setIfInBounds_toArray, List.set_cons_zero, List.set_cons_succ]
                    refine wpAnyH_take (i := 9) (oi := _) (v := ?_) rfl (by kernel_rfl) (by kernel_rfl) (by kernel_rfl) (fun _ _ _ h => h) (Or.inl ⟨by rfl, ?_⟩) (by assumption) ?_
                    rotate_left
                    · (intro w hSw; (try dsimp only at hSw); go_simp; try (with_reducible rfl))
                    simp only [Act.put, List.setIfInBounds_toArray, List.set_cons_zero, List.set_cons_succ]
                    refine wpAnyH_take (i := 10) (oi := _) (v := ?_) rfl (by kernel_rfl) (by kernel_rfl) (by kernel_rfl) (fun _ _ _ h => h) (Or.inl ⟨by rfl, ?_⟩) (by assumption) ?_
                    rotate_left
                    · (intro w hSw; (try dsimp only at hSw); go_simp; try (with_reducible rfl))
                    simp only [Act.put, List.setIfInBounds_toArray, List.set_cons_zero, List.set_cons_succ]
                    refine wpAnyH_take (i := 11) (oi := _) (v := ?_) rfl (by kernel_rfl) (by kernel_rfl) (by kernel_rfl) (fun _ _ _ h => h) (Or.inl ⟨by rfl, ?_⟩) (by assumption) ?_
                    rotate_left
                    · (intro w hSw; (try dsimp only at hSw); go_simp; try (with_reducible rfl))
                    simp only [Act.put, List.setIfInBounds_toArray, List.set_cons_zero, List.set_cons_succ]
                    clear wnk
                    refine wpAnyH_ready (rs := [12]) (by kernel_rfl) (by simp) ?_
                    refine AllReadyH.cons (o := _) rfl (fun K hK => ?_) AllReadyH.nil
                    go_simp
                    refine (cadd_any (gt out low) m cb false _ (by exact c1)).mono ?_; rintro e w6 ⟨rfl, hc6, ho6⟩; rw [HV.out.1, HV.out.2]; rw [HY2.out] at hc6; replace M := M.drew.off ho6 (by (repeat' (first | exact True.intro | refine And.intro (fun k hk e => ?_) ?_)) <;> (first | exact e | ((try dsimp only [Loc.c1, Loc.c2, Loc.k1, Loc.k2, Loc.k6, Loc.rdF, Loc.rdFF, Loc.all2, Loc.fr, Loc.bl, Loc.own, Loc.sz] at hk e) <;> omega))); replace S := S.drew.off ho6 (by (repeat' (first | exact True.intro | refine And.intro (fun k hk e => ?_) ?_)) <;> (first | exact e | ((try dsimp only [Loc.c1, Loc.c2, Loc.k1, Loc.k2, Loc.k6, Loc.rdF, Loc.rdFF, Loc.all2, Loc.fr, Loc.bl, Loc.own, Loc.sz] at hk e) <;> omega))); replace HO := Lib.hid (own_off (w := wc.drew) (by exact HO.out) ho6 (by omega)); have hz6 := ho6.size; clear ho6
                    (try go_wp2_with fail)
                    refine hK.out _ _ ?_ (fun hHeld => ?_)
                    · exact S
                    clear hK K
                    try simp only [Act.put, List.setIfInBounds_toArray, List.set_cons_zero, List.set_cons_succ]
                    refine wpAnyH_take (i := 13) (oi := _) (v := ?_) rfl (by kernel_rfl) (by kernel_rfl) (by kernel_rfl) (fun _ _ _ h => h) (Or.inl ⟨by rfl, ?_⟩) (by assumption) ?_
                    rotate_left
                    · (intro w hSw; (try dsimp only at hSw); go_simp; try (with_reducible rfl))
                    simp only [Act.put, List.setIfInBounds_toArray, List.set_cons_zero, List.set_cons_succ]
                    refine wpAnyH_done (by kernel_rfl) ?_ _
                    unfold thenLast
                    simp only [Exit.then]
                    obtain ⟨f1, f2, fz1, fz2, _, _⟩ := own_at HO.out (gt_get (l := out) (i := low) (by rw [HOL.out]; omega))
                    have HO2 := Lib.hid (own_set HO.out (i := low) (by rw [HOL.out]; omega) v)
                    have M2 := M.set2 (g := g) (i := low * 2) (j := low * 2 + 1) (u := .int .i64 v.n) (v := .int .i64 v.d) (by (repeat' (first | exact True.intro | refine And.intro (fun k hk e => ?_) ?_)) <;> (first | exact e | ((try dsimp only [Loc.c1, Loc.c2, Loc.k1, Loc.k2, Loc.k6, Loc.rdF, Loc.rdFF, Loc.all2, Loc.fr, Loc.bl, Loc.own, Loc.sz] at hk e) <;> omega)))
                    have c2 := K1.far (K1.far hc6 (Ne.symm hgn) (o := low * 2) (.int .i64 v.n)) (Ne.symm hgn) (o := low * 2 + 1) (.int .i64 v.d)
                    clear S M HO c1 hc6
                    have hol1 : (out.set low v).length = cp + 1 := by rw [List.length_set, HOL.out]
                    have HOL1 := Lib.hid hol1
                    clear hol1
                    cases y2 with
                    | true =>
                      have HNON := Lib.hid (orL HH2.out rfl)
                      go_wp2_with fail
                      exact HFIN.out HNON.out _ _ HOL1.out c2 HO2.out M2
                    | false =>
                      have hH3 := orR HH2.out rfl
                      obtain ⟨y, hy⟩ : ∃ y : Fr, (⟨(mulE (gt bj k) ar).n, (mulE (gt bj k) ar).d⟩ : Fr) = y := ⟨_, rfl⟩
                      obtain ⟨y3, hy3⟩ : ∃ y, (false || ((mulE (gt bj k) ar).e != 0)) = y := ⟨_, rfl⟩
                      have HH3 := Lib.hid (hH3 y3 y hy3 hy)
                      have HY := Lib.hid (show (mulE (gt bj k) ar).n = y.n ∧ (mulE (gt bj k) ar).d = y.d by rw [← hy]; exact ⟨rfl, rfl⟩)
                      have HY3 := Lib.hid hy3
                      clear hy hy3 hH3 HH2
                      go_upto_region 16 with (fail)
                      generalize (w6.setCell ⟨g, low * 2, none⟩ (.int .i64 v.n)).setCell ⟨g, low * 2 + 1, none⟩ (.int .i64 v.d) = W3 at *
                      clear f1 f2 fz1 fz2
                      generalize out.set low v = out1 at *
                      obtain ⟨bb', boff', hbA, _, _, f4, f5⟩ := RdF.at2 M2.2.1 (gt_get (l := bj) (i := k) (by rw [HBL.out]; omega))
                      injection hbA with hbA
                      injection hbA with hb1' hb2'
                      subst hb1' hb2'
                      have q1 := M2.2.2.1
                      have hzn := M2.1.2.2.2.2
                      have hqn : w.heap.size ≠ cb := by omega
                      go_cut [14] (fun s14 wx => ∃ yb : Nat, s14 = .pointer (some ⟨yb, 0, none⟩) ∧ nb < yb ∧ K1 wx cb (.bool y3) ∧ K2 wx yb (.int .i64 y.n) (.int .i64 y.d) ∧ wx.ownsRow (w.heap.size + 1) 23 2 (.slice (some ⟨g, 0, none⟩) (cp + 1) cap) (cp + 1) (flat out1) ∧ Mem [Loc.k2 nb (.int .i64 no.n) (.int .i64 no.d), Loc.rdF (wo1.heap.size + 1) w1.heap.size (.slice (some ⟨bb, boff, none⟩) bj.length bc) bj, Loc.k6 w.heap.size (.int .i64 ar.n) (.int .i64 ar.d) (.int .i64 se.n) (.int .i64 se.d) (.int .i64 sv) (.int .i64 cp), Loc.fr cb w.heap.size w] wx)
                      case first =>
                        have hown := HO2.out
                        have S : Mem [Loc.k6 w.heap.size (.int .i64 ar.n) (.int .i64 ar.d) (.int .i64 se.n) (.int .i64 se.d) (.int .i64 sv) (.int .i64 cp), Loc.c2 bb (boff + k * 2) (.int .i64 (gt bj k).n) (.int .i64 (gt bj k).d)] W3 := ⟨q1, ⟨f4, f5⟩, True.intro⟩
                        clear q1 f4 f5
                        go_region_held3 (fun W => K6 W w.heap.size (.int .i64 ar.n) (.int .i64 ar.d) (.int .i64 se.n) (.int .i64 se.d) (.int .i64 sv) (.int .i64 cp) ∧ C2 W bb (boff + k * 2) (.int .i64 (gt bj k).n) (.int .i64 (gt bj k).d) ∧ True) (first | exact S | exact S.alloc _ | exact S.set2 (by (repeat' (first | exact True.intro | refine And.intro (fun k hk e => ?_) ?_)) <;> (first | exact e | ((try dsimp only [Loc.c1, Loc.c2, Loc.k1, Loc.k2, Loc.k6, Loc.rdF, Loc.rdFF, Loc.all2, Loc.fr, Loc.bl, Loc.own, Loc.sz] at hk e) <;> omega)))) ((go_at_call 49; refine (cmul_any (gt bj k) ar cb false _ (by first | exact c2 | exact K1.alloc c2 _)).mono ?_; rintro e w4 ⟨rfl, hc4, ho4⟩; rw [HY.out.1, HY.out.2]; rw [HY3.out] at hc4; replace M2 := Mem.off (by first | exact M2.drew | exact (M2.alloc _).drew) ho4 (by (repeat' (first | exact True.intro | refine And.intro (fun k hk e => ?_) ?_)) <;> (first | exact e | ((try dsimp only [Loc.c1, Loc.c2, Loc.k1, Loc.k2, Loc.k6, Loc.rdF, Loc.rdFF, Loc.all2, Loc.fr, Loc.bl, Loc.own, Loc.sz] at hk e) <;> omega))); replace S := Mem.off (by first | exact S.drew | exact (S.alloc _).drew) ho4 (by (repeat' (first | exact True.intro | refine And.intro (fun k hk e => ?_) ?_)) <;> (first | exact e | ((try dsimp only [Loc.c1, Loc.c2, Loc.k1, Loc.k2, Loc.k6, Loc.rdF, Loc.rdFF, Loc.all2, Loc.fr, Loc.bl, Loc.own, Loc.sz] at hk e) <;> omega))); replace hown := own_off (by first | exact hown | exact hown.alloc _) ho4 (by omega); (first | have s0 := K2.oft ho4 (K2.newd W3 (.int .i64 0) (.int .i64 0) 23) (by omega) | skip); have hs4 := ho4.size; (try simp at hs4); clear ho4))
                        · go_wp2_with fail
                          go_meet
                          exact ⟨w4.heap.size, rfl, by omega, K1.alloc hc4 _, K2.new _ _ _ _, hown.alloc _, M2.alloc _⟩
                        · go_wp2_with fail
                          go_meet
                          exact ⟨W3.heap.size, rfl, by omega, K1.far2 hc4 (by omega) _ _, K2.set s0 _ _, own_far2 hown (by omega), M2.set2 (by (repeat' (first | exact True.intro | refine And.intro (fun k hk e => ?_) ?_)) <;> (first | exact e | ((try dsimp only [Loc.c1, Loc.c2, Loc.k1, Loc.k2, Loc.k6, Loc.rdF, Loc.rdFF, Loc.all2, Loc.fr, Loc.bl, Loc.own, Loc.sz] at hk e) <;> omega)))⟩
                      case rest =>
                        clear M2 c2 HO2 q1 f4 f5
                        obtain ⟨yb, rfl, hyb, c1, y1k, hown, M⟩ := hcut
                        have HO := Lib.hid hown
                        clear hown
                        cases y3 with
                        | true =>
                          have HNON := Lib.hid (orL HH3.out rfl)
                          go_wp2_with fail
                          exact HFIN.out HNON.out _ _ HOL1.out c1 HO.out M
                        | false =>
                          have hH4 := orR HH3.out rfl
                          obtain ⟨u, hu⟩ : ∃ u : Fr, (⟨(addE (gt out1 high) y).n, (addE (gt out1 high) y).d⟩ : Fr) = u := ⟨_, rfl⟩
                          obtain ⟨y4, hy4⟩ : ∃ y4, (false || ((addE (gt out1 high) y).e != 0)) = y4 := ⟨_, rfl⟩
                          have HH4 := Lib.hid (hH4 y4 u hy4 hu)
                          have HU := Lib.hid (show (addE (gt out1 high) y).n = u.n ∧ (addE (gt out1 high) y).d = u.d by rw [← hu]; exact ⟨rfl, rfl⟩)
                          have HY4 := Lib.hid hy4
                          clear hu hy4 hH4 HH3
                          have q1 := M.2.2.1
                          have wnk : IntKind.i64.wrap ((n : Int) - (k : Int)) = (low : Int) := by rw [IntKind.wrap_i64]; omega
                          go_upto_region 18 with (fail)
                          obtain ⟨wd, hwd⟩ : ∃ wd : World, wd = wc := ⟨_, rfl⟩
                          clear hwd
                          go_cut [15] (fun s15 wx => s15 = .int .i64 (high : Int) ∧ wc = wx)
                          case first =>
                            go_wp2_with fail
                            all_goals
                              clear wnk
                              go_meet
                              exact ⟨congrArg _ (by omega), rfl⟩
                          case rest =>
                            obtain ⟨rfl, rfl⟩ := hcut
                            clear wnk
                            obtain ⟨f1, f2, fz1, fz2, hgw, hig⟩ := own_at HO.out (gt_get (l := out1) (i := high) (by rw [HOL1.out]; omega))
                            have hyn : yb ≠ cb := by omega
                            have hhb : (high : Int) < (cp : Int) + 1 := by omega
                            go_upto_region 19 with (fail)
                            have S : Mem [Loc.c2 g (high * 2) (.int .i64 (gt out1 high).n) (.int .i64 (gt out1 high).d), Loc.k2 yb (.int .i64 y.n) (.int .i64 y.d)] wc := ⟨⟨f1, f2⟩, y1k, True.intro⟩
                            clear f1 f2 fz1 fz2 y1k q1
                            refine wp_region_tail (S := (fun W => C2 W g (high * 2) (.int .i64 (gt out1 high).n) (.int .i64 (gt out1 high).d) ∧ K2 W yb (.int .i64 y.n) (.int .i64 y.d) ∧ True)) (by kernel_rfl) rfl (by kernel_rfl) (by exact S) (fun hHeld => ?_)
                            simp only [List.dropLast]
                            refine wpAnyH_take (i := 0) (oi := _) (v := ?_) rfl (by kernel_rfl) (by kernel_rfl) (by kernel_rfl) (fun _ _ _ h => h) (Or.inl ⟨by rfl, ?_⟩) (by assumption) ?_
                            rotate_left
                            · (intro w hSw; (try dsimp only at hSw); go_simp; try (with_reducible rfl))
                            simp only [Act.put, List.setIfInBounds_toArray, List.set_cons_zero, List.set_cons_succ]
                            refine wpAnyH_take (i := 1) (oi := _) (v := ?_) rfl (by kernel_rfl) (by kernel_rfl) (by kernel_rfl) (fun _ _ _ h => h) (Or.inl ⟨by rfl, ?_⟩) (by assumption) ?_
                            rotate_left
                            · (intro w hSw; (try dsimp only at hSw); go_simp; try (with_reducible rfl))
                            simp only [Act.put, List.setIfInBounds_toArray, List.set_cons_zero, List.set_cons_succ]
                            refine wpAnyH_take (i := 2) (oi := _) (v := ?_) rfl (by kernel_rfl) (by kernel_rfl) (by kernel_rfl) (fun _ _ _ h => h) (Or.inl ⟨by rfl, ?_⟩) (by assumption) ?_
                            rotate_left
                            · (intro w hSw; (try dsimp only at hSw); go_simp; try (with_reducible rfl))
                            simp only [Act.put, List.setIfInBounds_toArray, List.set_cons_zero, List.set_cons_succ]
                            refine wpAnyH_take (i := 3) (oi := _) (v := ?_) rfl (by kernel_rfl) (by kernel_rfl) (by kernel_rfl) (fun _ _ _ h => h) (Or.inl ⟨by rfl, ?_⟩) (by assumption) ?_
                            rotate_left
                            · (intro w hSw; (try dsimp only at hSw); go_simp; try (with_reducible rfl))
                            simp only [Act.put, List.setIfInBounds_toArray, List.set_cons_zero, List.set_cons_succ]
                            refine wpAnyH_take (i := 4) (oi := _) (v := ?_) rfl (by kernel_rfl) (by kernel_rfl) (by kernel_rfl) (fun _ _ _ h => h) (Or.inl ⟨by rfl, ?_⟩) (by assumption) ?_
                            rotate_left
                            · (intro w hSw; (try dsimp only at hSw); go_simp; try (with_reducible rfl))
                            simp only [Act.put, List.setIfInBounds_toArray, List.set_cons_zero, List.set_cons_succ]
                            refine wpAnyH_take (i := 5) (oi := _) (v := ?_) rfl (by kernel_rfl) (by kernel_rfl) (by kernel_rfl) (fun _ _ _ h => h) (Or.inl ⟨by rfl, ?_⟩) (by assumption) ?_
                            rotate_left
                            · (intro w hSw; (try dsimp only at hSw); go_simp; try (with_reducible rfl))
                            simp only [Act.put, List.setIfInBounds_toArray, List.set_cons_zero, List.set_cons_succ]
                            refine wpAnyH_take (i := 6) (oi := _) (v := ?_) rfl (by kernel_rfl) (by kernel_rfl) (by kernel_rfl) (fun _ _ _ h => h) (Or.inl ⟨by rfl, ?_⟩) (by assumption) ?_
                            rotate_left
                            · (intro w hSw; (try dsimp only at hSw); go_simp; try (with_reducible rfl))
                            simp only [Act.put, List.setIfInBounds_toArray, List.set_cons_zero, List.set_cons_succ]
                            refine wpAnyH_take (i := 7) (oi := _) (v := ?_) rfl (by kernel_rfl) (by kernel_rfl) (by kernel_rfl) (fun _ _ _ h => h) (Or.inl ⟨by rfl, ?_⟩) (by assumption) ?_
                            rotate_left
                            · (intro w hSw; (try dsimp only at hSw); go_simp; try (with_reducible rfl))
                            simp only [Act.put, List.setIfInBounds_toArray, List.set_cons_zero, List.set_cons_succ]
                            refine wpAnyH_ready (rs := [8]) (by kernel_rfl) (by simp) ?_
                            refine AllReadyH.cons (o := _) rfl (fun K hK => ?_) AllReadyH.nil
                            go_simp
                            refine (cadd_any (gt out1 high) y cb false _ (by exact c1)).mono ?_; rintro e w7 ⟨rfl, hc6, ho6⟩; rw [HU.out.1, HU.out.2]; rw [HY4.out] at hc6; replace M := M.drew.off ho6 (by (repeat' (first | exact True.intro | refine And.intro (fun k hk e => ?_) ?_)) <;> (first | exact e | ((try dsimp only [Loc.c1, Loc.c2, Loc.k1, Loc.k2, Loc.k6, Loc.rdF, Loc.rdFF, Loc.all2, Loc.fr, Loc.bl, Loc.own, Loc.sz] at hk e) <;> omega))); replace S := S.drew.off ho6 (by (repeat' (first | exact True.intro | refine And.intro (fun k hk e => ?_) ?_)) <;> (first | exact e | ((try dsimp only [Loc.c1, Loc.c2, Loc.k1, Loc.k2, Loc.k6, Loc.rdF, Loc.rdFF, Loc.all2, Loc.fr, Loc.bl, Loc.own, Loc.sz] at hk e) <;> omega))); replace HO := Lib.hid (own_off (w := wc.drew) (by exact HO.out) ho6 (by omega)); have hz7 := ho6.size; clear ho6
                            (try go_wp2_with fail)
                            refine hK.out _ _ ?_ (fun hHeld => ?_)
                            · exact S
                            clear hK K
                            try simp only [Act.put, List.setIfInBounds_toArray, List.set_cons_zero, List.set_cons_succ]
                            refine wpAnyH_take (i := 9) (oi := _) (v := ?_) rfl (by kernel_rfl) (by kernel_rfl) (by kernel_rfl) (fun _ _ _ h => h) (Or.inl ⟨by rfl, ?_⟩) (by assumption) ?_
                            rotate_left
                            · (intro w hSw; (try dsimp only at hSw); go_simp; try (with_reducible rfl))
                            simp only [Act.put, List.setIfInBounds_toArray, List.set_cons_zero, List.set_cons_succ]
                            refine wpAnyH_done (by kernel_rfl) ?_ _
                            unfold thenLast
                            simp only [Exit.then]
                            obtain ⟨f1, f2, fz1, fz2, _, _⟩ := own_at HO.out (gt_get (l := out1) (i := high) (by rw [HOL1.out]; omega))
                            have HO2 := Lib.hid (own_set HO.out (i := high) (by rw [HOL1.out]; omega) u)
                            have HM2 := Lib.hid (M.set2 (g := g) (i := high * 2) (j := high * 2 + 1) (u := .int .i64 u.n) (v := .int .i64 u.d) (by (repeat' (first | exact True.intro | refine And.intro (fun k hk e => ?_) ?_)) <;> (first | exact e | ((try dsimp only [Loc.c1, Loc.c2, Loc.k1, Loc.k2, Loc.k6, Loc.rdF, Loc.rdFF, Loc.all2, Loc.fr, Loc.bl, Loc.own, Loc.sz] at hk e) <;> omega))))
                            have HC2 := Lib.hid (K1.far (K1.far hc6 (Ne.symm hgn) (o := high * 2) (.int .i64 u.n)) (Ne.symm hgn) (o := high * 2 + 1) (.int .i64 u.d))
                            have hzn7 := M.1.2.2.2.2
                            clear S M HO c1 hc6
                            go_wp2_with fail
                            go_roundw
                            case rel =>
                              have hrel : ∃ (k' : Nat) (x' : Bool) (out' : List Fr), k' ≤ j + 1 ∧ Value.int .i64 ((k : Int) + 1) = .int .i64 k' ∧ nb < ((w7.setCell ⟨g, high * 2, none⟩ (.int .i64 u.n)).setCell ⟨g, high * 2 + 1, none⟩ (.int .i64 u.d)).heap.size ∧ K1 ((w7.setCell ⟨g, high * 2, none⟩ (.int .i64 u.n)).setCell ⟨g, high * 2 + 1, none⟩ (.int .i64 u.d)) cb (.bool x') ∧ ((w7.setCell ⟨g, high * 2, none⟩ (.int .i64 u.n)).setCell ⟨g, high * 2 + 1, none⟩ (.int .i64 u.d)).ownsRow (w.heap.size + 1) 23 2 (.slice (some ⟨g, 0, none⟩) (cp + 1) cap) (cp + 1) (flat out') ∧ Mem [Loc.k2 nb (.int .i64 no.n) (.int .i64 no.d), Loc.rdF (wo1.heap.size + 1) w1.heap.size (.slice (some ⟨bb, boff, none⟩) bj.length bc) bj, Loc.k6 w.heap.size (.int .i64 ar.n) (.int .i64 ar.d) (.int .i64 se.n) (.int .i64 se.d) (.int .i64 sv) (.int .i64 cp), Loc.fr cb w.heap.size w] ((w7.setCell ⟨g, high * 2, none⟩ (.int .i64 u.n)).setCell ⟨g, high * 2 + 1, none⟩ (.int .i64 u.d)) ∧ RrI ar se sv cp n bj no k' out' x' := ⟨k + 1, y4, _, by omega, by go_num, by rw [size_setCell, size_setCell]; exact hzn7, HC2.out, HO2.out, HM2.out, HH4.out⟩
                              first | exact hrel | ((repeat apply Exists.intro); exact ⟨hrel, rfl⟩)
                            case measure => first | (simp [intOf]; done) | (simp [intOf]; omega)
            · have hkd : decide ((k : Int) ≤ (j : Int)) = false := by simp; omega
              go_wp2_with fail
              exact HR.out _ _ ⟨g, cap, out, x, rfl, c1, M.2.2.2.1.1, own_rdF HO.out HI.out.1, HI.out.done (fun h => by rw [HJ.out]; omega)⟩

end Go.Proofs.Ythlgkomhnhkooaa
