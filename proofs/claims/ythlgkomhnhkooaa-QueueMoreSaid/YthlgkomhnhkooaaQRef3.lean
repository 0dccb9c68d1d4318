/-
  Walks of casebookref52: leave. Conditions: none.
-/
import Derived.Test.YthlgkomhnhkooaaQRef2
import Derived.Test.YthlgkomhnhkooaaQSpec7
import Derived.Test.YthlgkomhnhkooaaLoc
import Derived.Test.YthlgkomhnhkooaaQueue11
namespace Go.Proofs.Ythlgkomhnhkooaa
set_option linter.unusedSimpArgs false
set_option linter.unusedVariables false
open Go.RowKit

set_option maxRecDepth 100000 in
set_option maxHeartbeats 8000000 in
theorem rleave_any (ar se : Fr) (sv cp : Int) (j : Nat) (cb : Nat) (w : World) (hc : K1 w cb (.bool false)) (hse : se.ok) (hj : j ≤ 8) :
    Calls Try.prog 48 #[.pointer (some ⟨cb, 0, none⟩), .agg #[.int .i64 ar.n, .int .i64 ar.d, .int .i64 se.n, .int .i64 se.d, .int .i64 sv, .int .i64 cp], .int .i64 j] w fun e w' =>
      ∃ v l x, e = .returned v ∧ K1 w' cb (.bool x) ∧ Off cb w.heap.size w w' ∧ RdF w' (w.heap.size + 1) w'.heap.size v l ∧ RlE se j l x := by
  refine calls_cps fun R hR => ?_
  have HR := Lib.hid hR
  clear hR
  have hcb := hc.2.2
  have lt0 : cb < w.heap.size + 1 := by omega
  go_enter Try.func48, Try.ntmps48
  go_wp2_with fail
  have M0 : Mem [Loc.k6 w.heap.size (.int .i64 ar.n) (.int .i64 ar.d) (.int .i64 se.n) (.int .i64 se.d) (.int .i64 sv) (.int .i64 cp), Loc.fr cb w.heap.size w] (w.alloc (.cells #[.int .i64 ar.n, .int .i64 ar.d, .int .i64 se.n, .int .i64 se.d, .int .i64 sv, .int .i64 cp] 25)) := ⟨K6.new w _ _ _ _ _ _ _, ⟨(Off.refl _ _ _).alloc (Nat.le_refl _) _, by simp⟩, True.intro⟩
  have c0 := K1.alloc hc (.cells #[.int .i64 ar.n, .int .i64 ar.d, .int .i64 se.n, .int .i64 se.d, .int .i64 sv, .int .i64 cp] 25)
  refine (one_any _).mono ?_
  rintro e w1 ⟨rfl, hb1⟩
  replace M0 := M0.below hb1
  replace c0 := K1.aft hb1 c0
  have hz1 := hb1.size
  simp at hz1
  clear hb1 hc
  go_upto_region 2 with (fail)
  have e1 := own_lit w1 #[.int .i64 1, .int .i64 1] 23 (w.heap.size + 1) 2 1 rfl (by simp [maxLen]) (by omega)
  have e2 : RdF (w1.alloc (.cells #[.int .i64 1, .int .i64 1] 23)) (w.heap.size + 1) (w1.heap.size + 1) (.slice (some ⟨w1.heap.size, 0, none⟩) 1 1) [oneF] := (RdG.of_own e1).mono (Nat.le_refl _) (by simp)
  have M1 : Mem [Loc.rdF (w.heap.size + 1) (w1.heap.size + 1) (.slice (some ⟨w1.heap.size, 0, none⟩) 1 1) [oneF], Loc.k6 w.heap.size (.int .i64 ar.n) (.int .i64 ar.d) (.int .i64 se.n) (.int .i64 se.d) (.int .i64 sv) (.int .i64 cp), Loc.fr cb w.heap.size w] (w1.alloc (.cells #[.int .i64 1, .int .i64 1] 23)) := ⟨e2, M0.alloc _⟩
  replace c0 := K1.alloc c0 (.cells #[.int .i64 1, .int .i64 1] 23)
  have hzW : (w1.alloc (.cells #[.int .i64 1, .int .i64 1] 23)).heap.size = w1.heap.size + 1 := by simp
  have hzW1 : w1.heap.size + 1 ≤ (w1.alloc (.cells #[.int .i64 1, .int .i64 1] 23)).heap.size := by simp
  clear e1 e2 M0 hzW
  generalize w1.alloc (.cells #[.int .i64 1, .int .i64 1] 23) = W at *
  obtain ⟨st, hst⟩ : ∃ st : Fr, (⟨(subE oneF se).n, (subE oneF se).d⟩ : Fr) = st := ⟨_, rfl⟩
  obtain ⟨x0, hx0⟩ : ∃ x0, ((subE oneF se).e != 0) = x0 := ⟨_, rfl⟩
  have HST := Lib.hid (show (subE oneF se).n = st.n ∧ (subE oneF se).d = st.d by rw [← hst]; exact ⟨rfl, rfl⟩)
  have HRL := Lib.hid (RlO.start (j := j) hse hx0 hst)
  have HX0 := Lib.hid (show (false || ((subE oneF se).e != 0)) = x0 by simpa using hx0)
  clear hst hx0
  have q0 := M1.2.1
  go_cut [8] (fun s8 wx => ∃ sb : Nat, s8 = .pointer (some ⟨sb, 0, none⟩) ∧ W.heap.size ≤ sb ∧ K1 wx cb (.bool x0) ∧ Mem [Loc.k2 sb (.int .i64 st.n) (.int .i64 st.d), Loc.rdF (w.heap.size + 1) (w1.heap.size + 1) (.slice (some ⟨w1.heap.size, 0, none⟩) 1 1) [oneF], Loc.k6 w.heap.size (.int .i64 ar.n) (.int .i64 ar.d) (.int .i64 se.n) (.int .i64 se.d) (.int .i64 sv) (.int .i64 cp), Loc.fr cb w.heap.size w] wx)
  case first =>
    go_region_held3 (fun W => K6 W w.heap.size (.int .i64 ar.n) (.int .i64 ar.d) (.int .i64 se.n) (.int .i64 se.d) (.int .i64 sv) (.int .i64 cp)) (first | exact q0 | exact K6.alloc q0 _ | exact K6.far2 q0 (by omega) _ _) (first
      | (go_at_call 41; refine (one_any _).mono ?_; rintro e w3 ⟨rfl, hb3⟩; replace M1 := Mem.below (by first | exact M1.drew | exact (M1.alloc _).drew) hb3; replace q0 := K6.aft hb3 (by first | exact q0 | exact K6.alloc q0 _); replace c0 := K1.aft hb3 (by first | exact c0 | exact K1.alloc c0 _); (first | have s0 := K2.aft hb3 (K2.newd W (.int .i64 0) (.int .i64 0) 23) | skip); have hs3 := hb3.size; (try simp at hs3); clear hb3)
      | (go_at_call 55; refine (csub_any oneF se cb false _ (by first | exact c0 | exact K1.alloc c0 _)).mono ?_; rintro e w4 ⟨rfl, hc4, ho4⟩; rw [HST.out.1, HST.out.2]; rw [HX0.out] at hc4; replace M1 := Mem.off (by first | exact M1 | exact M1.alloc _) ho4 (by (repeat' (first | exact True.intro | refine And.intro (fun k hk e => ?_) ?_)) <;> (first | exact e | ((try dsimp only [Loc.c1, Loc.c2, Loc.k1, Loc.k2, Loc.k6, Loc.rdF, Loc.rdFF, Loc.all2, Loc.fr, Loc.bl, Loc.own, Loc.sz] at hk e) <;> omega))); replace q0 := K6.oft ho4 (by first | exact q0 | exact K6.alloc q0 _) (by omega); (first | replace s0 := K2.oft ho4 s0 (by omega) | have s0 := K2.oft ho4 (K2.new _ (.int .i64 0) (.int .i64 0) 23) (by omega) | skip); have hs4 := ho4.size; (try simp at hs4); clear ho4))
    · go_wp2_with fail
      go_meet
      exact ⟨w4.heap.size, rfl, by omega, K1.alloc hc4 _, K2.new _ _ _ _, M1.alloc _⟩
    all_goals
      go_wp2_with fail
      go_meet
      exact ⟨_, rfl, by omega, K1.far2 hc4 (by omega) _ _, K2.set s0 _ _, M1.set2 (by (repeat' (first | exact True.intro | refine And.intro (fun k hk e => ?_) ?_)) <;> (first | exact e | ((try dsimp only [Loc.c1, Loc.c2, Loc.k1, Loc.k2, Loc.k6, Loc.rdF, Loc.rdFF, Loc.all2, Loc.fr, Loc.bl, Loc.own, Loc.sz] at hk e) <;> omega)))⟩
  case rest =>
    clear M1 c0 q0
    obtain ⟨sb, rfl, hsb, c1, M1⟩ := hcut
    have hsb2 := M1.1.2.2.2.2
    go_wp2
    go_loopw [7, 9] (fun v7 v9 wr => ∃ (n hi : Nat) (l : List Fr) (x : Bool), 1 ≤ n ∧ n ≤ j + 1 ∧ v9 = .int .i64 n ∧ sb < wr.heap.size ∧ hi ≤ wr.heap.size ∧ K1 wr cb (.bool x) ∧ Mem [Loc.k2 sb (.int .i64 st.n) (.int .i64 st.d), Loc.rdF (w.heap.size + 1) hi v7 l, Loc.k6 w.heap.size (.int .i64 ar.n) (.int .i64 ar.d) (.int .i64 se.n) (.int .i64 se.d) (.int .i64 sv) (.int .i64 cp), Loc.fr cb w.heap.size w] wr ∧ RlO se j st n l x) (fun _ v9 _ => j + 1 - (intOf v9).toNat)
    case atStart => exact ⟨1, w1.heap.size + 1, [oneF], x0, by omega, by omega, rfl, hsb2, by omega, c1, M1, HRL.out⟩
    case round =>
      clear M1 c1 hsb2
      obtain ⟨n, hi, l, x, hn1, hn2, rfl, hsb2, hhi, c1, M1, hO⟩ := hrel
      have HO := Lib.hid hO
      clear hO
      obtain ⟨A, cA, rfl, hlc, hlm⟩ := RdF.form M1.2.1
      by_cases hnj : n ≤ j
      · have hnd : decide ((n : Int) ≤ (j : Int)) = true := by simp; omega
        cases x with
        | true =>
          go_wp2_with fail
          exact HR.out _ _ ⟨_, l, true, rfl, c1, M1.2.2.2.1.1, RdG.mono M1.2.1 (Nat.le_refl _) hhi, HO.out.done (fun h => by cases h)⟩
        | false =>
          have hll : l.length = n := HO.out.len rfl hn1
          have HLL := Lib.hid hll
          have hll1 : n ≤ l.length := by omega
          clear hll
          obtain ⟨wo, rfl⟩ : ∃ wo : World, wo = wr := ⟨_, rfl⟩
          go_wp2
          go_loopw [10, 11] (fun v10 v11 wr => ∃ (k : Nat) (next : List Fr) (x : Bool), k ≤ n + 1 ∧ next.length ≤ k ∧ v11 = .int .i64 k ∧ wo.heap.size ≤ wr.heap.size ∧ K1 wr cb (.bool x) ∧ wr.ownsRow wo.heap.size 23 2 v10 next.length (flat next) ∧ Mem [Loc.k2 sb (.int .i64 st.n) (.int .i64 st.d), Loc.rdF (w.heap.size + 1) hi (.slice A l.length cA) l, Loc.k6 w.heap.size (.int .i64 ar.n) (.int .i64 ar.d) (.int .i64 se.n) (.int .i64 se.d) (.int .i64 sv) (.int .i64 cp), Loc.fr cb w.heap.size w] wr ∧ RlI se j st n l k next x) (fun _ v11 _ => n + 1 - (intOf v11).toNat)
          case atStart => exact ⟨0, [], false, by omega, by simp, rfl, Nat.le_refl _, c1, World.ownsRow_nil _ _ _ _, M1, HO.out.inner⟩
          case round =>
            clear M1 c1
            obtain ⟨k, next, x, hk, hnl, rfl, hwr, c1, hown, M, hI⟩ := hrel
            have HI := Lib.hid hI
            have HOWN := Lib.hid hown
            clear hI hown
            have hend : (x = false → k = n + 1) → (∃ (n' hi' : Nat) (l' : List Fr) (x' : Bool), 1 ≤ n' ∧ n' ≤ j + 1 ∧ Value.int .i64 ((n : Int) + 1) = .int .i64 n' ∧ sb < wr.heap.size ∧ hi' ≤ wr.heap.size ∧ K1 wr cb (.bool x') ∧ Mem [Loc.k2 sb (.int .i64 st.n) (.int .i64 st.d), Loc.rdF (w.heap.size + 1) hi' u10 l', Loc.k6 w.heap.size (.int .i64 ar.n) (.int .i64 ar.d) (.int .i64 se.n) (.int .i64 se.d) (.int .i64 sv) (.int .i64 cp), Loc.fr cb w.heap.size w] wr ∧ RlO se j st n' l' x') := by
              intro hx
              have rf : RdF wr wo.heap.size wr.heap.size u10 next := RdG.of_own HOWN.out
              exact ⟨n + 1, wr.heap.size, next, x, by omega, by omega, by go_num, by omega, Nat.le_refl _, c1, ⟨M.1, RdG.mono rf (by omega) (Nat.le_refl _), M.2.2⟩, HI.out.done hn1 hx⟩
            have HEND := Lib.hid hend
            clear hend
            by_cases hkn : k ≤ n
            · have hkd : decide ((k : Int) ≤ (n : Int)) = true := by simp; omega
              cases x with
              | true =>
                go_wp2_with fail
                exact ⟨HEND.out (fun h => by cases h), by simp [intOf]; omega⟩
              | false =>
                go_wp2_with fail
                refine (zero_any _).mono ?_
                rintro e w2 ⟨rfl, hb2⟩
                replace M := M.below hb2
                replace c1 := K1.aft hb2 c1
                replace HOWN := Lib.hid (own_below HOWN.out hb2)
                have hz2 := hb2.size
                clear hb2
                go_wp2_with fail
                refine (zero_any _).mono ?_
                rintro e w3 ⟨rfl, hb2⟩
                replace M := M.below hb2
                replace c1 := K1.aft hb2 c1
                replace HOWN := Lib.hid (own_below HOWN.out hb2)
                have hz3 := hb2.size
                clear hb2
                have M : Mem [Loc.own wo.heap.size w3.heap.size 23 2 u10 next.length (flat next), Loc.k2 sb (.int .i64 st.n) (.int .i64 st.d), Loc.rdF (w.heap.size + 1) hi (.slice A l.length cA) l, Loc.k6 w.heap.size (.int .i64 ar.n) (.int .i64 ar.d) (.int .i64 se.n) (.int .i64 se.d) (.int .i64 sv) (.int .i64 cp), Loc.fr cb w.heap.size w] w3 := ⟨⟨HOWN.out, fun g hg => (HOWN.out.lt g hg).2⟩, M⟩
                clear HOWN
                go_upto_if 49 with (fail)
                have a2 := K2.alloc (K2.new w3 (.int .i64 0) (.int .i64 1) 23) (.cells #[.int .i64 0, .int .i64 1] 23)
                have b2 := K2.new (w3.alloc (.cells #[.int .i64 0, .int .i64 1] 23)) (.int .i64 0) (.int .i64 1) 23
                simp only [World.size_alloc] at b2
                replace M := (M.alloc (.cells #[.int .i64 0, .int .i64 1] 23)).alloc (.cells #[.int .i64 0, .int .i64 1] 23)
                replace c1 := K1.alloc (K1.alloc c1 (.cells #[.int .i64 0, .int .i64 1] 23)) (.cells #[.int .i64 0, .int .i64 1] 23)
                generalize (w3.alloc (.cells #[.int .i64 0, .int .i64 1] 23)).alloc (.cells #[.int .i64 0, .int .i64 1] 23) = W2 at *
                go_cut [56] (fun _ wx => ∃ (m1 : Fr) (x1 : Bool), K1 wx cb (.bool x1) ∧ K2 wx w3.heap.size (.int .i64 m1.n) (.int .i64 m1.d) ∧ K2 wx (w3.heap.size + 1) (.int .i64 0) (.int .i64 1) ∧ Mem [Loc.own wo.heap.size w3.heap.size 23 2 u10 next.length (flat next), Loc.k2 sb (.int .i64 st.n) (.int .i64 st.d), Loc.rdF (w.heap.size + 1) hi (.slice A l.length cA) l, Loc.k6 w.heap.size (.int .i64 ar.n) (.int .i64 ar.d) (.int .i64 se.n) (.int .i64 se.d) (.int .i64 sv) (.int .i64 cp), Loc.fr cb w.heap.size w] wx ∧ RlA se j st n l k next m1 x1)
                case first =>
                  by_cases hlt : k < n
                  · have hld : decide ((k : Int) < (n : Int)) = true := by simp; omega
                    obtain ⟨b, off, rfl, lo2, hi2, f4, f5⟩ := RdF.at2 M.2.2.1 (gt_get (l := l) (i := k) (by omega))
                    have s2 := M.2.1
                    have hbn : b ≠ cb := by omega
                    have hsn : sb ≠ cb := by omega
                    have hkl : (k : Int) < (l.length : Int) := by omega
                    obtain ⟨m1, hm1⟩ : ∃ m : Fr, (⟨(mulE (gt l k) st).n, (mulE (gt l k) st).d⟩ : Fr) = m := ⟨_, rfl⟩
                    obtain ⟨x1, hx1⟩ : ∃ x1, (false || ((mulE (gt l k) st).e != 0)) = x1 := ⟨_, rfl⟩
                    have HM1 := Lib.hid (show (mulE (gt l k) st).n = m1.n ∧ (mulE (gt l k) st).d = m1.d by rw [← hm1]; exact ⟨rfl, rfl⟩)
                    have HA := Lib.hid (HI.out.mul hse hn1 hnj hlt hx1 hm1)
                    have HX1 := Lib.hid hx1
                    clear hm1 hx1
                    go_wp2_with fail
                    go_region_held3 (fun W => K2 W sb (.int .i64 st.n) (.int .i64 st.d) ∧ W.cell? ⟨b, off + k * 2, none⟩ = some (.int .i64 (gt l k).n) ∧ W.cell? ⟨b, off + k * 2 + 1, none⟩ = some (.int .i64 (gt l k).d)) (first | exact ⟨s2, f4, f5⟩ | exact ⟨K2.far' s2 (by omega) _ _, cell_set2 f4 (by omega), cell_set2 f5 (by omega)⟩) ((go_at_call 49; refine (cmul_any (gt l k) st cb false _ (by exact c1)).mono ?_; rintro e w4 ⟨rfl, hc4, ho4⟩; rw [HM1.out.1, HM1.out.2]; rw [HX1.out] at hc4; replace M := M.drew.off ho4 (by (repeat' (first | exact True.intro | refine And.intro (fun k hk e => ?_) ?_)) <;> (first | exact e | ((try dsimp only [Loc.c1, Loc.c2, Loc.k1, Loc.k2, Loc.k6, Loc.rdF, Loc.rdFF, Loc.all2, Loc.fr, Loc.bl, Loc.own, Loc.sz] at hk e) <;> omega))); replace a2 := K2.oft ho4 a2 (by omega); replace b2 := K2.oft ho4 b2 (by omega); replace s2 := K2.oft ho4 s2 hsn; replace f4 := cell_oft ho4 f4 hbn; replace f5 := cell_oft ho4 f5 hbn; clear ho4))
                    go_wp2_with fail
                    go_meet
                    exact ⟨m1, x1, K1.far2 hc4 (by omega) _ _, K2.set a2 _ _, K2.far' b2 (by omega) _ _, M.set2 (by (repeat' (first | exact True.intro | refine And.intro (fun k hk e => ?_) ?_)) <;> (first | exact e | ((try dsimp only [Loc.c1, Loc.c2, Loc.k1, Loc.k2, Loc.k6, Loc.rdF, Loc.rdFF, Loc.all2, Loc.fr, Loc.bl, Loc.own, Loc.sz] at hk e) <;> omega))), HA.out⟩
                  · have hld : decide ((k : Int) < (n : Int)) = false := by simp; omega
                    go_wp2_with fail
                    go_meet
                    exact ⟨zeroF, false, c1, a2, b2, M, HI.out.nomul hse hn1 (by omega)⟩
                case rest =>
                  clear M a2 b2 c1
                  obtain ⟨m1, x1, c1, a2, b2, M, hA⟩ := hcut
                  have HA := Lib.hid hA
                  clear hA
                  obtain ⟨z, hz⟩ : ∃ z, (decide (0 < k) && !x1) = z := ⟨_, rfl⟩
                  have HZ := Lib.hid hz
                  clear hz
                  go_upto_region 13 with (fail)
                  obtain ⟨wd, hwd⟩ : ∃ wd, wd = wc := ⟨_, rfl⟩
                  clear hwd
                  go_cut [65] (fun s65 wx => s65 = .bool z ∧ wx = wc)
                  case first =>
                    by_cases hk0 : 0 < k
                    · have hk0d : decide ((0 : Int) < (k : Int)) = true := by simp; omega
                      cases x1
                      all_goals
                        go_wp2_with fail
                        go_meet
                        exact ⟨congrArg Value.bool (by rw [← HZ.out]; simp [hk0]), rfl⟩
                    · have hk0d : decide ((0 : Int) < (k : Int)) = false := by simp; omega
                      go_wp2_with fail
                      go_meet
                      exact ⟨congrArg Value.bool (by rw [← HZ.out]; simp [hk0]), rfl⟩
                  case rest =>
                    obtain ⟨rfl, rfl⟩ := hcut
                    go_upto_if 65 with (fail)
                    go_cut [74] (fun _ wx => ∃ (m2 : Fr) (x2 : Bool), K1 wx cb (.bool x2) ∧ K2 wx w3.heap.size (.int .i64 m1.n) (.int .i64 m1.d) ∧ K2 wx (w3.heap.size + 1) (.int .i64 m2.n) (.int .i64 m2.d) ∧ Mem [Loc.own wo.heap.size w3.heap.size 23 2 u10 next.length (flat next), Loc.k2 sb (.int .i64 st.n) (.int .i64 st.d), Loc.rdF (w.heap.size + 1) hi (.slice A l.length cA) l, Loc.k6 w.heap.size (.int .i64 ar.n) (.int .i64 ar.d) (.int .i64 se.n) (.int .i64 se.d) (.int .i64 sv) (.int .i64 cp), Loc.fr cb w.heap.size w] wx ∧ RlB se j st n l k next m1 m2 x2)
                    case first =>
                      cases z with
                      | false =>
                        go_wp2_with fail
                        go_meet
                        refine ⟨zeroF, x1, c1, a2, b2, M, ?_⟩
                        have hz := HZ.out
                        cases x1 with
                        | true => exact HA.out.big
                        | false =>
                          have h0 : k = 0 := by simp at hz; omega
                          subst h0
                          exact HA.out.nomul hse
                      | true =>
                        have hk0 : 0 < k := by have := HZ.out; simp at this; omega
                        have hxf : x1 = false := by have := HZ.out; simp at this; exact this.2
                        subst hxf
                        obtain ⟨b, off, rfl, lo2, hi2, f4, f5⟩ := RdF.at2 M.2.2.1 (gt_get (l := l) (i := k - 1) (by omega))
                        have q2 := M.2.2.2.1
                        have hbn : b ≠ cb := by omega
                        have hqn : w.heap.size ≠ cb := by omega
                        have hkl : (k : Int) - 1 < (l.length : Int) := by omega
                        obtain ⟨m2, hm2⟩ : ∃ m : Fr, (⟨(mulE (gt l (k - 1)) se).n, (mulE (gt l (k - 1)) se).d⟩ : Fr) = m := ⟨_, rfl⟩
                        obtain ⟨x2, hx2⟩ : ∃ x2, (false || ((mulE (gt l (k - 1)) se).e != 0)) = x2 := ⟨_, rfl⟩
                        have HM2 := Lib.hid (show (mulE (gt l (k - 1)) se).n = m2.n ∧ (mulE (gt l (k - 1)) se).d = m2.d by rw [← hm2]; exact ⟨rfl, rfl⟩)
                        have HB := Lib.hid (HA.out.mul' hse hn1 hnj hk0 hkn hx2 hm2)
                        have HX2 := Lib.hid hx2
                        clear hm2 hx2
                        have hk1 : (1 : Int) ≤ (k : Int) := by omega
                        have hk2 : (0 : Int) ≤ (k : Int) - 1 := by omega
                        have wk : IntKind.i64.wrap ((k : Int) - 1) = (k : Int) - 1 := by rw [IntKind.wrap_i64]; omega
                        have tk : ((k : Int) - 1).toNat = k - 1 := by omega
                        go_wp2_with fail
                        go_region_held3 (fun W => K6 W w.heap.size (.int .i64 ar.n) (.int .i64 ar.d) (.int .i64 se.n) (.int .i64 se.d) (.int .i64 sv) (.int .i64 cp) ∧ W.cell? ⟨b, off + (k - 1) * 2, none⟩ = some (.int .i64 (gt l (k - 1)).n) ∧ W.cell? ⟨b, off + (k - 1) * 2 + 1, none⟩ = some (.int .i64 (gt l (k - 1)).d)) (first | exact ⟨q2, f4, f5⟩ | exact ⟨K6.far2 q2 (by omega) _ _, cell_set2 f4 (by omega), cell_set2 f5 (by omega)⟩) ((go_at_call 49; refine (cmul_any (gt l (k - 1)) se cb false _ (by exact c1)).mono ?_; rintro e w4 ⟨rfl, hc4, ho4⟩; rw [HM2.out.1, HM2.out.2]; rw [HX2.out] at hc4; clear wk tk; replace M := M.drew.off ho4 (by (repeat' (first | exact True.intro | refine And.intro (fun k hk e => ?_) ?_)) <;> (first | exact e | ((try dsimp only [Loc.c1, Loc.c2, Loc.k1, Loc.k2, Loc.k6, Loc.rdF, Loc.rdFF, Loc.all2, Loc.fr, Loc.bl, Loc.own, Loc.sz] at hk e) <;> omega))); replace a2 := K2.oft ho4 a2 (by omega); replace b2 := K2.oft ho4 b2 (by omega); replace q2 := K6.oft ho4 q2 hqn; replace f4 := cell_oft ho4 f4 hbn; replace f5 := cell_oft ho4 f5 hbn; clear ho4))
                        go_wp2_with fail
                        go_meet
                        exact ⟨m2, x2, K1.far2 hc4 (by omega) _ _, K2.far' a2 (by omega) _ _, K2.set b2 _ _, M.set2 (by (repeat' (first | exact True.intro | refine And.intro (fun k hk e => ?_) ?_)) <;> (first | exact e | ((try dsimp only [Loc.c1, Loc.c2, Loc.k1, Loc.k2, Loc.k6, Loc.rdF, Loc.rdFF, Loc.all2, Loc.fr, Loc.bl, Loc.own, Loc.sz] at hk e) <;> omega))), HB.out⟩
                    case rest =>
                      clear M a2 b2 c1
                      obtain ⟨m2, x2, c1, a2, b2, M, hB⟩ := hcut
                      have HB := Lib.hid hB
                      clear hB
                      have hzc : w3.heap.size < wc.heap.size := a2.2.2.2.2
                      cases x2 with
                      | true =>
                        go_wp2_with fail
                        go_roundw
                        case rel =>
                          have hrel : ∃ (k' : Nat) (next' : List Fr) (x' : Bool), k' ≤ n + 1 ∧ next'.length ≤ k' ∧ Value.int .i64 ((k : Int) + 1) = .int .i64 k' ∧ wo.heap.size ≤ wc.heap.size ∧ K1 wc cb (.bool x') ∧ wc.ownsRow wo.heap.size 23 2 u10 next'.length (flat next') ∧ Mem [Loc.k2 sb (.int .i64 st.n) (.int .i64 st.d), Loc.rdF (w.heap.size + 1) hi (.slice A l.length cA) l, Loc.k6 w.heap.size (.int .i64 ar.n) (.int .i64 ar.d) (.int .i64 se.n) (.int .i64 se.d) (.int .i64 sv) (.int .i64 cp), Loc.fr cb w.heap.size w] wc ∧ RlI se j st n l k' next' x' := ⟨k + 1, next, true, by omega, by omega, by go_num, by omega, c1, M.1.1, M.2, HB.out.big⟩
                          first | exact hrel | ((repeat apply Exists.intro); exact ⟨hrel, rfl⟩)
                        case measure => first | (simp [intOf]; done) | (simp [intOf]; omega)
                      | false =>
                        obtain ⟨i0, hi0, hz0, hz1', hz2'⟩ := info_parts info_frac
                        go_wp2_with fail
                        refine (cadd_any m1 m2 cb false _ c1).mono ?_
                        rintro e w4 ⟨rfl, hc4, ho4⟩
                        replace M := M.off ho4 (by (repeat' (first | exact True.intro | refine And.intro (fun k hk e => ?_) ?_)) <;> (first | exact e | ((try dsimp only [Loc.c1, Loc.c2, Loc.k1, Loc.k2, Loc.k6, Loc.rdF, Loc.rdFF, Loc.all2, Loc.fr, Loc.bl, Loc.own, Loc.sz] at hk e) <;> omega)))
                        have hz4 := ho4.size
                        obtain ⟨m3, hm3⟩ : ∃ m : Fr, (⟨(addE m1 m2).n, (addE m1 m2).d⟩ : Fr) = m := ⟨_, rfl⟩
                        obtain ⟨x3, hx3⟩ : ∃ x3, (false || ((addE m1 m2).e != 0)) = x3 := ⟨_, rfl⟩
                        rw [show (addE m1 m2).n = m3.n by rw [← hm3], show (addE m1 m2).d = m3.d by rw [← hm3]]
                        rw [hx3] at hc4
                        have HC := Lib.hid (HB.out.add hse hn1 hnj hkn hx3 hm3)
                        clear hm3 hx3 c1 ho4 a2 b2
                        have M4 := M.alloc (.cells #[.int .i64 m3.n, .int .i64 m3.d] 23)
                        replace hc4 := K1.alloc hc4 (.cells #[.int .i64 m3.n, .int .i64 m3.d] 23)
                        have hrb : ∀ g, u10.ownBlock = some g → wo.heap.size ≤ g := fun g hg => (M4.1.1.lt g hg).1
                        have HRB := Lib.hid hrb
                        clear hrb M
                        go_wp2_with (at_builtin; refine wpList_append_lies _ rfl _ _ 27 rfl wo.heap.size 23 i0 _ 2 16 Try.underlying27 hi0 hz0 hz1' hz2' rfl (by omega) _ next.length (flat next) rfl M4.1.1 ⟨w4.heap.size, 0, none⟩ 1 1 [_, _] rfl rfl (World.news_of_block (heap_alloc_new w4 _)) (by simp [Value.oneCell']) (by omega) (by unfold maxLen; omega) (by omega) (by simp; omega) (w4.heap.size + 1) (by simp) ?_; intro g3 cap3 w6 hown6 hgrow6 hat6 hlt6; have hz6 := hgrow6.size; (try simp at hz6); replace M4 := Mem.grownO M4.2 hgrow6 M4.1.1 (by (repeat' (first | exact True.intro | refine And.intro (fun k hk e => ?_) ?_)) <;> (first | exact e | ((try dsimp only [Loc.c1, Loc.c2, Loc.k1, Loc.k2, Loc.k6, Loc.rdF, Loc.rdFF, Loc.all2, Loc.fr, Loc.bl, Loc.own, Loc.sz] at hk e) <;> omega))); replace hc4 := K1.grown hc4 hgrow6 (fun k hk => by have := HRB.out k hk; omega); have HO6 : Hid (w6.ownsRow wo.heap.size 23 2 (.slice (some ⟨g3, 0, none⟩) (next.length + 1) cap3) (next ++ [m3]).length (flat (next ++ [m3]))) := Lib.hid (by rw [flat_append, List.length_append]; exact hown6); clear hown6 hgrow6 hat6 hlt6)
                        go_roundw
                        case rel =>
                          have hrel : ∃ (k' : Nat) (next' : List Fr) (x' : Bool), k' ≤ n + 1 ∧ next'.length ≤ k' ∧ Value.int .i64 ((k : Int) + 1) = .int .i64 k' ∧ wo.heap.size ≤ w6.heap.size ∧ K1 w6 cb (.bool x') ∧ w6.ownsRow wo.heap.size 23 2 (.slice (some ⟨g3, 0, none⟩) (next.length + 1) cap3) next'.length (flat next') ∧ Mem [Loc.k2 sb (.int .i64 st.n) (.int .i64 st.d), Loc.rdF (w.heap.size + 1) hi (.slice A l.length cA) l, Loc.k6 w.heap.size (.int .i64 ar.n) (.int .i64 ar.d) (.int .i64 se.n) (.int .i64 se.d) (.int .i64 sv) (.int .i64 cp), Loc.fr cb w.heap.size w] w6 ∧ RlI se j st n l k' next' x' := ⟨k + 1, next ++ [m3], x3, by omega, by simp; omega, by go_num, by omega, hc4, HO6.out, M4, HC.out⟩
                          first | exact hrel | ((repeat apply Exists.intro); exact ⟨hrel, rfl⟩)
                        case measure => first | (simp [intOf]; done) | (simp [intOf]; omega)
            · have hkd : decide ((k : Int) ≤ (n : Int)) = false := by simp; omega
              go_wp2_with fail
              exact ⟨HEND.out (fun _ => by omega), by simp [intOf]; omega⟩
      · have hnd : decide ((n : Int) ≤ (j : Int)) = false := by simp; omega
        go_wp2_with fail
        exact HR.out _ _ ⟨_, l, x, rfl, c1, M1.2.2.2.1.1, RdG.mono M1.2.1 (Nat.le_refl _) hhi, HO.out.done (fun h => by omega)⟩

end Go.Proofs.Ythlgkomhnhkooaa
