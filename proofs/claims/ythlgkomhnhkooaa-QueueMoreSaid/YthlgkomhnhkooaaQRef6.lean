/-
  Walks of casebookref52: weight. Conditions: none.
-/
import Derived.Test.YthlgkomhnhkooaaQRef5
namespace Go.Proofs.Ythlgkomhnhkooaa
set_option linter.unusedSimpArgs false
set_option linter.unusedVariables false
open Go.RowKit

theorem RwI.bigE {rows : List (List Fr)} {wl : List Fr} {cp n i : Nat} {s v : Fr} (h : RwI rows wl cp n i s true) : RwE rows wl cp n v true := by
  rcases h with ⟨h, _⟩ | h
  · cases h
  · exact .inr h

set_option maxRecDepth 100000 in
set_option maxHeartbeats 8000000 in
theorem rweight_any (rows : List (List Fr)) (wl : List Fr) (cp n cb lo hi lo2 hi2 : Nat) (rV wV : Value) (w : World) (hc : K1 w cb (.bool false)) (hrows : RdFF w lo hi rV rows) (hw : RdF w lo2 hi2 wV wl) (hd : (cb < lo ∨ hi ≤ cb) ∧ (cb < lo2 ∨ hi2 ≤ cb)) (hh : hi ≤ w.heap.size ∧ hi2 ≤ w.heap.size)
    (hr : RowsOk rows cp) (hwn : ∀ m, n < m → nn (gt wl m)) (hrl : rows.length = cp + 1) (hrr : ∀ (i : Nat) (l : List Fr), rows[i]? = some l → l.length = cp + 1) (hwl : wl.length = cp + 1) (hn : n < cp) (hcp : cp ≤ 15) :
    Calls Try.prog 42 #[.pointer (some ⟨cb, 0, none⟩), .agg #[rV], wV, .int .i64 n] w fun e w' =>
      ∃ v x, e = .returned (.agg #[.int .i64 (v).n, .int .i64 (v).d]) ∧ K1 w' cb (.bool x) ∧ Off cb w.heap.size w w' ∧ RwE rows wl cp n v x := by
  obtain ⟨rA, rc, rfl, hrc, hrm⟩ := hrows.form
  obtain ⟨wA, wcap, rfl, hwc, hwm⟩ := hw.form
  obtain ⟨rb, roff, u0, rfl, _⟩ := hrows.at_ (rw_get (m := 0) (by omega))
  obtain ⟨wb, woff, rfl, _, _, _, _⟩ := hw.at2 (gt_get (l := wl) (i := 0) (by omega))
  have hcb := hc.2.2
  have HWN := Lib.hid hwn
  have HRR := Lib.hid hrr
  have HRL := Lib.hid hrl
  have HWL := Lib.hid hwl
  have hwl1 : cp + 1 ≤ wl.length ∧ wl.length ≤ cp + 1 := by omega
  have hrl1 : cp + 1 ≤ rows.length ∧ rows.length ≤ cp + 1 := by omega
  have lt0 : cb < w.heap.size + 1 := by omega
  have lt1 : cb < w.heap.size + 1 + 1 := by omega
  clear hwn hrr hrl hwl
  refine calls_cps fun R hR => ?_
  have HR := Lib.hid hR
  clear hR
  have M0 : Mem [Loc.rdFF lo hi (.slice (some ⟨rb, roff, none⟩) rows.length rc) rows, Loc.rdF lo2 hi2 (.slice (some ⟨wb, woff, none⟩) wl.length wcap) wl, Loc.fr cb w.heap.size w] w := ⟨hrows, hw, ⟨Off.refl _ _ _, Nat.le_refl _⟩, True.intro⟩
  clear hrows hw
  go_enter Try.func42, Try.ntmps42
  go_wp2_with fail
  have M1 := (M0.alloc (.cells #[.slice (some ⟨rb, roff, none⟩) rows.length rc] 42)).alloc (.cells #[.int .i64 0, .int .i64 0] 23)
  have p0 := K1.alloc (K1.new w (.slice (some ⟨rb, roff, none⟩) rows.length rc) 42) (.cells #[.int .i64 0, .int .i64 0] 23)
  have r0 := K2.new (w.alloc (.cells #[.slice (some ⟨rb, roff, none⟩) rows.length rc] 42)) (.int .i64 0) (.int .i64 0) 23
  simp only [World.size_alloc] at r0
  have c0 := K1.alloc (K1.alloc hc (.cells #[.slice (some ⟨rb, roff, none⟩) rows.length rc] 42)) (.cells #[.int .i64 0, .int .i64 0] 23)
  have M2 : Mem [Loc.k1 w.heap.size (.slice (some ⟨rb, roff, none⟩) rows.length rc), Loc.k2 (w.heap.size + 1) (.int .i64 0) (.int .i64 0), Loc.rdFF lo hi (.slice (some ⟨rb, roff, none⟩) rows.length rc) rows, Loc.rdF lo2 hi2 (.slice (some ⟨wb, woff, none⟩) wl.length wcap) wl, Loc.fr cb w.heap.size w] _ := ⟨p0, r0, M1⟩
  refine (zero_any _).mono ?_
  rintro e w1 ⟨rfl, hb1⟩
  have M := (M2.below hb1).alloc (.cells #[.int .i64 0, .int .i64 1] 23)
  have c1 := K1.alloc (K1.aft hb1 c0) (.cells #[.int .i64 0, .int .i64 1] 23)
  have s1 := K2.new w1 (.int .i64 0) (.int .i64 1) 23
  have hz1 := hb1.size
  simp at hz1
  clear M0 M1 M2 hc p0 r0 c0 hb1
  go_wp2
  go_loopw [10] (fun v10 wr => ∃ (i : Nat) (z : Int) (s : Fr) (x : Bool), i + n ≤ cp ∧ z = (n : Int) + 1 + i ∧ v10 = .int .i64 z ∧ K1 wr cb (.bool x) ∧ K2 wr w1.heap.size (.int .i64 s.n) (.int .i64 s.d) ∧ Mem [Loc.k1 w.heap.size (.slice (some ⟨rb, roff, none⟩) rows.length rc), Loc.k2 (w.heap.size + 1) (.int .i64 0) (.int .i64 0), Loc.rdFF lo hi (.slice (some ⟨rb, roff, none⟩) rows.length rc) rows, Loc.rdF lo2 hi2 (.slice (some ⟨wb, woff, none⟩) wl.length wcap) wl, Loc.fr cb w.heap.size w] wr ∧ RwI rows wl cp n i s x) (fun v10 _ => cp + 1 - (intOf v10).toNat)
  case atStart => exact ⟨0, _, zeroF, false, by omega, by omega, rfl, c1, s1, M, .inl ⟨rfl, rfl⟩⟩
  case round =>
    clear c1 s1 M
    obtain ⟨i, z, s, x, hi0, hz, rfl, c1, s1, M, hI⟩ := hrel
    have HI := Lib.hid hI
    clear hI
    by_cases him : i + n < cp
    · obtain ⟨m, rfl⟩ : ∃ m : Nat, z = m := ⟨n + 1 + i, by omega⟩
      have hm : n + 1 + i ≤ m ∧ m ≤ n + 1 + i := by omega
      have HM : Hid (n + 1 + i = m) := Lib.hid (by omega)
      clear hz
      have hmd : decide ((m : Int) < (wl.length : Int)) = true := by simp; omega
      cases x with
      | true =>
        have r1 := M.2.1
        have HF := Lib.hid M.2.2.2.2.1.1
        have HC := Lib.hid c1
        clear M
        go_wp2_with fail
        refine (zero_any _).mono ?_
        rintro e w9 ⟨rfl, hb9⟩
        replace r1 := K2.aft hb9 r1
        have HC9 := Lib.hid (K1.aft hb9 HC.out)
        have HF9 := Lib.hid (Off.stepB HF.out hb9 (by omega))
        clear hb9 c1
        go_wp2_with fail
        refine ret_B2 rfl rfl rfl (K2.set r1 _ _) (HR.out _ _ ⟨zeroF, true, rfl, K1.far2 HC9.out (by omega) _ _, ?_, HI.out.bigE⟩)
        have := HF9.out
        (repeat (first | exact Off.refl _ _ _ | assumption | refine Off.setCell ?_ (by first | (left; first | omega | (simp; done) | (simp; omega)) | (right; rfl)) _ | refine Off.alloc ?_ (by first | omega | (simp; done) | (simp; omega)) _ | refine Off.drew ?_ | refine Off.drewN ?_ _))
      | false =>
        go_wp2_with fail
        refine (zero_any _).mono ?_
        rintro e w2 ⟨rfl, hb2⟩
        have hz2 : w1.heap.size < w2.heap.size := (K2.aft hb2 s1).2.2.2.2
        replace M := (M.below hb2).alloc (.cells #[.int .i64 0, .int .i64 1] 23)
        replace c1 := K1.alloc (K1.aft hb2 c1) (.cells #[.int .i64 0, .int .i64 1] 23)
        replace s1 := K2.alloc (K2.aft hb2 s1) (.cells #[.int .i64 0, .int .i64 1] 23)
        have d1 := K2.new w2 (.int .i64 0) (.int .i64 1) 23
        clear hb2
        obtain ⟨wo, rfl⟩ : ∃ wo : World, wo = wr := ⟨_, rfl⟩
        go_wp2
        go_loopw [12] (fun v12 wr => ∃ (k : Nat) (d : Fr) (x : Bool), k ≤ n + 1 ∧ v12 = .int .i64 k ∧ K1 wr cb (.bool x) ∧ K2 wr w1.heap.size (.int .i64 s.n) (.int .i64 s.d) ∧ K2 wr w2.heap.size (.int .i64 d.n) (.int .i64 d.d) ∧ Mem [Loc.k1 w.heap.size (.slice (some ⟨rb, roff, none⟩) rows.length rc), Loc.k2 (w.heap.size + 1) (.int .i64 0) (.int .i64 0), Loc.rdFF lo hi (.slice (some ⟨rb, roff, none⟩) rows.length rc) rows, Loc.rdF lo2 hi2 (.slice (some ⟨wb, woff, none⟩) wl.length wcap) wl, Loc.fr cb w.heap.size w] wr ∧ RwD rows wl cp n i s k d x) (fun v12 _ => n + 1 - (intOf v12).toNat)
        case atStart => exact ⟨0, zeroF, false, by omega, rfl, c1, s1, d1, M, HI.out.down⟩
        case round =>
          clear M c1 s1 d1
          obtain ⟨k, d, x, hk, rfl, c1, s1, d1, M, hD⟩ := hrel
          have HD := Lib.hid hD
          clear hD
          by_cases hkn : k ≤ n
          · have hkd : decide ((k : Int) ≤ (n : Int)) = true := by simp; omega
            cases x with
            | true =>
              have r1 := M.2.1
              have HF := Lib.hid M.2.2.2.2.1.1
              have HC := Lib.hid c1
              clear M
              go_wp2_with fail
              refine (zero_any _).mono ?_
              rintro e w9 ⟨rfl, hb9⟩
              replace r1 := K2.aft hb9 r1
              have HC9 := Lib.hid (K1.aft hb9 HC.out)
              have HF9 := Lib.hid (Off.stepB HF.out hb9 (by omega))
              clear hb9 c1
              go_wp2_with fail
              refine ret_B2 rfl rfl rfl (K2.set r1 _ _) (HR.out _ _ ⟨zeroF, true, rfl, K1.far2 HC9.out (by omega) _ _, ?_, HD.out.big.bigE (i := 0) (s := zeroF)⟩)
              have := HF9.out
              (repeat (first | exact Off.refl _ _ _ | assumption | refine Off.setCell ?_ (by first | (left; first | omega | (simp; done) | (simp; omega)) | (right; rfl)) _ | refine Off.alloc ?_ (by first | omega | (simp; done) | (simp; omega)) _ | refine Off.drew ?_ | refine Off.drewN ?_ _))
            | false =>
              obtain ⟨lo3, hi3, A2, c2', f3, rf⟩ := RdFF.at2 M.2.2.1 (rw_get (rows := rows) (m := m) (by omega))
              have hmr : (rw' rows m).length = cp + 1 := HRR.out m _ (rw_get (by omega))
              obtain ⟨b2, off2, rfl, lo4, hi4, f4, f5⟩ := rf.at2 (gt_get (l := rw' rows m) (i := k) (by omega))
              obtain ⟨v, hv⟩ : ∃ v : Fr, (⟨(addE d (gt (rw' rows m) k)).n, (addE d (gt (rw' rows m) k)).d⟩ : Fr) = v := ⟨_, rfl⟩
              obtain ⟨y, hy⟩ : ∃ y, (false || ((addE d (gt (rw' rows m) k)).e != 0)) = y := ⟨_, rfl⟩
              have HD2 : Hid (RwD rows wl cp n i s (k + 1) v y) := Lib.hid (HD.out.step hr (by omega) hkn (by rw [HM.out]; exact hy) (by rw [HM.out]; exact hv))
              have HV := Lib.hid (show (addE d (gt (rw' rows m) k)).n = v.n ∧ (addE d (gt (rw' rows m) k)).d = v.d by rw [← hv]; exact ⟨rfl, rfl⟩)
              have HY := Lib.hid hy
              have hmb : (m : Int) < (rows.length : Int) := by omega
              have hkb : (k : Int) < ((rw' rows m).length : Int) := by omega
              have p1 := M.1
              have hd5 : w2.heap.size < wr.heap.size := d1.2.2.2.2
              have S : Mem [Loc.k2 w2.heap.size (.int .i64 d.n) (.int .i64 d.d), Loc.k1 w.heap.size (.slice (some ⟨rb, roff, none⟩) rows.length rc), Loc.c1 rb (roff + m) (.slice (some ⟨b2, off2, none⟩) (rw' rows m).length c2'), Loc.c2 b2 (off2 + k * 2) (.int .i64 (gt (rw' rows m) k).n) (.int .i64 (gt (rw' rows m) k).d)] wr := ⟨d1, p1, f3, ⟨f4, f5⟩, True.intro⟩
              have HMR := Lib.hid hmr
              clear hv hy rf hmr f3 f4 f5 p1 d1
              go_upto_region 9 with (fail)
              refine wp_region_tail (S := (fun W => K2 W w2.heap.size (.int .i64 d.n) (.int .i64 d.d) ∧ K1 W w.heap.size (.slice (some ⟨rb, roff, none⟩) rows.length rc) ∧ C1 W rb (roff + m) (.slice (some ⟨b2, off2, none⟩) (rw' rows m).length c2') ∧ C2 W b2 (off2 + k * 2) (.int .i64 (gt (rw' rows m) k).n) (.int .i64 (gt (rw' rows m) k).d) ∧ True)) (by kernel_rfl) rfl (by kernel_rfl) (by exact S) (fun hHeld => ?_)
              simp only [List.dropLast]
              refine wpAnyH_take (i := 0) (oi := _) (v := ?_) rfl (by kernel_rfl) (by kernel_rfl) (by kernel_rfl) (fun _ _ _ h => h) (Or.inl ⟨by rfl, ?_⟩) (by assumption) ?_
              rotate_left
              · (intro w hSw; (try dsimp only at hSw); go_simp; try (with_reducible rfl))
              simp only [Act.put, List.setIfInBounds_toArray, List.set_cons_zero, List.set_cons_succ]
              refine wpAnyH_take (i := 1) (oi := _) (v := ?_) rfl (by kernel_rfl) (by kernel_rfl) (by kernel_rfl) (fun _ _ _ h => h) (Or.inl ⟨by rfl, ?_⟩) (by assumption) ?_
              rotate_left
              · (intro w hSw; (try dsimp only at hSw); go_simp; try (with_reducible rfl))
              simp only [Act.put, List.setIfInBounds_toArray, List.set_cons_zero, List.set_cons_succ]
              refine wpAnyH_take (i := 2) (oi := _) (v := ?_) rfl (by kernel_rfl) (by kernel_rfl) (by kernel_rfl) (fun _ _ _ h => h) (Or.inl ⟨by rfl, ?_⟩) (by assumption) ?_
              rotate_left
              · (intro w hSw; (try dsimp only at hSw); go_simp; try (with_reducible rfl))
              simp only [Act.put, List.setIfInBounds_toArray, List.set_cons_zero, List.set_cons_succ]
              refine wpAnyH_take (i := 3) (oi := _) (v := ?_) rfl (by kernel_rfl) (by kernel_rfl) (by kernel_rfl) (fun _ _ _ h => h) (Or.inl ⟨by rfl, ?_⟩) (by assumption) ?_
              rotate_left
              · (intro w hSw; (try dsimp only at hSw); go_simp; try (with_reducible rfl))
              simp only [Act.put, List.setIfInBounds_toArray, List.set_cons_zero, List.set_cons_succ]
              refine wpAnyH_take (i := 4) (oi := _) (v := ?_) rfl (by kernel_rfl) (by kernel_rfl) (by kernel_rfl) (fun _ _ _ h => h) (Or.inl ⟨by rfl, ?_⟩) (by assumption) ?_
              rotate_left
              · (intro w hSw; (try dsimp only at hSw); go_simp; try (with_reducible rfl))
              simp only [Act.put, List.setIfInBounds_toArray, List.set_cons_zero, List.set_cons_succ]
              refine wpAnyH_take (i := 5) (oi := _) (v := ?_) rfl (by kernel_rfl) (by kernel_rfl) (by kernel_rfl) (fun _ _ _ h => h) (Or.inl ⟨by rfl, ?_⟩) (by assumption) ?_
              rotate_left
              · (intro w hSw; (try dsimp only at hSw); go_simp; try (with_reducible rfl))
              simp only [Act.put, List.setIfInBounds_toArray, List.set_cons_zero, List.set_cons_succ]
              refine wpAnyH_take (i := 6) (oi := _) (v := ?_) rfl (by kernel_rfl) (by kernel_rfl) (by kernel_rfl) (fun _ _ _ h => h) (Or.inl ⟨by rfl, ?_⟩) (by assumption) ?_
              rotate_left
              · (intro w hSw; (try dsimp only at hSw); go_simp; try (with_reducible rfl))
              simp only [Act.put, List.setIfInBounds_toArray, List.set_cons_zero, List.set_cons_succ]
              refine wpAnyH_take (i := 7) (oi := _) (v := ?_) rfl (by kernel_rfl) (by kernel_rfl) (by kernel_rfl) (fun _ _ _ h => h) (Or.inl ⟨by rfl, ?_⟩) (by assumption) ?_
              rotate_left
              · (intro w hSw; (try dsimp only at hSw); go_simp; try (with_reducible rfl))
              simp only [Act.put, List.setIfInBounds_toArray, List.set_cons_zero, List.set_cons_succ]
              refine wpAnyH_take (i := 8) (oi := _) (v := ?_) rfl (by kernel_rfl) (by kernel_rfl) (by kernel_rfl) (fun _ _ _ h => h) (Or.inl ⟨by rfl, ?_⟩) (by assumption) ?_
              rotate_left
              · (intro w hSw; (try dsimp only at hSw); go_simp; try (with_reducible rfl))
              simp only [Act.put, List.setIfInBounds_toArray, List.set_cons_zero, List.set_cons_succ]
              refine wpAnyH_take (i := 9) (oi := _) (v := ?_) rfl (by kernel_rfl) (by kernel_rfl) (by kernel_rfl) (fun _ _ _ h => h) (Or.inl ⟨by rfl, ?_⟩) (by assumption) ?_
              rotate_left
              · (intro w hSw; (try dsimp only at hSw); go_simp; try (with_reducible rfl))
              simp only [Act.put, List.setIfInBounds_toArray, List.set_cons_zero, List.set_cons_succ]
              refine wpAnyH_ready (rs := [10]) (by kernel_rfl) (by simp) ?_
              refine AllReadyH.cons (o := _) rfl (fun K hK => ?_) AllReadyH.nil
              go_simp
              refine (cadd_any d (gt (rw' rows m) k) cb false _ (by exact c1)).mono ?_; rintro e w6 ⟨rfl, hc6, ho6⟩; rw [HV.out.1, HV.out.2]; rw [HY.out] at hc6; replace M := M.drew.off ho6 (by (repeat' (first | exact True.intro | refine And.intro (fun k hk e => ?_) ?_)) <;> (first | exact e | ((try dsimp only [Loc.c1, Loc.c2, Loc.k1, Loc.k2, Loc.k6, Loc.rdF, Loc.rdFF, Loc.all2, Loc.fr, Loc.bl, Loc.own, Loc.sz] at hk e) <;> omega))); replace S := S.drew.off ho6 (by (repeat' (first | exact True.intro | refine And.intro (fun k hk e => ?_) ?_)) <;> (first | exact e | ((try dsimp only [Loc.c1, Loc.c2, Loc.k1, Loc.k2, Loc.k6, Loc.rdF, Loc.rdFF, Loc.all2, Loc.fr, Loc.bl, Loc.own, Loc.sz] at hk e) <;> omega))); replace s1 := K2.oft ho6 s1 (by omega); have hz6 := ho6.size; clear ho6
              (try go_wp2_with fail)
              refine hK.out _ _ ?_ (fun hHeld => ?_)
              · exact S
              clear hK K
              try simp only [Act.put, List.setIfInBounds_toArray, List.set_cons_zero, List.set_cons_succ]
              refine wpAnyH_done (by kernel_rfl) ?_ _
              unfold thenLast
              simp only [Exit.then]
              have d6 := S.1
              have HM6 := Lib.hid (M.set2 (g := w2.heap.size) (i := 0) (j := 1) (u := .int .i64 v.n) (v := .int .i64 v.d) (by (repeat' (first | exact True.intro | refine And.intro (fun k hk e => ?_) ?_)) <;> (first | exact e | ((try dsimp only [Loc.c1, Loc.c2, Loc.k1, Loc.k2, Loc.k6, Loc.rdF, Loc.rdFF, Loc.all2, Loc.fr, Loc.bl, Loc.own, Loc.sz] at hk e) <;> omega))))
              have HS6 := Lib.hid (K2.far' (i := 0) (j := 1) s1 (show w1.heap.size ≠ w2.heap.size by omega) (.int .i64 v.n) (.int .i64 v.d))
              have HD6 := Lib.hid (K2.set d6 (.int .i64 v.n) (.int .i64 v.d))
              have HC6 := Lib.hid (K1.far2 hc6 (show cb ≠ w2.heap.size by omega) (.int .i64 v.n) (.int .i64 v.d))
              clear M S s1 c1 hc6
              go_wp2_with fail
              go_roundw
              case rel =>
                have hrel : ∃ (k' : Nat) (d' : Fr) (x' : Bool), k' ≤ n + 1 ∧ Value.int .i64 ((k : Int) + 1) = .int .i64 k' ∧ K1 ((w6.setCell ⟨w2.heap.size, 0, none⟩ (.int .i64 v.n)).setCell ⟨w2.heap.size, 1, none⟩ (.int .i64 v.d)) cb (.bool x') ∧ K2 ((w6.setCell ⟨w2.heap.size, 0, none⟩ (.int .i64 v.n)).setCell ⟨w2.heap.size, 1, none⟩ (.int .i64 v.d)) w1.heap.size (.int .i64 s.n) (.int .i64 s.d) ∧ K2 ((w6.setCell ⟨w2.heap.size, 0, none⟩ (.int .i64 v.n)).setCell ⟨w2.heap.size, 1, none⟩ (.int .i64 v.d)) w2.heap.size (.int .i64 d'.n) (.int .i64 d'.d) ∧ Mem [Loc.k1 w.heap.size (.slice (some ⟨rb, roff, none⟩) rows.length rc), Loc.k2 (w.heap.size + 1) (.int .i64 0) (.int .i64 0), Loc.rdFF lo hi (.slice (some ⟨rb, roff, none⟩) rows.length rc) rows, Loc.rdF lo2 hi2 (.slice (some ⟨wb, woff, none⟩) wl.length wcap) wl, Loc.fr cb w.heap.size w] ((w6.setCell ⟨w2.heap.size, 0, none⟩ (.int .i64 v.n)).setCell ⟨w2.heap.size, 1, none⟩ (.int .i64 v.d)) ∧ RwD rows wl cp n i s k' d' x' := ⟨k + 1, v, y, by omega, by go_num, HC6.out, HS6.out, HD6.out, HM6.out, HD2.out⟩
                first | exact hrel | ((repeat apply Exists.intro); exact ⟨hrel, rfl⟩)
              case measure => first | (simp [intOf]; done) | (simp [intOf]; omega)
          · have hkd : decide ((k : Int) ≤ (n : Int)) = false := by simp; omega
            obtain rfl : k = n + 1 := by omega
            cases x with
            | true =>
              have r1 := M.2.1
              have HF := Lib.hid M.2.2.2.2.1.1
              have HC := Lib.hid c1
              clear M
              go_wp2_with fail
              refine (zero_any _).mono ?_
              rintro e w9 ⟨rfl, hb9⟩
              replace r1 := K2.aft hb9 r1
              have HC9 := Lib.hid (K1.aft hb9 HC.out)
              have HF9 := Lib.hid (Off.stepB HF.out hb9 (by omega))
              clear hb9 c1
              go_wp2_with fail
              refine ret_B2 rfl rfl rfl (K2.set r1 _ _) (HR.out _ _ ⟨zeroF, true, rfl, K1.far2 HC9.out (by omega) _ _, ?_, HD.out.big.bigE (i := 0) (s := zeroF)⟩)
              have := HF9.out
              (repeat (first | exact Off.refl _ _ _ | assumption | refine Off.setCell ?_ (by first | (left; first | omega | (simp; done) | (simp; omega)) | (right; rfl)) _ | refine Off.alloc ?_ (by first | omega | (simp; done) | (simp; omega)) _ | refine Off.drew ?_ | refine Off.drewN ?_ _))
            | false =>
              obtain ⟨wb', woff', hbA, lo4, hi4, f4, f5⟩ := RdF.at2 M.2.2.2.1 (gt_get (l := wl) (i := m) (by omega))
              injection hbA with hbA
              injection hbA with hb1' hb2'
              subst hb1' hb2'
              obtain ⟨v, hv⟩ : ∃ v : Fr, (⟨(mulE d (gt wl m)).n, (mulE d (gt wl m)).d⟩ : Fr) = v := ⟨_, rfl⟩
              obtain ⟨y, hy⟩ : ∃ y, (false || ((mulE d (gt wl m)).e != 0)) = y := ⟨_, rfl⟩
              have HM2 : Hid (RwM rows wl cp n i s v y) := Lib.hid (HD.out.mul hr HWN.out (by omega) (by rw [HM.out]; exact hy) (by rw [HM.out]; exact hv))
              have HV := Lib.hid (show (mulE d (gt wl m)).n = v.n ∧ (mulE d (gt wl m)).d = v.d by rw [← hv]; exact ⟨rfl, rfl⟩)
              have HY := Lib.hid hy
              have hd5 : w2.heap.size < wr.heap.size := d1.2.2.2.2
              have hcw : cb < wr.heap.size := c1.2.2
              clear hv hy
              go_upto_region 11 with (fail)
              go_cut [13] (fun s13 wx => ∃ yb : Nat, s13 = .pointer (some ⟨yb, 0, none⟩) ∧ w2.heap.size < yb ∧ K1 wx cb (.bool y) ∧ K2 wx yb (.int .i64 v.n) (.int .i64 v.d) ∧ K2 wx w1.heap.size (.int .i64 s.n) (.int .i64 s.d) ∧ Mem [Loc.k1 w.heap.size (.slice (some ⟨rb, roff, none⟩) rows.length rc), Loc.k2 (w.heap.size + 1) (.int .i64 0) (.int .i64 0), Loc.rdFF lo hi (.slice (some ⟨rb, roff, none⟩) rows.length rc) rows, Loc.rdF lo2 hi2 (.slice (some ⟨wb, woff, none⟩) wl.length wcap) wl, Loc.fr cb w.heap.size w] wx)
              case first =>
                have S : Mem [Loc.k2 w2.heap.size (.int .i64 d.n) (.int .i64 d.d), Loc.c2 wb (woff + m * 2) (.int .i64 (gt wl m).n) (.int .i64 (gt wl m).d)] wr := ⟨d1, ⟨f4, f5⟩, True.intro⟩
                clear d1 f4 f5
                go_region_held3 (fun W => K2 W w2.heap.size (.int .i64 d.n) (.int .i64 d.d) ∧ C2 W wb (woff + m * 2) (.int .i64 (gt wl m).n) (.int .i64 (gt wl m).d) ∧ True) (first | exact S | exact S.alloc _ | exact S.set2 (by (repeat' (first | exact True.intro | refine And.intro (fun k hk e => ?_) ?_)) <;> (first | exact e | ((try dsimp only [Loc.c1, Loc.c2, Loc.k1, Loc.k2, Loc.k6, Loc.rdF, Loc.rdFF, Loc.all2, Loc.fr, Loc.bl, Loc.own, Loc.sz] at hk e) <;> omega)))) ((go_at_call 49; refine (cmul_any d (gt wl m) cb false _ (by first | exact c1 | exact K1.alloc c1 _)).mono ?_; rintro e w4 ⟨rfl, hc4, ho4⟩; rw [HV.out.1, HV.out.2]; rw [HY.out] at hc4; replace M := Mem.off (by first | exact M.drew | exact (M.alloc _).drew) ho4 (by (repeat' (first | exact True.intro | refine And.intro (fun k hk e => ?_) ?_)) <;> (first | exact e | ((try dsimp only [Loc.c1, Loc.c2, Loc.k1, Loc.k2, Loc.k6, Loc.rdF, Loc.rdFF, Loc.all2, Loc.fr, Loc.bl, Loc.own, Loc.sz] at hk e) <;> omega))); replace S := Mem.off (by first | exact S.drew | exact (S.alloc _).drew) ho4 (by (repeat' (first | exact True.intro | refine And.intro (fun k hk e => ?_) ?_)) <;> (first | exact e | ((try dsimp only [Loc.c1, Loc.c2, Loc.k1, Loc.k2, Loc.k6, Loc.rdF, Loc.rdFF, Loc.all2, Loc.fr, Loc.bl, Loc.own, Loc.sz] at hk e) <;> omega))); replace s1 := K2.oft ho4 (by first | exact s1 | exact K2.alloc s1 _) (by omega); (first | have s0 := K2.oft ho4 (K2.newd wr (.int .i64 0) (.int .i64 0) 23) (by omega) | skip); have hs4 := ho4.size; (try simp at hs4); clear ho4))
                · go_wp2_with fail
                  go_meet
                  exact ⟨w4.heap.size, rfl, by omega, K1.alloc hc4 _, K2.new _ _ _ _, K2.alloc s1 _, M.alloc _⟩
                · go_wp2_with fail
                  go_meet
                  exact ⟨wr.heap.size, rfl, by omega, K1.far2 hc4 (by omega) _ _, K2.set s0 _ _, K2.far' s1 (by omega) _ _, M.set2 (by (repeat' (first | exact True.intro | refine And.intro (fun k hk e => ?_) ?_)) <;> (first | exact e | ((try dsimp only [Loc.c1, Loc.c2, Loc.k1, Loc.k2, Loc.k6, Loc.rdF, Loc.rdFF, Loc.all2, Loc.fr, Loc.bl, Loc.own, Loc.sz] at hk e) <;> omega)))⟩
              case rest =>
                clear M c1 s1 d1 f4 f5
                obtain ⟨yb, rfl, hyb, c1, y1, s1, M⟩ := hcut
                cases y with
                | true =>
                  have r1 := M.2.1
                  have HF := Lib.hid M.2.2.2.2.1.1
                  have HC := Lib.hid c1
                  clear M
                  go_wp2_with fail
                  refine (zero_any _).mono ?_
                  rintro e w9 ⟨rfl, hb9⟩
                  replace r1 := K2.aft hb9 r1
                  have HC9 := Lib.hid (K1.aft hb9 HC.out)
                  have HF9 := Lib.hid (Off.stepB HF.out hb9 (by omega))
                  clear hb9 c1
                  go_wp2_with fail
                  refine ret_B2 rfl rfl rfl (K2.set r1 _ _) (HR.out _ _ ⟨zeroF, true, rfl, K1.far2 HC9.out (by omega) _ _, ?_, HM2.out.big.bigE (i := 0) (s := zeroF)⟩)
                  have := HF9.out
                  (repeat (first | exact Off.refl _ _ _ | assumption | refine Off.setCell ?_ (by first | (left; first | omega | (simp; done) | (simp; omega)) | (right; rfl)) _ | refine Off.alloc ?_ (by first | omega | (simp; done) | (simp; omega)) _ | refine Off.drew ?_ | refine Off.drewN ?_ _))
                | false =>
                  obtain ⟨u, hu⟩ : ∃ u : Fr, (⟨(addE s v).n, (addE s v).d⟩ : Fr) = u := ⟨_, rfl⟩
                  obtain ⟨y2, hy2⟩ : ∃ y, (false || ((addE s v).e != 0)) = y := ⟨_, rfl⟩
                  have HI2 := Lib.hid (HM2.out.add (by omega) hy2 hu)
                  have HU := Lib.hid (show (addE s v).n = u.n ∧ (addE s v).d = u.d by rw [← hu]; exact ⟨rfl, rfl⟩)
                  have HY2 := Lib.hid hy2
                  clear hu hy2
                  go_wp2_with fail
                  refine (cadd_any s v cb false _ c1).mono ?_
                  rintro e w6 ⟨rfl, hc6, ho6⟩
                  rw [HU.out.1, HU.out.2]
                  rw [HY2.out] at hc6
                  replace M := M.off ho6 (by (repeat' (first | exact True.intro | refine And.intro (fun k hk e => ?_) ?_)) <;> (first | exact e | ((try dsimp only [Loc.c1, Loc.c2, Loc.k1, Loc.k2, Loc.k6, Loc.rdF, Loc.rdFF, Loc.all2, Loc.fr, Loc.bl, Loc.own, Loc.sz] at hk e) <;> omega)))
                  replace s1 := K2.oft ho6 s1 (by omega)
                  clear ho6
                  have HM6 := Lib.hid (M.set2 (g := w1.heap.size) (i := 0) (j := 1) (u := .int .i64 u.n) (v := .int .i64 u.d) (by (repeat' (first | exact True.intro | refine And.intro (fun k hk e => ?_) ?_)) <;> (first | exact e | ((try dsimp only [Loc.c1, Loc.c2, Loc.k1, Loc.k2, Loc.k6, Loc.rdF, Loc.rdFF, Loc.all2, Loc.fr, Loc.bl, Loc.own, Loc.sz] at hk e) <;> omega))))
                  have HS6 := Lib.hid (K2.set s1 (.int .i64 u.n) (.int .i64 u.d))
                  have HC6 := Lib.hid (K1.far2 hc6 (show cb ≠ w1.heap.size by omega) (.int .i64 u.n) (.int .i64 u.d))
                  clear M c1 hc6 y1
                  go_wp2_with fail
                  have hrel : ∃ (i' : Nat) (z' : Int) (s' : Fr) (x' : Bool), i' + n ≤ cp ∧ z' = (n : Int) + 1 + i' ∧ Value.int .i64 ((m : Int) + 1) = .int .i64 z' ∧ K1 ((w6.setCell ⟨w1.heap.size, 0, none⟩ (.int .i64 u.n)).setCell ⟨w1.heap.size, 1, none⟩ (.int .i64 u.d)) cb (.bool x') ∧ K2 ((w6.setCell ⟨w1.heap.size, 0, none⟩ (.int .i64 u.n)).setCell ⟨w1.heap.size, 1, none⟩ (.int .i64 u.d)) w1.heap.size (.int .i64 s'.n) (.int .i64 s'.d) ∧ Mem [Loc.k1 w.heap.size (.slice (some ⟨rb, roff, none⟩) rows.length rc), Loc.k2 (w.heap.size + 1) (.int .i64 0) (.int .i64 0), Loc.rdFF lo hi (.slice (some ⟨rb, roff, none⟩) rows.length rc) rows, Loc.rdF lo2 hi2 (.slice (some ⟨wb, woff, none⟩) wl.length wcap) wl, Loc.fr cb w.heap.size w] ((w6.setCell ⟨w1.heap.size, 0, none⟩ (.int .i64 u.n)).setCell ⟨w1.heap.size, 1, none⟩ (.int .i64 u.d)) ∧ RwI rows wl cp n i' s' x' := ⟨i + 1, (m : Int) + 1, u, y2, by omega, by omega, rfl, HC6.out, HS6.out, HM6.out, HI2.out⟩
                  go_roundw
                  case rel => first | exact hrel | ((repeat apply Exists.intro); exact ⟨hrel, rfl⟩)
                  case measure => first | (simp [intOf]; done) | (simp [intOf]; omega)
    · have him2 : i + n ≤ cp ∧ cp ≤ i + n := by omega
      obtain ⟨m, rfl⟩ : ∃ m : Nat, z = m := ⟨n + 1 + i, by omega⟩
      have hm : n + 1 + i ≤ m ∧ m ≤ n + 1 + i := by omega
      have HIE : Hid (i = cp - n) := Lib.hid (by omega)
      clear hz
      have hmd : decide ((m : Int) < (wl.length : Int)) = false := by simp; omega
      cases x with
      | true =>
        have r1 := M.2.1
        have HF := Lib.hid M.2.2.2.2.1.1
        have HC := Lib.hid c1
        clear M
        go_wp2_with fail
        refine (zero_any _).mono ?_
        rintro e w9 ⟨rfl, hb9⟩
        replace r1 := K2.aft hb9 r1
        have HC9 := Lib.hid (K1.aft hb9 HC.out)
        have HF9 := Lib.hid (Off.stepB HF.out hb9 (by omega))
        clear hb9 c1
        go_wp2_with fail
        refine ret_B2 rfl rfl rfl (K2.set r1 _ _) (HR.out _ _ ⟨zeroF, true, rfl, K1.far2 HC9.out (by omega) _ _, ?_, HI.out.bigE⟩)
        have := HF9.out
        (repeat (first | exact Off.refl _ _ _ | assumption | refine Off.setCell ?_ (by first | (left; first | omega | (simp; done) | (simp; omega)) | (right; rfl)) _ | refine Off.alloc ?_ (by first | omega | (simp; done) | (simp; omega)) _ | refine Off.drew ?_ | refine Off.drewN ?_ _))
      | false =>
        obtain ⟨lo3, hi3, A2, c2', f3, rf⟩ := RdFF.at2 M.2.2.1 (rw_get (rows := rows) (m := n) (by omega))
        have hmr : (rw' rows n).length = cp + 1 := HRR.out n _ (rw_get (by omega))
        obtain ⟨b2, off2, rfl, lo4, hi4, f4, f5⟩ := rf.at2 (gt_get (l := rw' rows n) (i := n + 1) (by omega))
        obtain ⟨v, hv⟩ : ∃ v : Fr, (⟨(divE s (gt (rw' rows n) (n + 1))).n, (divE s (gt (rw' rows n) (n + 1))).d⟩ : Fr) = v := ⟨_, rfl⟩
        obtain ⟨y, hy⟩ : ∃ y, (false || ((divE s (gt (rw' rows n) (n + 1))).e != 0)) = y := ⟨_, rfl⟩
        have HE : Hid (RwE rows wl cp n v y) := Lib.hid (RwI.div hr HWN.out hn (by rw [← HIE.out]; exact HI.out) hy hv)
        have HV := Lib.hid (show (divE s (gt (rw' rows n) (n + 1))).n = v.n ∧ (divE s (gt (rw' rows n) (n + 1))).d = v.d by rw [← hv]; exact ⟨rfl, rfl⟩)
        have HY := Lib.hid hy
        have hmb : (n : Int) < (rows.length : Int) := by omega
        have hkb : (n : Int) + 1 < ((rw' rows n).length : Int) := by omega
        have p1 := M.1
        have r1 := M.2.1
        have S : Mem [Loc.k2 w1.heap.size (.int .i64 s.n) (.int .i64 s.d), Loc.k1 w.heap.size (.slice (some ⟨rb, roff, none⟩) rows.length rc), Loc.c1 rb (roff + n) (.slice (some ⟨b2, off2, none⟩) (rw' rows n).length c2'), Loc.c2 b2 (off2 + (n + 1) * 2) (.int .i64 (gt (rw' rows n) (n + 1)).n) (.int .i64 (gt (rw' rows n) (n + 1)).d)] wr := ⟨s1, p1, f3, ⟨f4, f5⟩, True.intro⟩
        have HMR := Lib.hid hmr
        clear hv hy rf hmr f3 f4 f5 p1 s1
        have wn1 : IntKind.i64.wrap ((n : Int) + 1) = (n : Int) + 1 := by rw [IntKind.wrap_i64]; omega
        have tn1 : ((n : Int) + 1).toNat = n + 1 := by omega
        have zn1 : (0 : Int) ≤ (n : Int) + 1 := by omega
        have hrbn : rb ≠ w.heap.size + 1 ∧ b2 ≠ w.heap.size + 1 := by omega
        go_wp2_with fail
        go_region_held3 (fun W => K2 W w1.heap.size (.int .i64 s.n) (.int .i64 s.d) ∧ K1 W w.heap.size (.slice (some ⟨rb, roff, none⟩) rows.length rc) ∧ C1 W rb (roff + n) (.slice (some ⟨b2, off2, none⟩) (rw' rows n).length c2') ∧ C2 W b2 (off2 + (n + 1) * 2) (.int .i64 (gt (rw' rows n) (n + 1)).n) (.int .i64 (gt (rw' rows n) (n + 1)).d) ∧ True) (first | exact S | exact S.set2 (by (repeat' (first | exact True.intro | refine And.intro (fun k hk e => ?_) ?_)) <;> (first | exact e | ((try dsimp only [Loc.c1, Loc.c2, Loc.k1, Loc.k2, Loc.k6, Loc.rdF, Loc.rdFF, Loc.all2, Loc.fr, Loc.bl, Loc.own, Loc.sz] at hk e) <;> omega)))) ((go_at_call 45; refine (cdiv_any s (gt (rw' rows n) (n + 1)) cb false _ (by exact c1)).mono ?_; rintro e w6 ⟨rfl, hc6, ho6⟩; rw [HV.out.1, HV.out.2]; rw [HY.out] at hc6; clear wn1 tn1; replace M := M.drew.off ho6 (by (repeat' (first | exact True.intro | refine And.intro (fun k hk e => ?_) ?_)) <;> (first | exact e | ((try dsimp only [Loc.c1, Loc.c2, Loc.k1, Loc.k2, Loc.k6, Loc.rdF, Loc.rdFF, Loc.all2, Loc.fr, Loc.bl, Loc.own, Loc.sz] at hk e) <;> omega))); replace S := S.drew.off ho6 (by (repeat' (first | exact True.intro | refine And.intro (fun k hk e => ?_) ?_)) <;> (first | exact e | ((try dsimp only [Loc.c1, Loc.c2, Loc.k1, Loc.k2, Loc.k6, Loc.rdF, Loc.rdFF, Loc.all2, Loc.fr, Loc.bl, Loc.own, Loc.sz] at hk e) <;> omega))); replace r1 := K2.oft ho6 r1 (by omega); clear ho6))
        have HF := Lib.hid M.2.2.2.2.1.1
        have HC := Lib.hid hc6
        clear M S c1 hc6
        go_wp2_with fail
        refine ret_B2 rfl rfl rfl (K2.set r1 _ _) (HR.out _ _ ⟨v, y, rfl, K1.far2 HC.out (by omega) _ _, ?_, HE.out⟩)
        have := HF.out
        (repeat (first | exact Off.refl _ _ _ | assumption | refine Off.setCell ?_ (by first | (left; first | omega | (simp; done) | (simp; omega)) | (right; rfl)) _ | refine Off.alloc ?_ (by first | omega | (simp; done) | (simp; omega)) _ | refine Off.drew ?_ | refine Off.drewN ?_ _))

end Go.Proofs.Ythlgkomhnhkooaa
