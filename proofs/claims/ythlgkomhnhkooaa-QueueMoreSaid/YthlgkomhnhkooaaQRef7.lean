/-
  Walks of casebookref52: Stationary. Conditions: none.
-/
import Derived.Test.YthlgkomhnhkooaaQRef6
import Derived.Test.YthlgkomhnhkooaaQSpec10
import Derived.Deep.CutBlock
namespace Go.Proofs.Ythlgkomhnhkooaa
set_option linter.unusedSimpArgs false
set_option linter.unusedVariables false
open Go.RowKit

theorem rd_nil (w : World) (lo hi : Nat) : RdF w lo hi (.slice none 0 0) [] := ⟨rfl, none, 0, rfl, Nat.le_refl _, by simp, fun h => by simp at h⟩

set_option maxRecDepth 100000 in
set_option maxHeartbeats 8000000 in
theorem rStationary_any (ar se : Fr) (sv cp : Nat) (w : World) (hq : QOk ar se sv cp) :
    Calls Try.prog 13 #[.agg #[.int .i64 ar.n, .int .i64 ar.d, .int .i64 se.n, .int .i64 se.d, .int .i64 sv, .int .i64 cp]] w fun e w' =>
      ∃ v x r, e = .returned (.tuple #[v, .bool x]) ∧ Below w.heap.size w w' ∧ RdF w' w.heap.size w'.heap.size v r ∧ ((x = true ∧ r.length = cp + 1 ∧ (statQ ar se sv cp).map (·.1) = some r) ∨ (x = false ∧ r = [] ∧ statQ ar se sv cp = none)) := by
  have hv1 := hq.v1
  have hc1 := hq.c1
  have hc2 := hq.c2
  refine calls_cps fun R hR => ?_
  have HR := Lib.hid hR
  clear hR
  obtain ⟨i0, hi0, hz0, hz1', hz2'⟩ := info_parts (P := Try.prog) (e := 23) (z := .agg #[.int .i64 0, .int .i64 0]) (size := 2) (bytes := 16) (by kernel_rfl)
  have hmk := fun (w : World) => run_make (P := Try.prog) w 27 23 i0 _ Try.underlying27 hi0 hz0 .i64 .i64 ((cp : Int) + 1) ((cp : Int) + 1) (by omega) (by omega) (by rw [hz2']; omega) (by omega)
  simp only [show ((cp : Int) + 1).toNat = cp + 1 by omega, hz1'] at hmk
  go_enter Try.func13, Try.ntmps13
  go_wp2_with fail
  have M0 : Mem [Loc.k6 w.heap.size (.int .i64 ar.n) (.int .i64 ar.d) (.int .i64 se.n) (.int .i64 se.d) (.int .i64 sv) (.int .i64 cp), Loc.bl w.heap.size w] (w.alloc (.cells #[.int .i64 ar.n, .int .i64 ar.d, .int .i64 se.n, .int .i64 se.d, .int .i64 sv, .int .i64 cp] 25)) := ⟨K6.new w _ _ _ _ _ _ _, ⟨(Below.refl _ _).alloc (Nat.le_refl _) _, by simp⟩, True.intro⟩
  refine (rChain_any ar se sv cp _ hq).mono ?_
  rintro e w1 ⟨rV, x0, rows, rfl, hb1, rr1, hE⟩
  replace M0 := M0.below hb1
  have hz1 := hb1.size
  simp at hz1 rr1
  clear hb1
  obtain ⟨rA, rc, rfl, hrc, hrm⟩ := rr1.form
  have HRR := Lib.hid rr1
  clear rr1
  cases x0 with
  | false =>
    have hcn : chainL ar se sv cp (cp + 1) = none := by
      rcases hE with ⟨h, _⟩ | ⟨_, _, h⟩
      · cases h
      · exact h
    have hsn : statQ ar se sv cp = none := by
      rw [chainQ_L ar se hc1] at hcn
      exact statQ_none_chain (by simpa using hcn)
    have HSN := Lib.hid hsn
    have HB := Lib.hid M0.2.1.1
    clear hE hcn hsn M0
    go_wp2_with fail
    refine HR.out _ _ ⟨_, false, [], rfl, ?_, rd_nil _ _ _, .inr ⟨rfl, rfl, HSN.out⟩⟩
    have := HB.out
    (repeat (first | exact Below.refl _ _ | assumption | refine Below.setCell ?_ (by first | omega | (simp; done) | (simp; omega)) _ | refine Below.alloc ?_ (by first | omega | (simp; done) | (simp; omega)) _ | refine Below.drew ?_ | refine below_drewN ?_ _))
  | true =>
    have hcs : chainL ar se sv cp (cp + 1) = some rows := by
      rcases hE with ⟨_, h⟩ | ⟨h, _⟩
      · exact h
      · cases h
    rw [chainQ_L ar se hc1] at hcs
    obtain ⟨b, hcb⟩ : ∃ b, chainQ ar se sv cp = some (rows, b) := by
      cases h : chainQ ar se sv cp with
      | none => rw [h] at hcs; cases hcs
      | some p => rw [h] at hcs; injection hcs with hcs; exact ⟨p.2, by rw [← hcs]⟩
    have hr := chainQ_rows hq hcb
    have hnn := chainQ_nn hq hcb
    have HST := Lib.hid (statQ_L hcb)
    have hrl : rows.length = cp + 1 := hnn.1
    have HRL := Lib.hid hrl
    have HRI := Lib.hid (fun (i : Nat) (l : List Fr) (h : rows[i]? = some l) => (hnn.2.1 i l h).2.1)
    have hrl1 : cp + 1 ≤ rows.length ∧ rows.length ≤ cp + 1 := by omega
    clear hE hcs hcb hnn hrl
    have q0 := M0.1
    go_upto_region 6 with (fail)
    have M1 : Mem [Loc.k1 w1.heap.size (.slice rA rows.length rc), Loc.rdFF (w.heap.size + 1) w1.heap.size (.slice rA rows.length rc) rows, Loc.k6 w.heap.size (.int .i64 ar.n) (.int .i64 ar.d) (.int .i64 se.n) (.int .i64 se.d) (.int .i64 sv) (.int .i64 cp), Loc.bl w.heap.size w] (w1.alloc (.cells #[.slice rA rows.length rc] 42)) := ⟨K1.new _ _ _, (HRR.out.mono (by omega) (Nat.le_refl _)).after ((Below.refl _ _).alloc (Nat.le_refl _) _), M0.alloc _⟩
    have c0 := K1.new (w1.alloc (.cells #[.slice rA rows.length rc] 42)) (.bool false) 66
    have o0 := own_lit ((w1.alloc (.cells #[.slice rA rows.length rc] 42)).alloc (.cells #[.bool false] 66)) (madeCells #[.int .i64 0, .int .i64 0] ((cp + 1) * 2)) 23 (w1.heap.size + 1 + 1) 2 (cp + 1) (by rw [size_madeCells]) (by unfold maxLen; omega) (by simp)
    rw [made_flat] at o0
    simp only [World.size_alloc] at c0 o0
    replace c0 := K1.alloc c0 (.cells (madeCells #[.int .i64 0, .int .i64 0] ((cp + 1) * 2)) 23)
    replace M1 := (M1.alloc (.cells #[.bool false] 66)).alloc (.cells (madeCells #[.int .i64 0, .int .i64 0] ((cp + 1) * 2)) 23)
    clear M0 q0 HRR
    have hzW : w1.heap.size + 1 + 1 < (((w1.alloc (.cells #[.slice rA rows.length rc] 42)).alloc (.cells #[.bool false] 66)).alloc (.cells (madeCells #[.int .i64 0, .int .i64 0] ((cp + 1) * 2)) 23)).heap.size := by simp
    generalize ((w1.alloc (.cells #[.slice rA rows.length rc] 42)).alloc (.cells #[.bool false] 66)).alloc (.cells (madeCells #[.int .i64 0, .int .i64 0] ((cp + 1) * 2)) 23) = W at *
    have q0 := M1.2.2.1
    have hcpi : (cp : Int) < (cp : Int) + 1 := by omega
    have HO := Lib.hid o0
    clear o0 hmk
    refine wp_region_tail (S := (fun W => K6 W w.heap.size (.int .i64 ar.n) (.int .i64 ar.d) (.int .i64 se.n) (.int .i64 se.d) (.int .i64 sv) (.int .i64 cp))) (by kernel_rfl) rfl (by kernel_rfl) (by exact q0) (fun hHeld => ?_)
    simp only [List.dropLast]
    refine wpAnyH_take (i := 0) (oi := _) (v := ?_) rfl (by kernel_rfl) (by kernel_rfl) (by kernel_rfl) (fun _ _ _ h => h) (Or.inl ⟨by rfl, ?_⟩) (by assumption) ?_
    rotate_left
    · (intro w hSw; (try dsimp only at hSw); go_simp; try (with_reducible rfl))
    simp only [Act.put, List.setIfInBounds_toArray, List.set_cons_zero, List.set_cons_succ]
    refine wpAnyH_take (i := 1) (oi := _) (v := ?_) rfl (by kernel_rfl) (by kernel_rfl) (by kernel_rfl) (fun _ _ _ h => h) (Or.inl ⟨by rfl, ?_⟩) (by assumption) ?_
    rotate_left
    · (intro w hSw; (try dsimp only at hSw); go_simp; try (with_reducible rfl))
    simp only [Act.put, List.setIfInBounds_toArray, List.set_cons_zero, List.set_cons_succ]
    refine wpAnyH_take (i := 2) (oi := _) (v := ?_) rfl (by kernel_rfl) (by kernel_rfl) (by kernel_rfl) (fun _ _ _ h => h) (Or.inl ⟨by rfl, ?_⟩) (by assumption) ?_
    rotate_left
    · (intro w hSw; (try dsimp only at hSw); go_simp; try (with_reducible rfl))
    simp only [Act.put, List.setIfInBounds_toArray, List.set_cons_zero, List.set_cons_succ]
    refine wpAnyH_ready (rs := [3]) (by kernel_rfl) (by simp) ?_
    refine AllReadyH.cons (o := _) rfl (fun K hK => ?_) AllReadyH.nil
    go_simp
    refine (one_any _).mono ?_; rintro e w3 ⟨rfl, hb3⟩; replace M1 := M1.drew.below hb3; replace c0 := K1.aft hb3 c0; replace HO := Lib.hid (own_below (w := W.drew) (by exact HO.out) hb3); replace q0 := K6.aft hb3 q0; clear hb3
    (try go_wp2_with fail)
    refine hK.out _ _ ?_ (fun hHeld => ?_)
    · exact q0
    clear hK K
    try simp only [Act.put, List.setIfInBounds_toArray, List.set_cons_zero, List.set_cons_succ]
    refine wpAnyH_take (i := 4) (oi := _) (v := ?_) rfl (by kernel_rfl) (by kernel_rfl) (by kernel_rfl) (fun _ _ _ h => h) (Or.inl ⟨by rfl, ?_⟩) (by assumption) ?_
    rotate_left
    · (intro w hSw; (try dsimp only at hSw); go_simp; try (with_reducible rfl))
    simp only [Act.put, List.setIfInBounds_toArray, List.set_cons_zero, List.set_cons_succ]
    refine wpAnyH_done (by kernel_rfl) ?_ _
    unfold thenLast
    simp only [Exit.then]
    obtain ⟨e1, e2, e3, e4, e5, e6⟩ := own_at HO.out (i := cp) (a := ⟨0, 0⟩) (by simp)
    have HM := Lib.hid (M1.set2 (g := w1.heap.size + 1 + 1) (i := cp * 2) (j := cp * 2 + 1) (u := .int .i64 1) (v := .int .i64 1) (by (repeat' (first | exact True.intro | refine And.intro (fun k hk e => ?_) ?_)) <;> (first | exact e | ((try dsimp only [Loc.c1, Loc.c2, Loc.k1, Loc.k2, Loc.k6, Loc.rdF, Loc.rdFF, Loc.all2, Loc.fr, Loc.bl, Loc.own, Loc.sz] at hk e) <;> omega))))
    have HO1 := Lib.hid (own_set HO.out (i := cp) (by simp) oneF)
    have HC := Lib.hid (K1.far (K1.far c0 (show w1.heap.size + 1 ≠ w1.heap.size + 1 + 1 by omega) (o := cp * 2) (.int .i64 1)) (show w1.heap.size + 1 ≠ w1.heap.size + 1 + 1 by omega) (o := cp * 2 + 1) (.int .i64 1))
    clear M1 c0 HO
    go_upto_block 0 with (fail)
    go_cut [8] (fun _ wx => ∃ (wl : List Fr) (x : Bool), wl.length = cp + 1 ∧ K1 wx (w1.heap.size + 1) (.bool x) ∧ wx.ownsRow (w1.heap.size + 1 + 1) 23 2 (.slice (some ⟨w1.heap.size + 1 + 1, 0, none⟩) (cp + 1) (cp + 1)) (cp + 1) (flat wl) ∧ Mem [Loc.k1 w1.heap.size (.slice rA rows.length rc), Loc.rdFF (w.heap.size + 1) w1.heap.size (.slice rA rows.length rc) rows, Loc.k6 w.heap.size (.int .i64 ar.n) (.int .i64 ar.d) (.int .i64 se.n) (.int .i64 se.d) (.int .i64 sv) (.int .i64 cp), Loc.bl w.heap.size w] wx ∧ RsT rows cp wl 0 zeroF x)
    case first =>
      go_wp2_with fail
      go_loopw [8] (fun v8 wr => ∃ (t : Nat) (z : Int) (wl : List Fr) (x : Bool), t ≤ cp ∧ z = (cp : Int) - 1 - t ∧ v8 = .int .i64 z ∧ K1 wr (w1.heap.size + 1) (.bool x) ∧ wr.ownsRow (w1.heap.size + 1 + 1) 23 2 (.slice (some ⟨w1.heap.size + 1 + 1, 0, none⟩) (cp + 1) (cp + 1)) (cp + 1) (flat wl) ∧ Mem [Loc.k1 w1.heap.size (.slice rA rows.length rc), Loc.rdFF (w.heap.size + 1) w1.heap.size (.slice rA rows.length rc) rows, Loc.k6 w.heap.size (.int .i64 ar.n) (.int .i64 ar.d) (.int .i64 se.n) (.int .i64 se.d) (.int .i64 sv) (.int .i64 cp), Loc.bl w.heap.size w] wr ∧ RsW rows cp t wl x) (fun v8 _ => (intOf v8 + 1).toNat)
      case atStart => exact ⟨0, _, _, false, by omega, by omega, rfl, HC.out, HO1.out, HM.out, RsW.start⟩
      case round =>
        clear HM HO1 HC e1 e2 e3 e4 e5 e6 q0
        obtain ⟨t, z, wl, x, ht, hz, rfl, c1, hown, M, hI⟩ := hrel
        have HI := Lib.hid hI
        have HO := Lib.hid hown
        clear hI hown
        by_cases htc : t < cp
        · obtain ⟨n, rfl⟩ : ∃ n : Nat, z = n := ⟨cp - 1 - t, by omega⟩
          have hnt : n + 1 + t ≤ cp ∧ cp ≤ n + 1 + t := by omega
          have HN : Hid (cp - 1 - t = n) := Lib.hid (by omega)
          clear hz
          have hge : decide ((0 : Int) ≤ (n : Int)) = true := by simp
          cases x with
          | true =>
            go_wp2_with fail
            go_meet
            exact ⟨wl, true, HI.out.1, c1, HO.out, M, .inr ⟨rfl, HI.out.big⟩⟩
          | false =>
            have p1 := M.1
            have hwl : wl.length = cp + 1 := HI.out.1
            have rf : RdF wr (w1.heap.size + 1 + 1) wr.heap.size (.slice (some ⟨w1.heap.size + 1 + 1, 0, none⟩) (cp + 1) (cp + 1)) wl := own_rdF HO.out hwl
            have HWL := Lib.hid hwl
            clear hwl
            go_wp2_with fail
            refine (rweight_any rows wl cp n (w1.heap.size + 1) _ _ _ _ _ _ _ c1 M.2.1 rf (by omega) (by have := c1.2.2; omega) hr (by rw [← HN.out]; exact HI.out.nn hr htc) HRL.out HRI.out HWL.out (by omega) (by omega)).mono ?_
            rintro e w6 ⟨v, y, rfl, hc6, ho6, hE⟩
            replace M := M.off ho6 (by (repeat' (first | exact True.intro | refine And.intro (fun k hk e => ?_) ?_)) <;> (first | exact e | ((try dsimp only [Loc.c1, Loc.c2, Loc.k1, Loc.k2, Loc.k6, Loc.rdF, Loc.rdFF, Loc.all2, Loc.fr, Loc.bl, Loc.own, Loc.sz] at hk e) <;> omega)))
            replace HO := Lib.hid (own_off HO.out ho6 (by omega))
            have HI2 := Lib.hid (HI.out.step htc (by rw [HN.out]; exact hE))
            obtain ⟨e1, e2, e3, e4, e5, e6⟩ := own_at HO.out (gt_get (l := wl) (i := n) (by rw [HWL.out]; omega))
            have HM6 := Lib.hid (M.set2 (g := w1.heap.size + 1 + 1) (i := n * 2) (j := n * 2 + 1) (u := .int .i64 v.n) (v := .int .i64 v.d) (by (repeat' (first | exact True.intro | refine And.intro (fun k hk e => ?_) ?_)) <;> (first | exact e | ((try dsimp only [Loc.c1, Loc.c2, Loc.k1, Loc.k2, Loc.k6, Loc.rdF, Loc.rdFF, Loc.all2, Loc.fr, Loc.bl, Loc.own, Loc.sz] at hk e) <;> omega))))
            have HO6 := Lib.hid (own_set HO.out (i := n) (by rw [HWL.out]; omega) v)
            have HC6 := Lib.hid (K1.far (K1.far hc6 (show w1.heap.size + 1 ≠ w1.heap.size + 1 + 1 by omega) (o := n * 2) (.int .i64 v.n)) (show w1.heap.size + 1 ≠ w1.heap.size + 1 + 1 by omega) (o := n * 2 + 1) (.int .i64 v.d))
            have hnb : (n : Int) < (cp : Int) + 1 := by omega
            clear M HO hc6 ho6 hE rf p1 c1
            go_wp2_with fail
            go_roundw
            case rel =>
              have hI3 := HI2.out
              rw [HN.out] at hI3
              have hrel : ∃ (t' : Nat) (z' : Int) (wl' : List Fr) (x' : Bool), t' ≤ cp ∧ z' = (cp : Int) - 1 - t' ∧ Value.int .i64 ((n : Int) - 1) = .int .i64 z' ∧ K1 ((w6.setCell ⟨w1.heap.size + 1 + 1, n * 2, none⟩ (.int .i64 v.n)).setCell ⟨w1.heap.size + 1 + 1, n * 2 + 1, none⟩ (.int .i64 v.d)) (w1.heap.size + 1) (.bool x') ∧ ((w6.setCell ⟨w1.heap.size + 1 + 1, n * 2, none⟩ (.int .i64 v.n)).setCell ⟨w1.heap.size + 1 + 1, n * 2 + 1, none⟩ (.int .i64 v.d)).ownsRow (w1.heap.size + 1 + 1) 23 2 (.slice (some ⟨w1.heap.size + 1 + 1, 0, none⟩) (cp + 1) (cp + 1)) (cp + 1) (flat wl') ∧ Mem [Loc.k1 w1.heap.size (.slice rA rows.length rc), Loc.rdFF (w.heap.size + 1) w1.heap.size (.slice rA rows.length rc) rows, Loc.k6 w.heap.size (.int .i64 ar.n) (.int .i64 ar.d) (.int .i64 se.n) (.int .i64 se.d) (.int .i64 sv) (.int .i64 cp), Loc.bl w.heap.size w] ((w6.setCell ⟨w1.heap.size + 1 + 1, n * 2, none⟩ (.int .i64 v.n)).setCell ⟨w1.heap.size + 1 + 1, n * 2 + 1, none⟩ (.int .i64 v.d)) ∧ RsW rows cp t' wl' x' := ⟨t + 1, (n : Int) - 1, _, y, by omega, by omega, rfl, HC6.out, HO6.out, HM6.out, hI3⟩
              first | exact hrel | ((repeat apply Exists.intro); exact ⟨hrel, rfl⟩)
            case measure => first | (simp [intOf]; done) | (simp [intOf]; omega)
        · obtain rfl : cp = t := by omega
          obtain rfl : z = -1 := by omega
          clear hz
          go_wp2_with fail
          go_meet
          exact ⟨wl, x, HI.out.1, c1, HO.out, M, HI.out.tot hr⟩
    case rest =>
      clear HM HO1 HC e1 e2 e3 e4 e5 e6 q0
      obtain ⟨wl, x, hwl, c1, hown, M, hT⟩ := hcut
      have HT := Lib.hid hT
      have HWL := Lib.hid hwl
      have HO := Lib.hid hown
      clear hT hwl hown
      go_wp2_with fail
      refine (zero_any _).mono ?_
      rintro e w4 ⟨rfl, hb4⟩
      replace M := (M.below hb4).alloc (.cells #[.int .i64 0, .int .i64 1] 23)
      replace c1 := K1.alloc (K1.aft hb4 c1) (.cells #[.int .i64 0, .int .i64 1] 23)
      have hz4 : w1.heap.size + 1 + 1 < w4.heap.size := ((own_below HO.out hb4).lt _ rfl).2
      replace HO := Lib.hid ((own_below HO.out hb4).alloc (.cells #[.int .i64 0, .int .i64 1] 23))
      have s1 := K2.new w4 (.int .i64 0) (.int .i64 1) 23
      clear hb4
      go_upto_block 2 with (fail)
      go_cut [10] (fun _ wx => ∃ (tot : Fr) (x : Bool), K1 wx (w1.heap.size + 1) (.bool x) ∧ wx.ownsRow (w1.heap.size + 1 + 1) 23 2 (.slice (some ⟨w1.heap.size + 1 + 1, 0, none⟩) (cp + 1) (cp + 1)) (cp + 1) (flat wl) ∧ K2 wx w4.heap.size (.int .i64 tot.n) (.int .i64 tot.d) ∧ Mem [Loc.k1 w1.heap.size (.slice rA rows.length rc), Loc.rdFF (w.heap.size + 1) w1.heap.size (.slice rA rows.length rc) rows, Loc.k6 w.heap.size (.int .i64 ar.n) (.int .i64 ar.d) (.int .i64 se.n) (.int .i64 se.d) (.int .i64 sv) (.int .i64 cp), Loc.bl w.heap.size w] wx ∧ RsV rows cp wl tot 0 wl x)
      case first =>
        go_wp2_with fail
        go_loopw [10] (fun v10 wr => ∃ (k : Nat) (tot : Fr) (x : Bool), k ≤ cp + 1 ∧ v10 = .int .i64 k ∧ K1 wr (w1.heap.size + 1) (.bool x) ∧ wr.ownsRow (w1.heap.size + 1 + 1) 23 2 (.slice (some ⟨w1.heap.size + 1 + 1, 0, none⟩) (cp + 1) (cp + 1)) (cp + 1) (flat wl) ∧ K2 wr w4.heap.size (.int .i64 tot.n) (.int .i64 tot.d) ∧ Mem [Loc.k1 w1.heap.size (.slice rA rows.length rc), Loc.rdFF (w.heap.size + 1) w1.heap.size (.slice rA rows.length rc) rows, Loc.k6 w.heap.size (.int .i64 ar.n) (.int .i64 ar.d) (.int .i64 se.n) (.int .i64 se.d) (.int .i64 sv) (.int .i64 cp), Loc.bl w.heap.size w] wr ∧ RsT rows cp wl k tot x) (fun v10 _ => cp + 1 - (intOf v10).toNat)
        case atStart => exact ⟨0, zeroF, x, by omega, rfl, c1, HO.out, s1, M, HT.out⟩
        case round =>
          clear M c1 s1 HO HT
          obtain ⟨k, tot, x, hk, rfl, c1, hown, s1, M, hT⟩ := hrel
          have HT := Lib.hid hT
          have HO := Lib.hid hown
          clear hT hown
          by_cases hkc : k ≤ cp
          · have hki : decide ((k : Int) < (cp : Int) + 1) = true := by simp; omega
            cases x with
            | true =>
              go_wp2_with fail
              go_meet
              exact ⟨tot, true, c1, HO.out, s1, M, HWL.out, .inr ⟨rfl, HT.out.big⟩⟩
            | false =>
              obtain ⟨v, hv⟩ : ∃ v : Fr, (⟨(addE tot (gt wl k)).n, (addE tot (gt wl k)).d⟩ : Fr) = v := ⟨_, rfl⟩
              obtain ⟨y, hy⟩ : ∃ y, (false || ((addE tot (gt wl k)).e != 0)) = y := ⟨_, rfl⟩
              have HT2 := Lib.hid (HT.out.step hr hkc hy hv)
              have HV := Lib.hid (show (addE tot (gt wl k)).n = v.n ∧ (addE tot (gt wl k)).d = v.d by rw [← hv]; exact ⟨rfl, rfl⟩)
              have HY := Lib.hid hy
              obtain ⟨f1, f2, _, _, _, _⟩ := own_at HO.out (gt_get (l := wl) (i := k) (by rw [HWL.out]; omega))
              have hkb : (k : Int) < (cp : Int) + 1 := by omega
              have S : Mem [Loc.k2 w4.heap.size (.int .i64 tot.n) (.int .i64 tot.d), Loc.c2 (w1.heap.size + 1 + 1) (k * 2) (.int .i64 (gt wl k).n) (.int .i64 (gt wl k).d)] wr := ⟨s1, ⟨f1, f2⟩, True.intro⟩
              clear hv hy f1 f2 s1
              go_upto_region 15 with (fail)
              refine wp_region_tail (S := (fun W => K2 W w4.heap.size (.int .i64 tot.n) (.int .i64 tot.d) ∧ C2 W (w1.heap.size + 1 + 1) (k * 2) (.int .i64 (gt wl k).n) (.int .i64 (gt wl k).d) ∧ True)) (by kernel_rfl) rfl (by kernel_rfl) (by exact S) (fun hHeld => ?_)
              simp only [List.dropLast]
              refine wpAnyH_take (i := 0) (oi := _) (v := ?_) rfl (by kernel_rfl) (by kernel_rfl) (by kernel_rfl) (fun _ _ _ h => h) (Or.inl ⟨by rfl, ?_⟩) (by assumption) ?_
              rotate_left
              · (intro w hSw; (try dsimp only at hSw); go_simp; try (with_reducible rfl))
              simp only [Act.put, List.setIfInBounds_toArray, List.set_cons_zero, List.set_cons_succ]
              refine wpAnyH_take (i := 1) (oi := _) (v := ?_) rfl (by kernel_rfl) (by kernel_rfl) (by kernel_rfl) (fun _ _ _ h => h) (Or.inl ⟨by rfl, ?_⟩) (by assumption) ?_
              rotate_left
              · (intro w hSw; (try dsimp only at hSw); go_simp; try (with_reducible rfl))
              simp only [Act.put, List.setIfInBounds_toArray, List.set_cons_zero, List.set_cons_succ]
              refine wpAnyH_take (i := 2) (oi := _) (v := ?_) rfl (by kernel_rfl) (by kernel_rfl) (by kernel_rfl) (fun _ _ _ h => h) (Or.inl ⟨by rfl, ?_⟩) (by assumption) ?_
              rotate_left
              · (intro w hSw; (try dsimp only at hSw); go_simp; try (with_reducible rfl))
              simp only [Act.put, List.setIfInBounds_toArray, List.set_cons_zero, List.set_cons_succ]
              refine wpAnyH_take (i := 3) (oi := _) (v := ?_) rfl (by kernel_rfl) (by kernel_rfl) (by kernel_rfl) (fun _ _ _ h => h) (Or.inl ⟨by rfl, ?_⟩) (by assumption) ?_
              rotate_left
              · (intro w hSw; (try dsimp only at hSw); go_simp; try (with_reducible rfl))
              simp only [Act.put, List.setIfInBounds_toArray, List.set_cons_zero, List.set_cons_succ]
              refine wpAnyH_take (i := 4) (oi := _) (v := ?_) rfl (by kernel_rfl) (by kernel_rfl) (by kernel_rfl) (fun _ _ _ h => h) (Or.inl ⟨by rfl, ?_⟩) (by assumption) ?_
              rotate_left
              · (intro w hSw; (try dsimp only at hSw); go_simp; try (with_reducible rfl))
              simp only [Act.put, List.setIfInBounds_toArray, List.set_cons_zero, List.set_cons_succ]
              refine wpAnyH_ready (rs := [5]) (by kernel_rfl) (by simp) ?_
              refine AllReadyH.cons (o := _) rfl (fun K hK => ?_) AllReadyH.nil
              go_simp
              refine (cadd_any tot (gt wl k) (w1.heap.size + 1) false _ (by exact c1)).mono ?_; rintro e w6 ⟨rfl, hc6, ho6⟩; rw [HV.out.1, HV.out.2]; rw [HY.out] at hc6; replace M := M.drew.off ho6 (by (repeat' (first | exact True.intro | refine And.intro (fun k hk e => ?_) ?_)) <;> (first | exact e | ((try dsimp only [Loc.c1, Loc.c2, Loc.k1, Loc.k2, Loc.k6, Loc.rdF, Loc.rdFF, Loc.all2, Loc.fr, Loc.bl, Loc.own, Loc.sz] at hk e) <;> omega))); replace S := S.drew.off ho6 (by (repeat' (first | exact True.intro | refine And.intro (fun k hk e => ?_) ?_)) <;> (first | exact e | ((try dsimp only [Loc.c1, Loc.c2, Loc.k1, Loc.k2, Loc.k6, Loc.rdF, Loc.rdFF, Loc.all2, Loc.fr, Loc.bl, Loc.own, Loc.sz] at hk e) <;> omega))); replace HO := Lib.hid (own_off (w := wr.drew) (by exact HO.out) ho6 (by omega)); clear ho6
              (try go_wp2_with fail)
              refine hK.out _ _ ?_ (fun hHeld => ?_)
              · exact S
              clear hK K
              try simp only [Act.put, List.setIfInBounds_toArray, List.set_cons_zero, List.set_cons_succ]
              refine wpAnyH_done (by kernel_rfl) ?_ _
              unfold thenLast
              simp only [Exit.then]
              have s6 := S.1
              have HM6 := Lib.hid (M.set2 (g := w4.heap.size) (i := 0) (j := 1) (u := .int .i64 v.n) (v := .int .i64 v.d) (by (repeat' (first | exact True.intro | refine And.intro (fun k hk e => ?_) ?_)) <;> (first | exact e | ((try dsimp only [Loc.c1, Loc.c2, Loc.k1, Loc.k2, Loc.k6, Loc.rdF, Loc.rdFF, Loc.all2, Loc.fr, Loc.bl, Loc.own, Loc.sz] at hk e) <;> omega))))
              have HS6 := Lib.hid (K2.set s6 (.int .i64 v.n) (.int .i64 v.d))
              have HC6 := Lib.hid (K1.far2 hc6 (show w1.heap.size + 1 ≠ w4.heap.size by omega) (.int .i64 v.n) (.int .i64 v.d))
              have HO6 := Lib.hid (own_far2 (b := w4.heap.size) (i := 0) (j := 1) (u := .int .i64 v.n) (v := .int .i64 v.d) HO.out (by omega))
              clear M S HO hc6 c1
              go_wp2_with fail
              go_roundw
              case rel =>
                have hrel : ∃ (k' : Nat) (tot' : Fr) (x' : Bool), k' ≤ cp + 1 ∧ Value.int .i64 ((k : Int) + 1) = .int .i64 k' ∧ K1 ((w6.setCell ⟨w4.heap.size, 0, none⟩ (.int .i64 v.n)).setCell ⟨w4.heap.size, 1, none⟩ (.int .i64 v.d)) (w1.heap.size + 1) (.bool x') ∧ ((w6.setCell ⟨w4.heap.size, 0, none⟩ (.int .i64 v.n)).setCell ⟨w4.heap.size, 1, none⟩ (.int .i64 v.d)).ownsRow (w1.heap.size + 1 + 1) 23 2 (.slice (some ⟨w1.heap.size + 1 + 1, 0, none⟩) (cp + 1) (cp + 1)) (cp + 1) (flat wl) ∧ K2 ((w6.setCell ⟨w4.heap.size, 0, none⟩ (.int .i64 v.n)).setCell ⟨w4.heap.size, 1, none⟩ (.int .i64 v.d)) w4.heap.size (.int .i64 tot'.n) (.int .i64 tot'.d) ∧ Mem [Loc.k1 w1.heap.size (.slice rA rows.length rc), Loc.rdFF (w.heap.size + 1) w1.heap.size (.slice rA rows.length rc) rows, Loc.k6 w.heap.size (.int .i64 ar.n) (.int .i64 ar.d) (.int .i64 se.n) (.int .i64 se.d) (.int .i64 sv) (.int .i64 cp), Loc.bl w.heap.size w] ((w6.setCell ⟨w4.heap.size, 0, none⟩ (.int .i64 v.n)).setCell ⟨w4.heap.size, 1, none⟩ (.int .i64 v.d)) ∧ RsT rows cp wl k' tot' x' := ⟨k + 1, v, y, by omega, by go_num, HC6.out, HO6.out, HS6.out, HM6.out, HT2.out⟩
                first | exact hrel | ((repeat apply Exists.intro); exact ⟨hrel, rfl⟩)
              case measure => first | (simp [intOf]; done) | (simp [intOf]; omega)
          · have hki : decide ((k : Int) < (cp : Int) + 1) = false := by simp; omega
            obtain rfl : k = cp + 1 := by omega
            go_wp2_with fail
            go_meet
            exact ⟨tot, x, c1, HO.out, s1, M, HT.out.div HWL.out⟩
      case rest =>
        clear M c1 s1 HO HT
        obtain ⟨tot, x, c1, hown, s1, M, hV⟩ := hcut
        have HV0 := Lib.hid hV
        have HO := Lib.hid hown
        clear hV hown
        have hbig : statL rows cp = none → ∀ W : World, Mem [Loc.k1 w1.heap.size (.slice rA rows.length rc), Loc.rdFF (w.heap.size + 1) w1.heap.size (.slice rA rows.length rc) rows, Loc.k6 w.heap.size (.int .i64 ar.n) (.int .i64 ar.d) (.int .i64 se.n) (.int .i64 se.d) (.int .i64 sv) (.int .i64 cp), Loc.bl w.heap.size w] W → R (.returned (.tuple #[.slice none 0 0, .bool false])) W := by
          intro hno W hM
          refine HR.out _ _ ⟨_, false, [], rfl, hM.2.2.2.1.1, rd_nil _ _ _, .inr ⟨rfl, rfl, ?_⟩⟩
          have := HST.out
          rw [hno] at this
          simpa using this
        have HBIG := Lib.hid hbig
        clear hbig
        go_wp2
        go_loopw [11] (fun v11 wr => ∃ (i : Nat) (r : List Fr) (x : Bool), i ≤ cp + 1 ∧ v11 = .int .i64 i ∧ K1 wr (w1.heap.size + 1) (.bool x) ∧ wr.ownsRow (w1.heap.size + 1 + 1) 23 2 (.slice (some ⟨w1.heap.size + 1 + 1, 0, none⟩) (cp + 1) (cp + 1)) (cp + 1) (flat r) ∧ K2 wr w4.heap.size (.int .i64 tot.n) (.int .i64 tot.d) ∧ Mem [Loc.k1 w1.heap.size (.slice rA rows.length rc), Loc.rdFF (w.heap.size + 1) w1.heap.size (.slice rA rows.length rc) rows, Loc.k6 w.heap.size (.int .i64 ar.n) (.int .i64 ar.d) (.int .i64 se.n) (.int .i64 se.d) (.int .i64 sv) (.int .i64 cp), Loc.bl w.heap.size w] wr ∧ RsV rows cp wl tot i r x) (fun v11 _ => cp + 1 - (intOf v11).toNat)
        case atStart => exact ⟨0, wl, x, by omega, rfl, c1, HO.out, s1, M, HV0.out⟩
        case round =>
          clear M c1 s1 HO HV0
          obtain ⟨i, r, x, hi, rfl, c1, hown, s1, M, hV⟩ := hrel
          have HV0 := Lib.hid hV
          have HO := Lib.hid hown
          clear hV hown
          by_cases hic : i ≤ cp
          · have hki : decide ((i : Int) < (cp : Int) + 1) = true := by simp; omega
            cases x with
            | true =>
              have HM := Lib.hid M
              clear M
              go_wp2_with fail
              exact HBIG.out HV0.out.big _ HM.out
            | false =>
              obtain ⟨v, hv⟩ : ∃ v : Fr, (⟨(divE (gt r i) tot).n, (divE (gt r i) tot).d⟩ : Fr) = v := ⟨_, rfl⟩
              obtain ⟨y, hy⟩ : ∃ y, (false || ((divE (gt r i) tot).e != 0)) = y := ⟨_, rfl⟩
              have HT2 := Lib.hid (HV0.out.step hr hic hy hv)
              have HV := Lib.hid (show (divE (gt r i) tot).n = v.n ∧ (divE (gt r i) tot).d = v.d by rw [← hv]; exact ⟨rfl, rfl⟩)
              have HY := Lib.hid hy
              have hrl2 : r.length = cp + 1 := HV0.out.1
              have HR2 := Lib.hid hrl2
              clear hrl2
              obtain ⟨f1, f2, _, _, _, _⟩ := own_at HO.out (gt_get (l := r) (i := i) (by rw [HR2.out]; omega))
              have hkb : (i : Int) < (cp : Int) + 1 := by omega
              have S : Mem [Loc.k2 w4.heap.size (.int .i64 tot.n) (.int .i64 tot.d), Loc.c2 (w1.heap.size + 1 + 1) (i * 2) (.int .i64 (gt r i).n) (.int .i64 (gt r i).d)] wr := ⟨s1, ⟨f1, f2⟩, True.intro⟩
              clear hv hy f1 f2 s1
              go_upto_region 19 with (fail)
              refine wp_region_tail (S := (fun W => K2 W w4.heap.size (.int .i64 tot.n) (.int .i64 tot.d) ∧ C2 W (w1.heap.size + 1 + 1) (i * 2) (.int .i64 (gt r i).n) (.int .i64 (gt r i).d) ∧ True)) (by kernel_rfl) rfl (by kernel_rfl) (by exact S) (fun hHeld => ?_)
              simp only [List.dropLast]
              refine wpAnyH_take (i := 0) (oi := _) (v := ?_) rfl (by kernel_rfl) (by kernel_rfl) (by kernel_rfl) (fun _ _ _ h => h) (Or.inl ⟨by rfl, ?_⟩) (by assumption) ?_
              rotate_left
              · (intro w hSw; (try dsimp only at hSw); go_simp; try (with_reducible rfl))
              simp only [Act.put, List.setIfInBounds_toArray, List.set_cons_zero, List.set_cons_succ]
              refine wpAnyH_take (i := 1) (oi := _) (v := ?_) rfl (by kernel_rfl) (by kernel_rfl) (by kernel_rfl) (fun _ _ _ h => h) (Or.inl ⟨by rfl, ?_⟩) (by assumption) ?_
              rotate_left
              · (intro w hSw; (try dsimp only at hSw); go_simp; try (with_reducible rfl))
              simp only [Act.put, List.setIfInBounds_toArray, List.set_cons_zero, List.set_cons_succ]
              refine wpAnyH_take (i := 2) (oi := _) (v := ?_) rfl (by kernel_rfl) (by kernel_rfl) (by kernel_rfl) (fun _ _ _ h => h) (Or.inl ⟨by rfl, ?_⟩) (by assumption) ?_
              rotate_left
              · (intro w hSw; (try dsimp only at hSw); go_simp; try (with_reducible rfl))
              simp only [Act.put, List.setIfInBounds_toArray, List.set_cons_zero, List.set_cons_succ]
              refine wpAnyH_take (i := 3) (oi := _) (v := ?_) rfl (by kernel_rfl) (by kernel_rfl) (by kernel_rfl) (fun _ _ _ h => h) (Or.inl ⟨by rfl, ?_⟩) (by assumption) ?_
              rotate_left
              · (intro w hSw; (try dsimp only at hSw); go_simp; try (with_reducible rfl))
              simp only [Act.put, List.setIfInBounds_toArray, List.set_cons_zero, List.set_cons_succ]
              refine wpAnyH_take (i := 4) (oi := _) (v := ?_) rfl (by kernel_rfl) (by kernel_rfl) (by kernel_rfl) (fun _ _ _ h => h) (Or.inl ⟨by rfl, ?_⟩) (by assumption) ?_
              rotate_left
              · (intro w hSw; (try dsimp only at hSw); go_simp; try (with_reducible rfl))
              simp only [Act.put, List.setIfInBounds_toArray, List.set_cons_zero, List.set_cons_succ]
              refine wpAnyH_take (i := 5) (oi := _) (v := ?_) rfl (by kernel_rfl) (by kernel_rfl) (by kernel_rfl) (fun _ _ _ h => h) (Or.inl ⟨by rfl, ?_⟩) (by assumption) ?_
              rotate_left
              · (intro w hSw; (try dsimp only at hSw); go_simp; try (with_reducible rfl))
              simp only [Act.put, List.setIfInBounds_toArray, List.set_cons_zero, List.set_cons_succ]
              refine wpAnyH_take (i := 6) (oi := _) (v := ?_) rfl (by kernel_rfl) (by kernel_rfl) (by kernel_rfl) (fun _ _ _ h => h) (Or.inl ⟨by rfl, ?_⟩) (by assumption) ?_
              rotate_left
              · (intro w hSw; (try dsimp only at hSw); go_simp; try (with_reducible rfl))
              simp only [Act.put, List.setIfInBounds_toArray, List.set_cons_zero, List.set_cons_succ]
              refine wpAnyH_ready (rs := [7]) (by kernel_rfl) (by simp) ?_
              refine AllReadyH.cons (o := _) rfl (fun K hK => ?_) AllReadyH.nil
              go_simp
              refine (cdiv_any (gt r i) tot (w1.heap.size + 1) false _ (by exact c1)).mono ?_; rintro e w6 ⟨rfl, hc6, ho6⟩; rw [HV.out.1, HV.out.2]; rw [HY.out] at hc6; replace M := M.drew.off ho6 (by (repeat' (first | exact True.intro | refine And.intro (fun k hk e => ?_) ?_)) <;> (first | exact e | ((try dsimp only [Loc.c1, Loc.c2, Loc.k1, Loc.k2, Loc.k6, Loc.rdF, Loc.rdFF, Loc.all2, Loc.fr, Loc.bl, Loc.own, Loc.sz] at hk e) <;> omega))); replace S := S.drew.off ho6 (by (repeat' (first | exact True.intro | refine And.intro (fun k hk e => ?_) ?_)) <;> (first | exact e | ((try dsimp only [Loc.c1, Loc.c2, Loc.k1, Loc.k2, Loc.k6, Loc.rdF, Loc.rdFF, Loc.all2, Loc.fr, Loc.bl, Loc.own, Loc.sz] at hk e) <;> omega))); replace HO := Lib.hid (own_off (w := wr.drew) (by exact HO.out) ho6 (by omega)); clear ho6
              (try go_wp2_with fail)
              refine hK.out _ _ ?_ (fun hHeld => ?_)
              · exact S
              clear hK K
              try simp only [Act.put, List.setIfInBounds_toArray, List.set_cons_zero, List.set_cons_succ]
              refine wpAnyH_take (i := 8) (oi := _) (v := ?_) rfl (by kernel_rfl) (by kernel_rfl) (by kernel_rfl) (fun _ _ _ h => h) (Or.inl ⟨by rfl, ?_⟩) (by assumption) ?_
              rotate_left
              · (intro w hSw; (try dsimp only at hSw); go_simp; try (with_reducible rfl))
              simp only [Act.put, List.setIfInBounds_toArray, List.set_cons_zero, List.set_cons_succ]
              refine wpAnyH_done (by kernel_rfl) ?_ _
              unfold thenLast
              simp only [Exit.then]
              obtain ⟨e1, e2, e3, e4, e5, e6⟩ := own_at HO.out (gt_get (l := r) (i := i) (by rw [HR2.out]; omega))
              have s6 := S.1
              have HM6 := Lib.hid (M.set2 (g := w1.heap.size + 1 + 1) (i := i * 2) (j := i * 2 + 1) (u := .int .i64 v.n) (v := .int .i64 v.d) (by (repeat' (first | exact True.intro | refine And.intro (fun k hk e => ?_) ?_)) <;> (first | exact e | ((try dsimp only [Loc.c1, Loc.c2, Loc.k1, Loc.k2, Loc.k6, Loc.rdF, Loc.rdFF, Loc.all2, Loc.fr, Loc.bl, Loc.own, Loc.sz] at hk e) <;> omega))))
              have HS6 := Lib.hid (K2.far' (i := i * 2) (j := i * 2 + 1) s6 (show w4.heap.size ≠ w1.heap.size + 1 + 1 by omega) (.int .i64 v.n) (.int .i64 v.d))
              have HC6 := Lib.hid (K1.far (K1.far hc6 (show w1.heap.size + 1 ≠ w1.heap.size + 1 + 1 by omega) (o := i * 2) (.int .i64 v.n)) (show w1.heap.size + 1 ≠ w1.heap.size + 1 + 1 by omega) (o := i * 2 + 1) (.int .i64 v.d))
              have HO6 := Lib.hid (own_set HO.out (i := i) (by rw [HR2.out]; omega) v)
              clear M S HO hc6 c1 s6
              go_wp2_with fail
              go_roundw
              case rel =>
                have hrel : ∃ (i' : Nat) (r' : List Fr) (x' : Bool), i' ≤ cp + 1 ∧ Value.int .i64 ((i : Int) + 1) = .int .i64 i' ∧ K1 ((w6.setCell ⟨w1.heap.size + 1 + 1, i * 2, none⟩ (.int .i64 v.n)).setCell ⟨w1.heap.size + 1 + 1, i * 2 + 1, none⟩ (.int .i64 v.d)) (w1.heap.size + 1) (.bool x') ∧ ((w6.setCell ⟨w1.heap.size + 1 + 1, i * 2, none⟩ (.int .i64 v.n)).setCell ⟨w1.heap.size + 1 + 1, i * 2 + 1, none⟩ (.int .i64 v.d)).ownsRow (w1.heap.size + 1 + 1) 23 2 (.slice (some ⟨w1.heap.size + 1 + 1, 0, none⟩) (cp + 1) (cp + 1)) (cp + 1) (flat r') ∧ K2 ((w6.setCell ⟨w1.heap.size + 1 + 1, i * 2, none⟩ (.int .i64 v.n)).setCell ⟨w1.heap.size + 1 + 1, i * 2 + 1, none⟩ (.int .i64 v.d)) w4.heap.size (.int .i64 tot.n) (.int .i64 tot.d) ∧ Mem [Loc.k1 w1.heap.size (.slice rA rows.length rc), Loc.rdFF (w.heap.size + 1) w1.heap.size (.slice rA rows.length rc) rows, Loc.k6 w.heap.size (.int .i64 ar.n) (.int .i64 ar.d) (.int .i64 se.n) (.int .i64 se.d) (.int .i64 sv) (.int .i64 cp), Loc.bl w.heap.size w] ((w6.setCell ⟨w1.heap.size + 1 + 1, i * 2, none⟩ (.int .i64 v.n)).setCell ⟨w1.heap.size + 1 + 1, i * 2 + 1, none⟩ (.int .i64 v.d)) ∧ RsV rows cp wl tot i' r' x' := ⟨i + 1, _, y, by omega, by go_num, HC6.out, HO6.out, HS6.out, HM6.out, HT2.out⟩
                first | exact hrel | ((repeat apply Exists.intro); exact ⟨hrel, rfl⟩)
              case measure => first | (simp [intOf]; done) | (simp [intOf]; omega)
          · have hki : decide ((i : Int) < (cp : Int) + 1) = false := by simp; omega
            obtain rfl : i = cp + 1 := by omega
            have HM := Lib.hid M
            clear M
            cases x with
            | true =>
              go_wp2_with fail
              exact HBIG.out HV0.out.big _ HM.out
            | false =>
              go_wp2_with fail
              exact HR.out _ _ ⟨_, true, r, rfl, HM.out.2.2.2.1.1, RdG.mono (own_rdF HO.out HV0.out.1) (by omega) (Nat.le_refl _), .inl ⟨rfl, HV0.out.1, by rw [HST.out]; exact HV0.out.done⟩⟩

end Go.Proofs.Ythlgkomhnhkooaa
