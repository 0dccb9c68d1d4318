/-
  Walks of casebook/queue: stationary. Conditions: none.
-/
import Derived.Test.YthlgkomhnhkooaaQueue6
import Derived.Test.YthlgkomhnhkooaaQueue7
namespace Go.Proofs.Ythlgkomhnhkooaa
set_option linter.unusedSimpArgs false
set_option linter.unusedVariables false
open Go.RowKit

theorem own_lower {W : World} {lo lo' t sz n : Nat} {v : Value} {cells : List Value} (h : W.ownsRow lo t sz v n cells) (hl : lo' ≤ lo) : W.ownsRow lo' t sz v n cells := by
  refine ⟨h.1, ?_⟩
  rcases h.2 with h2 | ⟨g', cap', cur, hv, hg', r⟩
  · exact Or.inl h2
  · exact Or.inr ⟨g', cap', cur, hv, Nat.le_trans hl hg', r⟩

set_option maxRecDepth 100000 in
set_option maxHeartbeats 16000000 in
theorem stationary_any (ar se : Fr) (sv cp : Nat) (cb : Nat) (w : World) (hc : K1 w cb (.int .i64 0)) (hq : QOk ar se sv cp) :
    Calls Try.prog 39 #[.pointer (some ⟨cb, 0, none⟩), .agg #[.int .i64 ar.n, .int .i64 ar.d, .int .i64 se.n, .int .i64 se.d, .int .i64 sv, .int .i64 cp]] w fun e w' =>
      ∃ g cap vb r b x, e = .returned (.tuple #[.slice (some ⟨g, 0, none⟩) (cp + 1) cap, vb]) ∧ K1 w' cb (.int .i64 x) ∧ Off cb w.heap.size w w' ∧ w.heap.size ≤ g ∧ w'.ownsRow w.heap.size 23 2 (.slice (some ⟨g, 0, none⟩) (cp + 1) cap) (cp + 1) (flat r) ∧ RdFF w' w.heap.size w'.heap.size vb b ∧ StE ar se sv cp b r x := by
  refine calls_cps fun R hR => ?_
  have HR := Lib.hid hR
  clear hR
  have hcb := hc.2.2
  have hcp := hq.c2
  have hv1 := hq.v1
  have hc1 := hq.c1
  have lt0 : cb < w.heap.size + 1 := by omega
  go_enter Try.func39, Try.ntmps39
  go_wp2_with fail
  have q0 := K6.new w (.int .i64 ar.n) (.int .i64 ar.d) (.int .i64 se.n) (.int .i64 se.d) (.int .i64 sv) (.int .i64 cp) 25
  have o0 : Off cb w.heap.size w (w.alloc (.cells #[.int .i64 ar.n, .int .i64 ar.d, .int .i64 se.n, .int .i64 se.d, .int .i64 sv, .int .i64 cp] 25)) := (Off.refl _ _ _).alloc (Nat.le_refl _) _
  refine (chain_any ar se sv cp cb _ (K1.alloc hc _) hq.oa hq.os ⟨hq.v1, hq.v2⟩ ⟨hq.c1, hq.c2⟩).mono ?_
  rintro e w1 ⟨rV, bV, rows, b, x1, rfl, c1, ho1, rr1, rb1, hE⟩
  replace q0 := K6.oft ho1 q0 (by omega)
  replace o0 := o0.step ho1 (by simp)
  have hz1 := ho1.size
  simp at hz1
  have hrl : rows.length = cp + 1 := hE.1
  have rr2 : RdFF w1 (w.heap.size + 1) w1.heap.size rV rows := by simpa using rr1
  have rb2 : RdFF w1 (w.heap.size + 1) w1.heap.size bV b := by simpa using rb1
  obtain ⟨rA, rc, rfl, hrc, hrl2⟩ := rr2.form
  obtain ⟨rb, roff, u0, rfl, _⟩ := rr2.at_ (rw_get (m := 0) (by omega))
  have HRL := Lib.hid hrl
  have HE := Lib.hid hE
  have HRR := Lib.hid rr2
  have HRB := Lib.hid rb2
  clear ho1 rr1 rb1 rr2 rb2 hE hrl hc lt0
  go_wp2_with fail
  refine (zeros_any (cp + 1) _ (by omega)).mono ?_
  rintro e w2 ⟨g, cap, rfl, hgb, hown, hb2⟩
  have L0 : SI cb w.heap.size w1.heap.size w.heap.size w ar se sv cp (.slice (some ⟨rb, roff, none⟩) rows.length rc) bV rows b g cap (List.replicate (cp + 1) zeroF) w2 x1 :=
    { c := K1.aft hb2 c1, q := K6.aft hb2 q0, rr := HRR.out.after hb2, rb := HRB.out.after hb2, of := o0.stepB hb2 (by omega), wr := hown, hs := hb2.size, lt := ⟨by omega, by omega, by omega, by omega⟩ }
  have L := L0
  clear L0 c1 q0 o0 hown hb2 HRR HRB
  go_upto_region 3 with (fail)
  have q3 := L.q
  have hcpi : (cp : Int) < (cp : Int) + 1 := by omega
  refine wp_region_tail (S := (fun W => K6 W w.heap.size (.int .i64 ar.n) (.int .i64 ar.d) (.int .i64 se.n) (.int .i64 se.d) (.int .i64 sv) (.int .i64 cp))) (by kernel_rfl) rfl (by kernel_rfl) (by exact q3) (fun hHeld => ?_)
  simp only [List.dropLast]
  refine wpAnyH_take (i := 0) (oi := _) (v := ?_) rfl (by kernel_rfl) (by kernel_rfl) (by kernel_rfl) (fun _ _ _ h => h) (Or.inl ⟨by rfl, ?_⟩) (by assumption) ?_
  rotate_left
  · (intro w hSw; (try dsimp only at hSw); go_simp; try (with_reducible rfl))
  simp only [Act.put, List.setIfInBounds_toArray, List.set_cons_zero, List.set_cons_succ]
  refine wpAnyH_take (i := 1) (oi := _) (v := ?_) rfl (by kernel_rfl) (by kernel_rfl) (by kernel_rfl) (fun _ _ _ h => h) (Or.inl ⟨by rfl, ?_⟩) (by assumption) ?_
  rotate_left
  · (intro w hSw; (try dsimp only at hSw); go_simp; try (with_reducible rfl))
  simp only [Act.put, List.setIfInBounds_toArray, List.set_cons_zero, List.set_cons_succ]
  refine wpAnyH_take (i := 2) (oi := _) (v := ?_) rfl (by kernel_rfl) (by kernel_rfl) (by kernel_rfl) (fun _ _ _ h => h) (Or.inl ⟨by rfl, ?_⟩) (by assumption) ?_
  rotate_left
  · (intro w hSw; (try dsimp only at hSw); go_simp; try (with_reducible rfl))
  simp only [Act.put, List.setIfInBounds_toArray, List.set_cons_zero, List.set_cons_succ]
  refine wpAnyH_ready (rs := [3]) (by kernel_rfl) (by simp) ?_
  refine AllReadyH.cons (o := _) rfl (fun K hK => ?_) AllReadyH.nil
  go_simp
  refine (whole_any 1 _).mono ?_; rintro e w3 ⟨rfl, hb3⟩; replace L := L.drew.below hb3; replace q3 := K6.aft hb3 q3; clear hb3
  (try go_wp2_with fail)
  refine hK.out _ _ ?_ (fun hHeld => ?_)
  · exact q3
  clear hK K
  try simp only [Act.put, List.setIfInBounds_toArray, List.set_cons_zero, List.set_cons_succ]
  refine wpAnyH_take (i := 4) (oi := _) (v := ?_) rfl (by kernel_rfl) (by kernel_rfl) (by kernel_rfl) (fun _ _ _ h => h) (Or.inl ⟨by rfl, ?_⟩) (by assumption) ?_
  rotate_left
  · (intro w hSw; (try dsimp only at hSw); go_simp; try (with_reducible rfl))
  simp only [Act.put, List.setIfInBounds_toArray, List.set_cons_zero, List.set_cons_succ]
  refine wpAnyH_done (by kernel_rfl) ?_ _
  unfold thenLast
  simp only [Exit.then]
  obtain ⟨e1, e2, e3, e4, e5, e6⟩ := own_at L.wr (gt_get (i := cp) (by simp))
  have L1 := Lib.hid (L.put (i := cp) (by simp) oneF)
  have HSW := Lib.hid (SW.start HE.out)
  clear L
  go_wp2
  go_loopw [9] (fun v9 wr => ∃ (t : Nat) (x z : Int) (wl : List Fr), t ≤ cp ∧ z = (cp : Int) - 1 - t ∧ v9 = .int .i64 z ∧ SI cb w.heap.size w1.heap.size w.heap.size w ar se sv cp (.slice (some ⟨rb, roff, none⟩) rows.length rc) bV rows b g cap wl wr x ∧ SW ar se sv cp rows b t wl x) (fun v9 _ => (intOf v9 + 1).toNat)
  case atStart => exact ⟨0, x1, _, _, by omega, by omega, rfl, L1.out, HSW.out⟩
  case round =>
    clear L1 HSW q3 e1 e2 e3 e4 e5 e6 hgb
    obtain ⟨t, x, z, wl, ht, hz, rfl, hL, hSW⟩ := hrel
    have HSW := Lib.hid hSW
    have L := hL
    clear hSW hL
    by_cases htc : t < cp
    · obtain ⟨n, rfl⟩ : ∃ n : Nat, z = n := ⟨cp - 1 - t, by omega⟩
      have hnt : n + 1 + t ≤ cp ∧ cp ≤ n + 1 + t := by omega
      have HN : Hid (cp - 1 - t = n) := Lib.hid (by omega)
      clear hz
      have hge : decide ((0 : Int) ≤ (n : Int)) = true := by simp
      go_wp2_with fail
      refine (whole_any 0 _).mono ?_
      rintro e w5 ⟨rfl, hb5⟩
      have Lw := L.below hb5
      clear hb5
      have gl := Lw.glt
      have HL5 := Lib.hid (Lw.alloc (.cells #[.int .i64 0, .int .i64 1] 23))
      have hs5 := K2.new w5 (.int .i64 0) (.int .i64 1) 23
      have hh5 := Lw.hs
      clear Lw L
      obtain ⟨wo, rfl⟩ : ∃ wo : World, wo = wr := ⟨_, rfl⟩
      go_wp2
      go_loopw [11] (fun v11 wr => ∃ (i : Nat) (x z : Int) (s : Fr), i + n ≤ cp ∧ z = (n : Int) + 1 + i ∧ v11 = .int .i64 z ∧ SI cb w.heap.size w1.heap.size w.heap.size w ar se sv cp (.slice (some ⟨rb, roff, none⟩) rows.length rc) bV rows b g cap wl wr x ∧ K2 wr w5.heap.size (.int .i64 s.n) (.int .i64 s.d) ∧ SS ar se sv cp rows b t wl i s x) (fun v11 _ => cp + 1 - (intOf v11).toNat)
      case atStart => exact ⟨0, x, _, zeroF, by omega, by omega, rfl, HL5.out, hs5, HSW.out.sum⟩
      case round =>
        clear HL5 hs5
        obtain ⟨i, x, z, s, hi, hz, rfl, hL, hs, hSS⟩ := hrel
        have HSS := Lib.hid hSS
        have L := hL
        clear hSS hL
        have q6 := L.q
        by_cases him : i + n < cp
        · obtain ⟨m, rfl⟩ : ∃ m : Nat, z = m := ⟨n + 1 + i, by omega⟩
          have hm : n + 1 + i ≤ m ∧ m ≤ n + 1 + i := by omega
          have HM : Hid (cp - 1 - t + 1 + i = m) := Lib.hid (by omega)
          clear hz
          have hmi : decide ((m : Int) ≤ (cp : Int)) = true := by simp; omega
          go_wp2_with fail
          refine (whole_any 0 _).mono ?_
          rintro e w7 ⟨rfl, hb7⟩
          have Lw := L.below hb7
          have hs7 := K2.alloc (K2.aft hb7 hs) (.cells #[.int .i64 0, .int .i64 1] 23)
          have hz7 : w5.heap.size < w7.heap.size := (K2.aft hb7 hs).2.2.2.2
          clear hb7
          have gl7 := Lw.glt
          have HL7 := Lib.hid (Lw.alloc (.cells #[.int .i64 0, .int .i64 1] 23))
          have hd7 := K2.new w7 (.int .i64 0) (.int .i64 1) 23
          have hh7 := Lw.hs
          clear Lw L hs q6
          obtain ⟨wo2, rfl⟩ : ∃ wo2 : World, wo2 = wr := ⟨_, rfl⟩
          go_wp2
          go_loopw [13] (fun v13 wr => ∃ (k : Nat) (x : Int) (d : Fr), k ≤ n + 1 ∧ v13 = .int .i64 k ∧ SI cb w.heap.size w1.heap.size w.heap.size w ar se sv cp (.slice (some ⟨rb, roff, none⟩) rows.length rc) bV rows b g cap wl wr x ∧ K2 wr w5.heap.size (.int .i64 s.n) (.int .i64 s.d) ∧ K2 wr w7.heap.size (.int .i64 d.n) (.int .i64 d.d) ∧ SD ar se sv cp rows b t wl i s k d x) (fun v13 _ => n + 1 - (intOf v13).toNat)
          case atStart => exact ⟨0, x, zeroF, by omega, rfl, HL7.out, hs7, hd7, HSS.out.down⟩
          case round =>
            clear HL7 hs7 hd7
            obtain ⟨k, x, d, hk, rfl, hL, hs, hd, hSD⟩ := hrel
            have HSD := Lib.hid hSD
            have L := hL
            clear hSD hL
            have hlt := L.lt
            have gl8 := L.glt
            by_cases hkn : k ≤ n
            · have hki : decide ((k : Int) ≤ (n : Int)) = true := by simp; omega
              have hml : m < rows.length := by rw [HRL.out]; omega
              obtain ⟨lo1, hi1, A2, c2', f3, rf⟩ := L.rr.at2 (rw_get hml)
              have hmr : (rw' rows m).length = cp + 1 := HE.out.2.1 m _ (rw_get hml)
              obtain ⟨b2, off2, rfl, lo2, hi2, f4, f5⟩ := rf.at2 (gt_get (l := rw' rows m) (i := k) (by omega))
              have hbn : rb ≠ cb := by omega
              have hbn2 : b2 ≠ cb := by omega
              have hdn : w7.heap.size ≠ cb := by omega
              have hsn : w5.heap.size ≠ cb := by omega
              have hmb : (m : Int) < (rows.length : Int) := by omega
              have hkb : (k : Int) < ((rw' rows m).length : Int) := by omega
              have HMR := Lib.hid hmr
              clear hmr rf lo1 hi1 lo2 hi2 hml
              go_upto_region 15 with (fail)
              refine wp_region_tail (S := (fun W => K2 W w7.heap.size (.int .i64 d.n) (.int .i64 d.d) ∧ W.cell? ⟨rb, roff + m, none⟩ = some (.slice (some ⟨b2, off2, none⟩) (rw' rows m).length c2') ∧ W.cell? ⟨b2, off2 + k * 2, none⟩ = some (.int .i64 (gt (rw' rows m) k).n) ∧ W.cell? ⟨b2, off2 + k * 2 + 1, none⟩ = some (.int .i64 (gt (rw' rows m) k).d))) (by kernel_rfl) rfl (by kernel_rfl) (by exact ⟨hd, f3, f4, f5⟩) (fun hHeld => ?_)
              simp only [List.dropLast]
              refine wpAnyH_take (i := 0) (oi := _) (v := ?_) rfl (by kernel_rfl) (by kernel_rfl) (by kernel_rfl) (fun _ _ _ h => h) (Or.inl ⟨by rfl, ?_⟩) (by assumption) ?_
              rotate_left
              · (intro w hSw; (try dsimp only at hSw); go_simp; try (with_reducible rfl))
              simp only [Act.put, List.setIfInBounds_toArray, List.set_cons_zero, List.set_cons_succ]
              refine wpAnyH_take (i := 1) (oi := _) (v := ?_) rfl (by kernel_rfl) (by kernel_rfl) (by kernel_rfl) (fun _ _ _ h => h) (Or.inl ⟨by rfl, ?_⟩) (by assumption) ?_
              rotate_left
              · (intro w hSw; (try dsimp only at hSw); go_simp; try (with_reducible rfl))
              simp only [Act.put, List.setIfInBounds_toArray, List.set_cons_zero, List.set_cons_succ]
              refine wpAnyH_take (i := 2) (oi := _) (v := ?_) rfl (by kernel_rfl) (by kernel_rfl) (by kernel_rfl) (fun _ _ _ h => h) (Or.inl ⟨by rfl, ?_⟩) (by assumption) ?_
              rotate_left
              · (intro w hSw; (try dsimp only at hSw); go_simp; try (with_reducible rfl))
              simp only [Act.put, List.setIfInBounds_toArray, List.set_cons_zero, List.set_cons_succ]
              refine wpAnyH_take (i := 3) (oi := _) (v := ?_) rfl (by kernel_rfl) (by kernel_rfl) (by kernel_rfl) (fun _ _ _ h => h) (Or.inl ⟨by rfl, ?_⟩) (by assumption) ?_
              rotate_left
              · (intro w hSw; (try dsimp only at hSw); go_simp; try (with_reducible rfl))
              simp only [Act.put, List.setIfInBounds_toArray, List.set_cons_zero, List.set_cons_succ]
              refine wpAnyH_take (i := 4) (oi := _) (v := ?_) rfl (by kernel_rfl) (by kernel_rfl) (by kernel_rfl) (fun _ _ _ h => h) (Or.inl ⟨by rfl, ?_⟩) (by assumption) ?_
              rotate_left
              · (intro w hSw; (try dsimp only at hSw); go_simp; try (with_reducible rfl))
              simp only [Act.put, List.setIfInBounds_toArray, List.set_cons_zero, List.set_cons_succ]
              refine wpAnyH_take (i := 5) (oi := _) (v := ?_) rfl (by kernel_rfl) (by kernel_rfl) (by kernel_rfl) (fun _ _ _ h => h) (Or.inl ⟨by rfl, ?_⟩) (by assumption) ?_
              rotate_left
              · (intro w hSw; (try dsimp only at hSw); go_simp; try (with_reducible rfl))
              simp only [Act.put, List.setIfInBounds_toArray, List.set_cons_zero, List.set_cons_succ]
              refine wpAnyH_take (i := 6) (oi := _) (v := ?_) rfl (by kernel_rfl) (by kernel_rfl) (by kernel_rfl) (fun _ _ _ h => h) (Or.inl ⟨by rfl, ?_⟩) (by assumption) ?_
              rotate_left
              · (intro w hSw; (try dsimp only at hSw); go_simp; try (with_reducible rfl))
              simp only [Act.put, List.setIfInBounds_toArray, List.set_cons_zero, List.set_cons_succ]
              refine wpAnyH_take (i := 7) (oi := _) (v := ?_) rfl (by kernel_rfl) (by kernel_rfl) (by kernel_rfl) (fun _ _ _ h => h) (Or.inl ⟨by rfl, ?_⟩) (by assumption) ?_
              rotate_left
              · (intro w hSw; (try dsimp only at hSw); go_simp; try (with_reducible rfl))
              simp only [Act.put, List.setIfInBounds_toArray, List.set_cons_zero, List.set_cons_succ]
              refine wpAnyH_take (i := 8) (oi := _) (v := ?_) rfl (by kernel_rfl) (by kernel_rfl) (by kernel_rfl) (fun _ _ _ h => h) (Or.inl ⟨by rfl, ?_⟩) (by assumption) ?_
              rotate_left
              · (intro w hSw; (try dsimp only at hSw); go_simp; try (with_reducible rfl))
              simp only [Act.put, List.setIfInBounds_toArray, List.set_cons_zero, List.set_cons_succ]
              refine wpAnyH_ready (rs := [9]) (by kernel_rfl) (by simp) ?_
              refine AllReadyH.cons (o := _) rfl (fun K hK => ?_) AllReadyH.nil
              go_simp
              refine (do_k 57 ent_add (addE d (gt (rw' rows m) k)) d (gt (rw' rows m) k) (fun W => add_any _ _ W) cb x _ (by exact L.drew.c)).mono ?_; rintro e w8 ⟨rfl, hc8, ho8⟩; replace L := L.drew.off ho8 hc8; replace hd := K2.oft ho8 hd hdn; replace hs := K2.oft ho8 hs hsn; replace f3 := cell_oft ho8 f3 hbn; replace f4 := cell_oft ho8 f4 hbn2; replace f5 := cell_oft ho8 f5 hbn2; clear ho8 hc8
              (try go_wp2_with fail)
              refine hK.out _ _ ?_ (fun hHeld => ?_)
              · exact ⟨hd, f3, f4, f5⟩
              clear hK K
              try simp only [Act.put, List.setIfInBounds_toArray, List.set_cons_zero, List.set_cons_succ]
              refine wpAnyH_done (by kernel_rfl) ?_ _
              unfold thenLast
              simp only [Exit.then]
              have L2 := Lib.hid (L.box (s := w7.heap.size) (by omega) (by omega) (.int .i64 (doR x (addE d (gt (rw' rows m) k))).n) (.int .i64 (doR x (addE d (gt (rw' rows m) k))).d))
              have HS2 := Lib.hid (K2.far' (i := 0) (j := 1) hs (show w5.heap.size ≠ w7.heap.size by omega) (.int .i64 (doR x (addE d (gt (rw' rows m) k))).n) (.int .i64 (doR x (addE d (gt (rw' rows m) k))).d))
              have HD2 := Lib.hid (K2.set hd (.int .i64 (doR x (addE d (gt (rw' rows m) k))).n) (.int .i64 (doR x (addE d (gt (rw' rows m) k))).d))
              clear L hs f3 f4 f5
              go_wp2_with fail
              go_roundw
              case rel =>
                have hst := HSD.out.step hq (by omega) (by omega) (by omega)
                rw [HM.out] at hst
                have hrel : ∃ (k' : Nat) (x' : Int) (d' : Fr), k' ≤ n + 1 ∧ Value.int .i64 ((k : Int) + 1) = .int .i64 k' ∧ SI cb w.heap.size w1.heap.size w.heap.size w ar se sv cp (.slice (some ⟨rb, roff, none⟩) rows.length rc) bV rows b g cap wl ((w8.setCell ⟨w7.heap.size, 0, none⟩ (.int .i64 (doR x (addE d (gt (rw' rows m) k))).n)).setCell ⟨w7.heap.size, 1, none⟩ (.int .i64 (doR x (addE d (gt (rw' rows m) k))).d)) x' ∧ K2 ((w8.setCell ⟨w7.heap.size, 0, none⟩ (.int .i64 (doR x (addE d (gt (rw' rows m) k))).n)).setCell ⟨w7.heap.size, 1, none⟩ (.int .i64 (doR x (addE d (gt (rw' rows m) k))).d)) w5.heap.size (.int .i64 s.n) (.int .i64 s.d) ∧ K2 ((w8.setCell ⟨w7.heap.size, 0, none⟩ (.int .i64 (doR x (addE d (gt (rw' rows m) k))).n)).setCell ⟨w7.heap.size, 1, none⟩ (.int .i64 (doR x (addE d (gt (rw' rows m) k))).d)) w7.heap.size (.int .i64 d'.n) (.int .i64 d'.d) ∧ SD ar se sv cp rows b t wl i s k' d' x' := ⟨k + 1, _, _, by omega, by go_num, L2.out, HS2.out, HD2.out, hst⟩
                first | exact hrel | ((repeat apply Exists.intro); exact ⟨hrel, rfl⟩)
              case measure => first | (simp [intOf]; done) | (simp [intOf]; omega)
            · have hki : decide ((k : Int) ≤ (n : Int)) = false := by simp; omega
              obtain rfl : k = n + 1 := by omega
              have hwl : wl.length = cp + 1 := HSW.out.1
              obtain ⟨f1, f2, _, _, _, _⟩ := own_at L.wr (gt_get (l := wl) (i := m) (by omega))
              have hgn : g ≠ cb := by omega
              have hdn : w7.heap.size ≠ cb := by omega
              have hsn : w5.heap.size ≠ cb := by omega
              have hmb : (m : Int) < (cp : Int) + 1 := by omega
              have HWL := Lib.hid hwl
              clear hwl
              go_upto_region 16 with (fail)
              refine wp_region_tail (S := (fun W => K2 W w5.heap.size (.int .i64 s.n) (.int .i64 s.d) ∧ K2 W w7.heap.size (.int .i64 d.n) (.int .i64 d.d) ∧ W.cell? ⟨g, m * 2, none⟩ = some (.int .i64 (gt wl m).n) ∧ W.cell? ⟨g, m * 2 + 1, none⟩ = some (.int .i64 (gt wl m).d))) (by kernel_rfl) rfl (by kernel_rfl) (by exact ⟨hs, hd, f1, f2⟩) (fun hHeld => ?_)
              simp only [List.dropLast]
              refine wpAnyH_take (i := 0) (oi := _) (v := ?_) rfl (by kernel_rfl) (by kernel_rfl) (by kernel_rfl) (fun _ _ _ h => h) (Or.inl ⟨by rfl, ?_⟩) (by assumption) ?_
              rotate_left
              · (intro w hSw; (try dsimp only at hSw); go_simp; try (with_reducible rfl))
              simp only [Act.put, List.setIfInBounds_toArray, List.set_cons_zero, List.set_cons_succ]
              refine wpAnyH_take (i := 1) (oi := _) (v := ?_) rfl (by kernel_rfl) (by kernel_rfl) (by kernel_rfl) (fun _ _ _ h => h) (Or.inl ⟨by rfl, ?_⟩) (by assumption) ?_
              rotate_left
              · (intro w hSw; (try dsimp only at hSw); go_simp; try (with_reducible rfl))
              simp only [Act.put, List.setIfInBounds_toArray, List.set_cons_zero, List.set_cons_succ]
              refine wpAnyH_take (i := 2) (oi := _) (v := ?_) rfl (by kernel_rfl) (by kernel_rfl) (by kernel_rfl) (fun _ _ _ h => h) (Or.inl ⟨by rfl, ?_⟩) (by assumption) ?_
              rotate_left
              · (intro w hSw; (try dsimp only at hSw); go_simp; try (with_reducible rfl))
              simp only [Act.put, List.setIfInBounds_toArray, List.set_cons_zero, List.set_cons_succ]
              refine wpAnyH_take (i := 3) (oi := _) (v := ?_) rfl (by kernel_rfl) (by kernel_rfl) (by kernel_rfl) (fun _ _ _ h => h) (Or.inl ⟨by rfl, ?_⟩) (by assumption) ?_
              rotate_left
              · (intro w hSw; (try dsimp only at hSw); go_simp; try (with_reducible rfl))
              simp only [Act.put, List.setIfInBounds_toArray, List.set_cons_zero, List.set_cons_succ]
              refine wpAnyH_take (i := 4) (oi := _) (v := ?_) rfl (by kernel_rfl) (by kernel_rfl) (by kernel_rfl) (fun _ _ _ h => h) (Or.inl ⟨by rfl, ?_⟩) (by assumption) ?_
              rotate_left
              · (intro w hSw; (try dsimp only at hSw); go_simp; try (with_reducible rfl))
              simp only [Act.put, List.setIfInBounds_toArray, List.set_cons_zero, List.set_cons_succ]
              refine wpAnyH_take (i := 5) (oi := _) (v := ?_) rfl (by kernel_rfl) (by kernel_rfl) (by kernel_rfl) (fun _ _ _ h => h) (Or.inl ⟨by rfl, ?_⟩) (by assumption) ?_
              rotate_left
              · (intro w hSw; (try dsimp only at hSw); go_simp; try (with_reducible rfl))
              simp only [Act.put, List.setIfInBounds_toArray, List.set_cons_zero, List.set_cons_succ]
              refine wpAnyH_take (i := 6) (oi := _) (v := ?_) rfl (by kernel_rfl) (by kernel_rfl) (by kernel_rfl) (fun _ _ _ h => h) (Or.inl ⟨by rfl, ?_⟩) (by assumption) ?_
              rotate_left
              · (intro w hSw; (try dsimp only at hSw); go_simp; try (with_reducible rfl))
              simp only [Act.put, List.setIfInBounds_toArray, List.set_cons_zero, List.set_cons_succ]
              refine wpAnyH_take (i := 7) (oi := _) (v := ?_) rfl (by kernel_rfl) (by kernel_rfl) (by kernel_rfl) (fun _ _ _ h => h) (Or.inl ⟨by rfl, ?_⟩) (by assumption) ?_
              rotate_left
              · (intro w hSw; (try dsimp only at hSw); go_simp; try (with_reducible rfl))
              simp only [Act.put, List.setIfInBounds_toArray, List.set_cons_zero, List.set_cons_succ]
              refine wpAnyH_ready (rs := [8]) (by kernel_rfl) (by simp) ?_
              refine AllReadyH.cons (o := _) rfl (fun K hK => ?_) AllReadyH.nil
              go_simp
              refine (do_k 23 ent_mul (mulE d (gt wl m)) d (gt wl m) (fun W => mul_any _ _ W) cb x _ (by exact L.drew.c)).mono ?_; rintro e w8 ⟨rfl, hc8, ho8⟩; replace L := L.drew; replace L := L.off ho8 hc8; replace hd := K2.oft ho8 hd hdn; replace hs := K2.oft ho8 hs hsn; replace f1 := cell_oft ho8 f1 hgn; replace f2 := cell_oft ho8 f2 hgn; clear ho8 hc8
              (try go_wp2_with fail)
              refine hK.out _ _ ?_ (fun hHeld => ?_)
              · exact ⟨hs, hd, f1, f2⟩
              clear hK K
              try simp only [Act.put, List.setIfInBounds_toArray, List.set_cons_zero, List.set_cons_succ]
              refine wpAnyH_ready (rs := [9]) (by kernel_rfl) (by simp) ?_
              refine AllReadyH.cons (o := _) rfl (fun K hK => ?_) AllReadyH.nil
              go_simp
              refine (do_k 57 ent_add (addE s (doR x (mulE d (gt wl m)))) s (doR x (mulE d (gt wl m))) (fun W => add_any _ _ W) cb _ _ (by exact L.c)).mono ?_; rintro e w8 ⟨rfl, hc8, ho8⟩; replace L := L.off ho8 hc8; replace hd := K2.oft ho8 hd hdn; replace hs := K2.oft ho8 hs hsn; replace f1 := cell_oft ho8 f1 hgn; replace f2 := cell_oft ho8 f2 hgn; clear ho8 hc8
              (try go_wp2_with fail)
              refine hK.out _ _ ?_ (fun hHeld => ?_)
              · exact ⟨hs, hd, f1, f2⟩
              clear hK K
              try simp only [Act.put, List.setIfInBounds_toArray, List.set_cons_zero, List.set_cons_succ]
              refine wpAnyH_done (by kernel_rfl) ?_ _
              unfold thenLast
              simp only [Exit.then]
              have L2 := Lib.hid (L.box (s := w5.heap.size) (by omega) (by omega) (.int .i64 (doR (doX x (mulE d (gt wl m))) (addE s (doR x (mulE d (gt wl m))))).n) (.int .i64 (doR (doX x (mulE d (gt wl m))) (addE s (doR x (mulE d (gt wl m))))).d))
              have HS2 := Lib.hid (K2.set hs (.int .i64 (doR (doX x (mulE d (gt wl m))) (addE s (doR x (mulE d (gt wl m))))).n) (.int .i64 (doR (doX x (mulE d (gt wl m))) (addE s (doR x (mulE d (gt wl m))))).d))
              clear L hd f1 f2
              go_wp2_with fail
              go_roundw
              case rel =>
                have hst : SD ar se sv cp rows b t wl i s (cp - 1 - t + 1) d x := by rw [HN.out]; exact HSD.out
                have hst2 := hst.sum hq (by omega) (by omega)
                rw [HM.out] at hst2
                have hrel : ∃ (i' : Nat) (x' z' : Int) (s' : Fr), i' + n ≤ cp ∧ z' = (n : Int) + 1 + i' ∧ Value.int .i64 ((m : Int) + 1) = .int .i64 z' ∧ SI cb w.heap.size w1.heap.size w.heap.size w ar se sv cp (.slice (some ⟨rb, roff, none⟩) rows.length rc) bV rows b g cap wl ((w8.setCell ⟨w5.heap.size, 0, none⟩ (.int .i64 (doR (doX x (mulE d (gt wl m))) (addE s (doR x (mulE d (gt wl m))))).n)).setCell ⟨w5.heap.size, 1, none⟩ (.int .i64 (doR (doX x (mulE d (gt wl m))) (addE s (doR x (mulE d (gt wl m))))).d)) x' ∧ K2 ((w8.setCell ⟨w5.heap.size, 0, none⟩ (.int .i64 (doR (doX x (mulE d (gt wl m))) (addE s (doR x (mulE d (gt wl m))))).n)).setCell ⟨w5.heap.size, 1, none⟩ (.int .i64 (doR (doX x (mulE d (gt wl m))) (addE s (doR x (mulE d (gt wl m))))).d)) w5.heap.size (.int .i64 s'.n) (.int .i64 s'.d) ∧ SS ar se sv cp rows b t wl i' s' x' := ⟨i + 1, _, (m : Int) + 1, _, by omega, by omega, rfl, L2.out, HS2.out, hst2⟩
                first | exact hrel | ((repeat apply Exists.intro); exact ⟨hrel, rfl⟩)
              case measure => first | (simp [intOf]; done) | (simp [intOf]; omega)
        · obtain ⟨m, rfl⟩ : ∃ m : Nat, z = m := ⟨n + 1 + i, by omega⟩
          have hm : n + 1 + i ≤ m ∧ m ≤ n + 1 + i := by omega
          have HI : Hid (cp - (cp - 1 - t) = i) := Lib.hid (by omega)
          clear hz
          have hmi : decide ((m : Int) ≤ (cp : Int)) = false := by simp; omega
          have hwl : wl.length = cp + 1 := HSW.out.1
          have hlt := L.lt
          have gl8 := L.glt
          have hnl : n < rows.length := by rw [HRL.out]; omega
          obtain ⟨lo1, hi1, A2, c2', f3, rf⟩ := L.rr.at2 (rw_get hnl)
          have hnr : (rw' rows n).length = cp + 1 := HE.out.2.1 n _ (rw_get hnl)
          obtain ⟨b2, off2, rfl, lo2, hi2, f4, f5⟩ := rf.at2 (gt_get (l := rw' rows n) (i := n + 1) (by omega))
          have hgn : g ≠ cb := by omega
          have hbn : rb ≠ cb := by omega
          have hbn2 : b2 ≠ cb := by omega
          have hsn : w5.heap.size ≠ cb := by omega
          have hnb : (n : Int) < (rows.length : Int) := by omega
          have hnb2 : (n : Int) + 1 < ((rw' rows n).length : Int) := by omega
          have hnb3 : (n : Int) < (cp : Int) + 1 := by omega
          have wn1 : IntKind.i64.wrap ((n : Int) + 1) = (n : Int) + 1 := by rw [IntKind.wrap_i64]; omega
          have tn1 : ((n : Int) + 1).toNat = n + 1 := by omega
          have zn1 : (0 : Int) ≤ (n : Int) + 1 := by omega
          have HNR := Lib.hid hnr
          have HWL := Lib.hid hwl
          clear hnr rf lo1 hi1 lo2 hi2 hnl hwl
          go_upto_region 17 with (fail)
          refine wp_region_tail (S := (fun W => K2 W w5.heap.size (.int .i64 s.n) (.int .i64 s.d) ∧ W.cell? ⟨rb, roff + n, none⟩ = some (.slice (some ⟨b2, off2, none⟩) (rw' rows n).length c2') ∧ W.cell? ⟨b2, off2 + (n + 1) * 2, none⟩ = some (.int .i64 (gt (rw' rows n) (n + 1)).n) ∧ W.cell? ⟨b2, off2 + (n + 1) * 2 + 1, none⟩ = some (.int .i64 (gt (rw' rows n) (n + 1)).d))) (by kernel_rfl) rfl (by kernel_rfl) (by exact ⟨hs, f3, f4, f5⟩) (fun hHeld => ?_)
          simp only [List.dropLast]
          refine wpAnyH_take (i := 0) (oi := _) (v := ?_) rfl (by kernel_rfl) (by kernel_rfl) (by kernel_rfl) (fun _ _ _ h => h) (Or.inl ⟨by rfl, ?_⟩) (by assumption) ?_
          rotate_left
          · (intro w hSw; (try dsimp only at hSw); go_simp; try (with_reducible rfl))
          simp only [Act.put, List.setIfInBounds_toArray, List.set_cons_zero, List.set_cons_succ]
          refine wpAnyH_take (i := 1) (oi := _) (v := ?_) rfl (by kernel_rfl) (by kernel_rfl) (by kernel_rfl) (fun _ _ _ h => h) (Or.inl ⟨by rfl, ?_⟩) (by assumption) ?_
          rotate_left
          · (intro w hSw; (try dsimp only at hSw); go_simp; try (with_reducible rfl))
          simp only [Act.put, List.setIfInBounds_toArray, List.set_cons_zero, List.set_cons_succ]
          refine wpAnyH_take (i := 2) (oi := _) (v := ?_) rfl (by kernel_rfl) (by kernel_rfl) (by kernel_rfl) (fun _ _ _ h => h) (Or.inl ⟨by rfl, ?_⟩) (by assumption) ?_
          rotate_left
          · (intro w hSw; (try dsimp only at hSw); go_simp; try (with_reducible rfl))
          simp only [Act.put, List.setIfInBounds_toArray, List.set_cons_zero, List.set_cons_succ]
          refine wpAnyH_take (i := 3) (oi := _) (v := ?_) rfl (by kernel_rfl) (by kernel_rfl) (by kernel_rfl) (fun _ _ _ h => h) (Or.inl ⟨by rfl, ?_⟩) (by assumption) ?_
          rotate_left
          · (intro w hSw; (try dsimp only at hSw); go_simp; try (with_reducible rfl))
          simp only [Act.put, List.setIfInBounds_toArray, List.set_cons_zero, List.set_cons_succ]
          refine wpAnyH_take (i := 4) (oi := _) (v := ?_) rfl (by kernel_rfl) (by kernel_rfl) (by kernel_rfl) (fun _ _ _ h => h) (Or.inl ⟨by rfl, ?_⟩) (by assumption) ?_
          rotate_left
          · (intro w hSw; (try dsimp only at hSw); go_simp; try (with_reducible rfl))
          simp only [Act.put, List.setIfInBounds_toArray, List.set_cons_zero, List.set_cons_succ]
          refine wpAnyH_take (i := 5) (oi := _) (v := ?_) rfl (by kernel_rfl) (by kernel_rfl) (by kernel_rfl) (fun _ _ _ h => h) (Or.inl ⟨by rfl, ?_⟩) (by assumption) ?_
          rotate_left
          · (intro w hSw; (try dsimp only at hSw); go_simp; try (with_reducible rfl))
          simp only [Act.put, List.setIfInBounds_toArray, List.set_cons_zero, List.set_cons_succ]
          refine wpAnyH_take (i := 6) (oi := _) (v := ?_) rfl (by kernel_rfl) (by kernel_rfl) (by kernel_rfl) (fun _ _ _ h => h) (Or.inl ⟨by rfl, ?_⟩) (by assumption) ?_
          rotate_left
          · (intro w hSw; (try dsimp only at hSw); go_simp; try (with_reducible rfl))
          simp only [Act.put, List.setIfInBounds_toArray, List.set_cons_zero, List.set_cons_succ]
          refine wpAnyH_take (i := 7) (oi := _) (v := ?_) rfl (by kernel_rfl) (by kernel_rfl) (by kernel_rfl) (fun _ _ _ h => h) (Or.inl ⟨by rfl, ?_⟩) (by assumption) ?_
          rotate_left
          · (intro w hSw; (try dsimp only at hSw); go_simp; try (with_reducible rfl))
          simp only [Act.put, List.setIfInBounds_toArray, List.set_cons_zero, List.set_cons_succ]
          refine wpAnyH_take (i := 8) (oi := _) (v := ?_) rfl (by kernel_rfl) (by kernel_rfl) (by kernel_rfl) (fun _ _ _ h => h) (Or.inl ⟨by rfl, ?_⟩) (by assumption) ?_
          rotate_left
          · (intro w hSw; (try dsimp only at hSw); go_simp; try (with_reducible rfl))
          simp only [Act.put, List.setIfInBounds_toArray, List.set_cons_zero, List.set_cons_succ]
          refine wpAnyH_take (i := 9) (oi := _) (v := ?_) rfl (by kernel_rfl) (by kernel_rfl) (by kernel_rfl) (fun _ _ _ h => h) (Or.inl ⟨by rfl, ?_⟩) (by assumption) ?_
          rotate_left
          · (intro w hSw; (try dsimp only at hSw); go_simp; try (with_reducible rfl))
          simp only [Act.put, List.setIfInBounds_toArray, List.set_cons_zero, List.set_cons_succ]
          refine wpAnyH_take (i := 10) (oi := _) (v := ?_) rfl (by kernel_rfl) (by kernel_rfl) (by kernel_rfl) (fun _ _ _ h => h) (Or.inl ⟨by rfl, ?_⟩) (by assumption) ?_
          rotate_left
          · (intro w hSw; (try dsimp only at hSw); go_simp; try (with_reducible rfl))
          simp only [Act.put, List.setIfInBounds_toArray, List.set_cons_zero, List.set_cons_succ]
          refine wpAnyH_take (i := 11) (oi := _) (v := ?_) rfl (by kernel_rfl) (by kernel_rfl) (by kernel_rfl) (fun _ _ _ h => h) (Or.inl ⟨by rfl, ?_⟩) (by assumption) ?_
          rotate_left
          · (intro w hSw; (try dsimp only at hSw); go_simp; try (with_reducible rfl))
          simp only [Act.put, List.setIfInBounds_toArray, List.set_cons_zero, List.set_cons_succ]
          refine wpAnyH_ready (rs := [12]) (by kernel_rfl) (by simp) ?_
          refine AllReadyH.cons (o := _) rfl (fun K hK => ?_) AllReadyH.nil
          go_simp
          refine (do_k 54 ent_div (divE s (gt (rw' rows n) (n + 1))) s (gt (rw' rows n) (n + 1)) (fun W => div_any _ _ W) cb x _ (by exact L.drew.c)).mono ?_; rintro e w8 ⟨rfl, hc8, ho8⟩; replace L := L.drew.off ho8 hc8; replace hs := K2.oft ho8 hs hsn; replace f3 := cell_oft ho8 f3 hbn; replace f4 := cell_oft ho8 f4 hbn2; replace f5 := cell_oft ho8 f5 hbn2; clear ho8 hc8
          (try go_wp2_with fail)
          refine hK.out _ _ ?_ (fun hHeld => ?_)
          · exact ⟨hs, f3, f4, f5⟩
          clear hK K
          try simp only [Act.put, List.setIfInBounds_toArray, List.set_cons_zero, List.set_cons_succ]
          refine wpAnyH_take (i := 13) (oi := _) (v := ?_) rfl (by kernel_rfl) (by kernel_rfl) (by kernel_rfl) (fun _ _ _ h => h) (Or.inl ⟨by rfl, ?_⟩) (by assumption) ?_
          rotate_left
          · (intro w hSw; (try dsimp only at hSw); go_simp; try (with_reducible rfl))
          simp only [Act.put, List.setIfInBounds_toArray, List.set_cons_zero, List.set_cons_succ]
          refine wpAnyH_done (by kernel_rfl) ?_ _
          unfold thenLast
          simp only [Exit.then]
          obtain ⟨e1, e2, e3, e4, e5, e6⟩ := own_at L.wr (gt_get (l := wl) (i := n) (by rw [HWL.out]; omega))
          have L2 := Lib.hid (L.put (i := n) (by rw [HWL.out]; omega) (doR x (divE s (gt (rw' rows n) (n + 1)))))
          clear L hs f3 f4 f5 wn1 tn1 zn1
          go_wp2_with fail
          go_roundw
          case rel =>
            have hst : SS ar se sv cp rows b t wl (cp - (cp - 1 - t)) s x := by rw [HI.out]; exact HSS.out
            have hst2 := hst.weight hq htc HWL.out
            rw [HN.out] at hst2
            have hrel : ∃ (t' : Nat) (x' z' : Int) (wl' : List Fr), t' ≤ cp ∧ z' = (cp : Int) - 1 - t' ∧ Value.int .i64 ((n : Int) - 1) = .int .i64 z' ∧ SI cb w.heap.size w1.heap.size w.heap.size w ar se sv cp (.slice (some ⟨rb, roff, none⟩) rows.length rc) bV rows b g cap wl' ((w8.setCell ⟨g, n * 2, none⟩ (.int .i64 (doR x (divE s (gt (rw' rows n) (n + 1)))).n)).setCell ⟨g, n * 2 + 1, none⟩ (.int .i64 (doR x (divE s (gt (rw' rows n) (n + 1)))).d)) x' ∧ SW ar se sv cp rows b t' wl' x' := ⟨t + 1, _, (n : Int) - 1, _, by omega, by omega, rfl, L2.out, hst2⟩
            first | exact hrel | ((repeat apply Exists.intro); exact ⟨hrel, rfl⟩)
          case measure => first | (simp [intOf]; done) | (simp [intOf]; omega)
    · obtain rfl : cp = t := by omega
      obtain rfl : z = -1 := by omega
      clear hz
      go_wp2_with fail
      refine (whole_any 0 _).mono ?_
      rintro e w5 ⟨rfl, hb5⟩
      have Lw := L.below hb5
      clear hb5
      have gl := Lw.glt
      have HL5 := Lib.hid (Lw.alloc (.cells #[.int .i64 0, .int .i64 1] 23))
      have hs5 := K2.new w5 (.int .i64 0) (.int .i64 1) 23
      have hh5 := Lw.hs
      have hlt := Lw.lt
      have hwl : wl.length = cp + 1 := HSW.out.1
      have HWL := Lib.hid hwl
      clear Lw L hwl
      obtain ⟨wo, rfl⟩ : ∃ wo : World, wo = wr := ⟨_, rfl⟩
      go_wp2
      go_loopw [92] (fun v92 wr => ∃ (k : Nat) (x : Int) (tot : Fr), k ≤ cp + 1 ∧ v92 = .int .i64 k ∧ SI cb w.heap.size w1.heap.size w.heap.size w ar se sv cp (.slice (some ⟨rb, roff, none⟩) rows.length rc) bV rows b g cap wl wr x ∧ K2 wr w5.heap.size (.int .i64 tot.n) (.int .i64 tot.d) ∧ ST ar se sv cp rows b wl k tot x) (fun v92 _ => cp + 1 - (intOf v92).toNat)
      case atStart => exact ⟨0, x, zeroF, by omega, rfl, HL5.out, hs5, HSW.out.tot⟩
      case round =>
        clear HL5 hs5
        obtain ⟨k, x, tot, hk, rfl, hL, hs, hST⟩ := hrel
        have HST := Lib.hid hST
        have L := hL
        clear hST hL
        have gl8 := L.glt
        have hsn : w5.heap.size ≠ cb := by omega
        by_cases hkc : k ≤ cp
        · obtain ⟨f1, f2, f3, f4, f5, f6⟩ := own_at L.wr (gt_get (l := wl) (i := k) (by rw [HWL.out]; omega))
          have hki : (k : Int) < (cp : Int) + 1 := by omega
          go_wp2_with fail
          have hzr : w5.heap.size < wr.heap.size := hs.2.2.2.2
          have La := L.alloc (.cells #[.int .i64 (gt wl k).n, .int .i64 (gt wl k).d] 23)
          refine (do_k 57 ent_add (addE tot (gt wl k)) tot (gt wl k) (fun W => add_any _ _ W) cb x _ (by exact La.c)).mono ?_
          rintro e w8 ⟨rfl, hc8, ho8⟩
          have L2 := La.off ho8 hc8
          replace hs := K2.oft ho8 (K2.alloc hs _) hsn
          have HL3 := Lib.hid (L2.box (s := w5.heap.size) (by omega) (by omega) (.int .i64 (doR x (addE tot (gt wl k))).n) (.int .i64 (doR x (addE tot (gt wl k))).d))
          have HS2 := Lib.hid (K2.set hs (.int .i64 (doR x (addE tot (gt wl k))).n) (.int .i64 (doR x (addE tot (gt wl k))).d))
          clear L La L2 ho8 hc8 f1 f2 f3 f4 f5 f6
          go_wp2_with fail
          go_roundw
          case rel =>
            have hst := HST.out.step hq (by omega)
            have hrel : ∃ (k' : Nat) (x' : Int) (tot' : Fr), k' ≤ cp + 1 ∧ Value.int .i64 ((k : Int) + 1) = .int .i64 k' ∧ SI cb w.heap.size w1.heap.size w.heap.size w ar se sv cp (.slice (some ⟨rb, roff, none⟩) rows.length rc) bV rows b g cap wl ((w8.setCell ⟨w5.heap.size, 0, none⟩ (.int .i64 (doR x (addE tot (gt wl k))).n)).setCell ⟨w5.heap.size, 1, none⟩ (.int .i64 (doR x (addE tot (gt wl k))).d)) x' ∧ K2 ((w8.setCell ⟨w5.heap.size, 0, none⟩ (.int .i64 (doR x (addE tot (gt wl k))).n)).setCell ⟨w5.heap.size, 1, none⟩ (.int .i64 (doR x (addE tot (gt wl k))).d)) w5.heap.size (.int .i64 tot'.n) (.int .i64 tot'.d) ∧ ST ar se sv cp rows b wl k' tot' x' := ⟨k + 1, _, _, by omega, by go_num, HL3.out, HS2.out, hst⟩
            first | exact hrel | ((repeat apply Exists.intro); exact ⟨hrel, rfl⟩)
          case measure => first | (simp [intOf]; done) | (simp [intOf]; omega)
        · obtain rfl : k = cp + 1 := by omega
          have HV := Lib.hid (HST.out.div HWL.out)
          have HL0 := Lib.hid L
          have hs0 := hs
          clear L HST hs
          obtain ⟨wo2, hwo2⟩ : ∃ wo2 : World, wo2 = wr := ⟨_, rfl⟩
          clear hwo2
          go_wp2
          go_loopw [103] (fun v103 wr => ∃ (i : Nat) (x : Int) (r : List Fr), i ≤ cp + 1 ∧ v103 = .int .i64 i ∧ SI cb w.heap.size w1.heap.size w.heap.size w ar se sv cp (.slice (some ⟨rb, roff, none⟩) rows.length rc) bV rows b g cap r wr x ∧ K2 wr w5.heap.size (.int .i64 tot.n) (.int .i64 tot.d) ∧ SV ar se sv cp rows b wl tot i r x) (fun v103 _ => cp + 1 - (intOf v103).toNat)
          case atStart => exact ⟨0, x, wl, by omega, rfl, HL0.out, hs0, HV.out⟩
          case round =>
            clear HL0 hs0 HV
            obtain ⟨i, x, r, hi, rfl, hL, hs, hSV⟩ := hrel
            have hrl : r.length = cp + 1 := hSV.1
            have HSV := Lib.hid hSV
            have L := hL
            clear hSV hL
            have gl9 := L.glt
            by_cases hic : i ≤ cp
            · have hii : (i : Int) < (cp : Int) + 1 := by omega
              obtain ⟨f1, f2, _, _, _, _⟩ := own_at L.wr (gt_get (l := r) (i := i) (by omega))
              have hgn : g ≠ cb := by omega
              have HRL2 := Lib.hid hrl
              clear hrl
              go_upto_region 27 with (fail)
              refine wp_region_tail (S := (fun W => K2 W w5.heap.size (.int .i64 tot.n) (.int .i64 tot.d) ∧ W.cell? ⟨g, i * 2, none⟩ = some (.int .i64 (gt r i).n) ∧ W.cell? ⟨g, i * 2 + 1, none⟩ = some (.int .i64 (gt r i).d))) (by kernel_rfl) rfl (by kernel_rfl) (by exact ⟨hs, f1, f2⟩) (fun hHeld => ?_)
              simp only [List.dropLast]
              refine wpAnyH_take (i := 0) (oi := _) (v := ?_) rfl (by kernel_rfl) (by kernel_rfl) (by kernel_rfl) (fun _ _ _ h => h) (Or.inl ⟨by rfl, ?_⟩) (by assumption) ?_
              rotate_left
              · (intro w hSw; (try dsimp only at hSw); go_simp; try (with_reducible rfl))
              simp only [Act.put, List.setIfInBounds_toArray, List.set_cons_zero, List.set_cons_succ]
              refine wpAnyH_take (i := 1) (oi := _) (v := ?_) rfl (by kernel_rfl) (by kernel_rfl) (by kernel_rfl) (fun _ _ _ h => h) (Or.inl ⟨by rfl, ?_⟩) (by assumption) ?_
              rotate_left
              · (intro w hSw; (try dsimp only at hSw); go_simp; try (with_reducible rfl))
              simp only [Act.put, List.setIfInBounds_toArray, List.set_cons_zero, List.set_cons_succ]
              refine wpAnyH_take (i := 2) (oi := _) (v := ?_) rfl (by kernel_rfl) (by kernel_rfl) (by kernel_rfl) (fun _ _ _ h => h) (Or.inl ⟨by rfl, ?_⟩) (by assumption) ?_
              rotate_left
              · (intro w hSw; (try dsimp only at hSw); go_simp; try (with_reducible rfl))
              simp only [Act.put, List.setIfInBounds_toArray, List.set_cons_zero, List.set_cons_succ]
              refine wpAnyH_take (i := 3) (oi := _) (v := ?_) rfl (by kernel_rfl) (by kernel_rfl) (by kernel_rfl) (fun _ _ _ h => h) (Or.inl ⟨by rfl, ?_⟩) (by assumption) ?_
              rotate_left
              · (intro w hSw; (try dsimp only at hSw); go_simp; try (with_reducible rfl))
              simp only [Act.put, List.setIfInBounds_toArray, List.set_cons_zero, List.set_cons_succ]
              refine wpAnyH_take (i := 4) (oi := _) (v := ?_) rfl (by kernel_rfl) (by kernel_rfl) (by kernel_rfl) (fun _ _ _ h => h) (Or.inl ⟨by rfl, ?_⟩) (by assumption) ?_
              rotate_left
              · (intro w hSw; (try dsimp only at hSw); go_simp; try (with_reducible rfl))
              simp only [Act.put, List.setIfInBounds_toArray, List.set_cons_zero, List.set_cons_succ]
              refine wpAnyH_take (i := 5) (oi := _) (v := ?_) rfl (by kernel_rfl) (by kernel_rfl) (by kernel_rfl) (fun _ _ _ h => h) (Or.inl ⟨by rfl, ?_⟩) (by assumption) ?_
              rotate_left
              · (intro w hSw; (try dsimp only at hSw); go_simp; try (with_reducible rfl))
              simp only [Act.put, List.setIfInBounds_toArray, List.set_cons_zero, List.set_cons_succ]
              refine wpAnyH_take (i := 6) (oi := _) (v := ?_) rfl (by kernel_rfl) (by kernel_rfl) (by kernel_rfl) (fun _ _ _ h => h) (Or.inl ⟨by rfl, ?_⟩) (by assumption) ?_
              rotate_left
              · (intro w hSw; (try dsimp only at hSw); go_simp; try (with_reducible rfl))
              simp only [Act.put, List.setIfInBounds_toArray, List.set_cons_zero, List.set_cons_succ]
              refine wpAnyH_take (i := 7) (oi := _) (v := ?_) rfl (by kernel_rfl) (by kernel_rfl) (by kernel_rfl) (fun _ _ _ h => h) (Or.inl ⟨by rfl, ?_⟩) (by assumption) ?_
              rotate_left
              · (intro w hSw; (try dsimp only at hSw); go_simp; try (with_reducible rfl))
              simp only [Act.put, List.setIfInBounds_toArray, List.set_cons_zero, List.set_cons_succ]
              refine wpAnyH_ready (rs := [8]) (by kernel_rfl) (by simp) ?_
              refine AllReadyH.cons (o := _) rfl (fun K hK => ?_) AllReadyH.nil
              go_simp
              refine (do_k 54 ent_div (divE (gt r i) tot) (gt r i) tot (fun W => div_any _ _ W) cb x _ (by exact L.drew.c)).mono ?_; rintro e w8 ⟨rfl, hc8, ho8⟩; replace L := L.drew.off ho8 hc8; replace hs := K2.oft ho8 hs hsn; replace f1 := cell_oft ho8 f1 hgn; replace f2 := cell_oft ho8 f2 hgn; clear ho8 hc8
              (try go_wp2_with fail)
              refine hK.out _ _ ?_ (fun hHeld => ?_)
              · exact ⟨hs, f1, f2⟩
              clear hK K
              try simp only [Act.put, List.setIfInBounds_toArray, List.set_cons_zero, List.set_cons_succ]
              refine wpAnyH_take (i := 9) (oi := _) (v := ?_) rfl (by kernel_rfl) (by kernel_rfl) (by kernel_rfl) (fun _ _ _ h => h) (Or.inl ⟨by rfl, ?_⟩) (by assumption) ?_
              rotate_left
              · (intro w hSw; (try dsimp only at hSw); go_simp; try (with_reducible rfl))
              simp only [Act.put, List.setIfInBounds_toArray, List.set_cons_zero, List.set_cons_succ]
              refine wpAnyH_done (by kernel_rfl) ?_ _
              unfold thenLast
              simp only [Exit.then]
              obtain ⟨e1, e2, e3, e4, e5, e6⟩ := own_at L.wr (gt_get (l := r) (i := i) (by rw [HRL2.out]; omega))
              have L2 := Lib.hid (L.put (i := i) (by rw [HRL2.out]; omega) (doR x (divE (gt r i) tot)))
              have HS2 := Lib.hid (K2.far' (i := i * 2) (j := i * 2 + 1) hs (show w5.heap.size ≠ g by omega) (.int .i64 (doR x (divE (gt r i) tot)).n) (.int .i64 (doR x (divE (gt r i) tot)).d))
              clear L hs f1 f2
              go_wp2_with fail
              go_roundw
              case rel =>
                have hst := HSV.out.step hq hic
                have hrel : ∃ (i' : Nat) (x' : Int) (r' : List Fr), i' ≤ cp + 1 ∧ Value.int .i64 ((i : Int) + 1) = .int .i64 i' ∧ SI cb w.heap.size w1.heap.size w.heap.size w ar se sv cp (.slice (some ⟨rb, roff, none⟩) rows.length rc) bV rows b g cap r' ((w8.setCell ⟨g, i * 2, none⟩ (.int .i64 (doR x (divE (gt r i) tot)).n)).setCell ⟨g, i * 2 + 1, none⟩ (.int .i64 (doR x (divE (gt r i) tot)).d)) x' ∧ K2 ((w8.setCell ⟨g, i * 2, none⟩ (.int .i64 (doR x (divE (gt r i) tot)).n)).setCell ⟨g, i * 2 + 1, none⟩ (.int .i64 (doR x (divE (gt r i) tot)).d)) w5.heap.size (.int .i64 tot.n) (.int .i64 tot.d) ∧ SV ar se sv cp rows b wl tot i' r' x' := ⟨i + 1, _, _, by omega, by go_num, L2.out, HS2.out, hst⟩
                first | exact hrel | ((repeat apply Exists.intro); exact ⟨hrel, rfl⟩)
              case measure => first | (simp [intOf]; done) | (simp [intOf]; omega)
            · obtain rfl : i = cp + 1 := by omega
              have hlt9 := L.lt
              have hd := HSV.out.done HE.out
              go_wp2_with fail
              exact HR.out _ _ ⟨g, cap, bV, r, b, x, rfl, L.c, L.of, by omega, own_lower L.wr (by omega), L.rb.mono (by omega) L.hs, hd⟩

end Go.Proofs.Ythlgkomhnhkooaa
