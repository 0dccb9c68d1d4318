/-
  casebookref41's Fitness. Conditions: none.
-/
import Derived.Test.YtmhbfoaecebobaaRFit
import Derived.StillTailTactics
namespace Go.Proofs.Ytmhbfoaecebobaa
set_option linter.unusedSimpArgs false
set_option linter.unusedVariables false
open Go.RowKit

theorem K4f.s0 {W : World} {g : Nat} {a b c d : Value} (h : K4f W g a b c d) (x : Value) : K4f (W.setCell ⟨g, 0, none⟩ x) g x b c d := by
  obtain ⟨h1, h2, h3, h4, f1, f2, f3, f4, h7⟩ := h
  refine ⟨by simp [go_sem, h1], by simp [go_sem, h2], by simp [go_sem, h3], by simp [go_sem, h4], by simp [go_sem, f1], by simp [go_sem, f2], by simp [go_sem, f3], by simp [go_sem, f4], by simpa using h7⟩
theorem K4f.s1 {W : World} {g : Nat} {a b c d : Value} (h : K4f W g a b c d) (x : Value) : K4f (W.setCell ⟨g, 1, none⟩ x) g a x c d := by
  obtain ⟨h1, h2, h3, h4, f1, f2, f3, f4, h7⟩ := h
  refine ⟨by simp [go_sem, h1], by simp [go_sem, h2], by simp [go_sem, h3], by simp [go_sem, h4], by simp [go_sem, f1], by simp [go_sem, f2], by simp [go_sem, f3], by simp [go_sem, f4], by simpa using h7⟩
theorem K4f.s2 {W : World} {g : Nat} {a b c d : Value} (h : K4f W g a b c d) (x : Value) : K4f (W.setCell ⟨g, 2, none⟩ x) g a b x d := by
  obtain ⟨h1, h2, h3, h4, f1, f2, f3, f4, h7⟩ := h
  refine ⟨by simp [go_sem, h1], by simp [go_sem, h2], by simp [go_sem, h3], by simp [go_sem, h4], by simp [go_sem, f1], by simp [go_sem, f2], by simp [go_sem, f3], by simp [go_sem, f4], by simpa using h7⟩
theorem K4f.s3 {W : World} {g : Nat} {a b c d : Value} (h : K4f W g a b c d) (x : Value) : K4f (W.setCell ⟨g, 3, none⟩ x) g a b c x := by
  obtain ⟨h1, h2, h3, h4, f1, f2, f3, f4, h7⟩ := h
  refine ⟨by simp [go_sem, h1], by simp [go_sem, h2], by simp [go_sem, h3], by simp [go_sem, h4], by simp [go_sem, f1], by simp [go_sem, f2], by simp [go_sem, f3], by simp [go_sem, f4], by simpa using h7⟩
abbrev Loc.c4 (b o : Nat) (x y z u : Value) : Loc := ⟨fun w => C4 w b o x y z u, fun k => k = b, fun h hd hp => ⟨(World.cell?_of_block (h.block b (World.block_lt_of_cell? _ _ hp.1) (hd b rfl))).trans hp.1, (World.cell?_of_block (h.block b (World.block_lt_of_cell? _ _ hp.1) (hd b rfl))).trans hp.2.1, (World.cell?_of_block (h.block b (World.block_lt_of_cell? _ _ hp.1) (hd b rfl))).trans hp.2.2.1, (World.cell?_of_block (h.block b (World.block_lt_of_cell? _ _ hp.1) (hd b rfl))).trans hp.2.2.2⟩⟩
theorem fit_half {s : Cnt} (hp : 0 < s.p ∧ s.p ≤ 1073741824) (hc : 0 < s.c ∧ s.c ≤ 1073741824) (hm : 0 ≤ s.m ∧ s.m ≤ 1073741824) (hr : 0 ≤ s.r ∧ s.r ≤ 1073741824) :
    fitF s = FE.of (mkF (hN (nf (s.c - s.m) s.c) (nf (s.p - s.r) s.p)) (2 * hD (nf (s.c - s.m) s.c) (nf (s.p - s.r) s.p))) ∧ 0 < hD (nf (s.c - s.m) s.c) (nf (s.p - s.r) s.p) := by
  have b1 := nf_bd (n := s.c - s.m) (d := s.c) (B := 1073741824) hc.1 (by omega) (by omega) hc.2
  have b2 := nf_bd (n := s.p - s.r) (d := s.p) (B := 1073741824) hp.1 (by omega) (by omega) hp.2
  obtain ⟨h1, h2⟩ := half_cross (a := nf (s.c - s.m) s.c) (b := nf (s.p - s.r) s.p) (m := s.m) (r := s.r) b1.2.2.1 b2.2.2.1 hc.1 hp.1 (nf_cross hc.1) (nf_cross hp.1)
  refine ⟨?_, h1⟩
  rw [h2]
  unfold fitF
  have hpos : 0 < s.c * s.p := Int.mul_pos hc.1 hp.1
  rw [if_neg (by omega), makeE_pos (by omega)]
set_option maxRecDepth 100000 in
set_option maxHeartbeats 4000000 in
theorem rFitness_any (l : List Cnt) (lo hi : Nat) (v : Value) (w : World) (hv : RdCn w lo hi v l) (hhi : hi ≤ w.heap.size) :
    Calls Try.prog 14 #[v] w fun e w' => e = .returned (.tuple #[.agg #[.int .i64 (FitE l).n, .int .i64 (FitE l).d], .int .i64 (FitE l).e]) ∧ Below w.heap.size w w' := by
  obtain ⟨A, c, rfl, hc, hm⟩ := hv.form
  have HV := Lib.hid hv
  clear hv
  have M : Hid (Mem [Loc.k2 w.heap.size (.int .i64 0) (.int .i64 0), Loc.bl w.heap.size w] (w.alloc (.cells #[.int .i64 0, .int .i64 0] 39))) := Lib.hid ⟨K2.new _ _ _ _, ⟨(Below.refl _ _).alloc (Nat.le_refl _) _, by simp⟩, True.intro⟩
  have hk2 := M.out.1
  refine calls_cps fun R hR => ?_
  have HR := Lib.hid hR
  clear hR
  go_enter Try.func14, Try.ntmps14
  by_cases h1000 : 1000 < l.length
  · have hd : decide ((1000 : Int) < l.length) = true := by simp; omega
    have HE : Hid (FitE l = FE.err 1) := Lib.hid (by unfold FitE; rw [if_pos h1000])
    go_wp2_with fail
    exact ret_B2t rfl rfl rfl rfl M.out.1 (HR.out _ _ ⟨by rw [HE.out]; rfl, M.out.2.1.1⟩)
  · have hd : decide ((1000 : Int) < l.length) = false := by simp; omega
    have HE : Hid (FitE l = match sumC l ⟨0, 0, 0, 0⟩ with | none => FE.err 1 | some s => fitF s) := Lib.hid (by unfold FitE; exact if_neg h1000)
    have MS : Hid (Mem [Loc.k4f (w.heap.size + 1) (.int .i64 0) (.int .i64 0) (.int .i64 0) (.int .i64 0), Loc.k2 w.heap.size (.int .i64 0) (.int .i64 0), Loc.bl w.heap.size w] ((w.alloc (.cells #[.int .i64 0, .int .i64 0] 39)).alloc (.cells #[.int .i64 0, .int .i64 0, .int .i64 0, .int .i64 0] 29))) := Lib.hid ⟨by have := K4f.new (w.alloc (.cells #[.int .i64 0, .int .i64 0] 39)) (.int .i64 0) (.int .i64 0) (.int .i64 0) (.int .i64 0) 29; rw [World.size_alloc] at this; exact this, M.out.alloc _⟩
    go_wp2_with fail
    go_loopw [5] (fun v5 wr => ∃ (j : Nat) (s : Cnt), j ≤ l.length ∧ v5 = .int .i64 j ∧ Hid (sumC l ⟨0, 0, 0, 0⟩ = sumC (l.drop j) s) ∧ Hid (Bd j s) ∧ Hid (Mem [Loc.k4f (w.heap.size + 1) (.int .i64 s.p) (.int .i64 s.c) (.int .i64 s.m) (.int .i64 s.r), Loc.k2 w.heap.size (.int .i64 0) (.int .i64 0), Loc.bl w.heap.size w] wr)) (fun v5 _ => l.length - (intOf v5).toNat)
    case atStart => exact ⟨0, ⟨0, 0, 0, 0⟩, Nat.zero_le _, rfl, Lib.hid rfl, Lib.hid (by unfold Bd; simp), MS⟩
    case round =>
      clear M MS hk2
      obtain ⟨j, s, hj, rfl, HT, HB, M⟩ := hrel
      have hk2 := M.out.2.1
      have hks := M.out.1
      by_cases hlt : j < l.length
      · obtain ⟨bi, oi, rfl, _, hbi, hci⟩ := RdCn.at4 (HV.out.after M.out.2.2.1.1) hlt
        have HD : Hid (sumC l ⟨0, 0, 0, 0⟩ = if cntOk (gti l j) then sumC (l.drop (j + 1)) (addC s (gti l j)) else none) := Lib.hid (by rw [HT.out, drop_gti hlt]; rfl)
        clear HT
        obtain ⟨x, hx⟩ : ∃ x, gti l j = x := ⟨_, rfl⟩
        rw [hx] at hci HD
        clear hx
        obtain ⟨xp, xc, xm, xr⟩ := x
        dsimp only at hci
        replace M : Hid (Mem [Loc.k4f (w.heap.size + 1) (.int .i64 s.p) (.int .i64 s.c) (.int .i64 s.m) (.int .i64 s.r), Loc.k2 w.heap.size (.int .i64 0) (.int .i64 0), Loc.bl w.heap.size w, Loc.c4 bi (oi + j * 4) (.int .i64 xp) (.int .i64 xc) (.int .i64 xm) (.int .i64 xr)] wr) := Lib.hid ⟨M.out.1, M.out.2.1, M.out.2.2.1, hci, True.intro⟩
        have hbw : bi < w.heap.size := by omega
        obtain ⟨z1, hz1⟩ : ∃ z, numOk xp = z := ⟨_, rfl⟩
        obtain ⟨z2, hz2⟩ : ∃ z, numOk xc = z := ⟨_, rfl⟩
        obtain ⟨z3, hz3⟩ : ∃ z, numOk xm = z := ⟨_, rfl⟩
        obtain ⟨z4, hz4⟩ : ∃ z, numOk xr = z := ⟨_, rfl⟩
        have HZ1 := Lib.hid (count_is hz1)
        have HZ2 := Lib.hid (count_is hz2)
        have HZ3 := Lib.hid (count_is hz3)
        have HZ4 := Lib.hid (count_is hz4)
        have HCO : Hid (cntOk ⟨xp, xc, xm, xr⟩ = (z1 && z2 && z3 && z4)) := Lib.hid (by unfold cntOk; rw [hz1, hz2, hz3, hz4])
        clear hz1 hz2 hz3 hz4
        have tok1 : True := trivial
        have tok2 : True := trivial
        have tok3 : True := trivial
        have tok4 : True := trivial
        cases z1 with
        | false =>
          have HN : Hid (sumC l ⟨0, 0, 0, 0⟩ = none) := Lib.hid (by rw [HD.out, HCO.out]; simp)
          go_wp2_with (first
            | (have _t := tok1; go_at_call 39; clear _t tok1; refine (HZ1.out _).mono ?_; rintro e w1 ⟨rfl, hb1⟩; replace M := Lib.hid (M.out.below hb1); clear hb1; replace hk2 := M.out.2.1; replace hks := M.out.1; replace hci := M.out.2.2.2.1))
          refine ret_B2t rfl rfl rfl rfl (K2.set M.out.2.1 _ _) (HR.out _ _ ⟨?_, (Mem.step (a' := Loc.k2 w.heap.size (.int .i64 0) (.int .i64 0)) M.out.2 (K2.set M.out.2.1 _ _) (Chg.set2 _ w.heap.size 0 1 _ _) (by (repeat' (first | exact True.intro | refine And.intro (fun k hk e => ?_) ?_)) <;> (first | exact e | ((try dsimp only [Loc.c1, Loc.c4, Loc.k4f, Loc.c2, Loc.k1, Loc.k2, Loc.k3, Loc.k4, Loc.k6, Loc.fr, Loc.bl, Loc.own, Loc.sz, Loc.rd, Loc.rdI, Loc.rdS, Loc.rdM, Loc.rdT, Loc.ow, Loc.owI, Loc.owN, Loc.set, Loc.ns, Loc.cg, Loc.pb, silD, plD] at hk e) <;> omega)))).2.1.1⟩)
          rw [HE.out, HN.out]
          rfl
        | true =>
          cases z2 with
          | false =>
            have HN : Hid (sumC l ⟨0, 0, 0, 0⟩ = none) := Lib.hid (by rw [HD.out, HCO.out]; simp)
            go_wp2_with (first
              | (have _t := tok1; go_at_call 39; clear _t tok1; refine (HZ1.out _).mono ?_; rintro e w1 ⟨rfl, hb1⟩; replace M := Lib.hid (M.out.below hb1); clear hb1; replace hk2 := M.out.2.1; replace hks := M.out.1; replace hci := M.out.2.2.2.1)
              | (have _t := tok2; go_at_call 39; clear _t tok2; refine (HZ2.out _).mono ?_; rintro e w1 ⟨rfl, hb1⟩; replace M := Lib.hid (M.out.below hb1); clear hb1; replace hk2 := M.out.2.1; replace hks := M.out.1; replace hci := M.out.2.2.2.1))
            refine ret_B2t rfl rfl rfl rfl (K2.set M.out.2.1 _ _) (HR.out _ _ ⟨?_, (Mem.step (a' := Loc.k2 w.heap.size (.int .i64 0) (.int .i64 0)) M.out.2 (K2.set M.out.2.1 _ _) (Chg.set2 _ w.heap.size 0 1 _ _) (by (repeat' (first | exact True.intro | refine And.intro (fun k hk e => ?_) ?_)) <;> (first | exact e | ((try dsimp only [Loc.c1, Loc.c4, Loc.k4f, Loc.c2, Loc.k1, Loc.k2, Loc.k3, Loc.k4, Loc.k6, Loc.fr, Loc.bl, Loc.own, Loc.sz, Loc.rd, Loc.rdI, Loc.rdS, Loc.rdM, Loc.rdT, Loc.ow, Loc.owI, Loc.owN, Loc.set, Loc.ns, Loc.cg, Loc.pb, silD, plD] at hk e) <;> omega)))).2.1.1⟩)
            rw [HE.out, HN.out]
            rfl
          | true =>
            cases z3 with
            | false =>
              have HN : Hid (sumC l ⟨0, 0, 0, 0⟩ = none) := Lib.hid (by rw [HD.out, HCO.out]; simp)
              go_wp2_with (first
                | (have _t := tok1; go_at_call 39; clear _t tok1; refine (HZ1.out _).mono ?_; rintro e w1 ⟨rfl, hb1⟩; replace M := Lib.hid (M.out.below hb1); clear hb1; replace hk2 := M.out.2.1; replace hks := M.out.1; replace hci := M.out.2.2.2.1)
                | (have _t := tok2; go_at_call 39; clear _t tok2; refine (HZ2.out _).mono ?_; rintro e w1 ⟨rfl, hb1⟩; replace M := Lib.hid (M.out.below hb1); clear hb1; replace hk2 := M.out.2.1; replace hks := M.out.1; replace hci := M.out.2.2.2.1)
                | (have _t := tok3; go_at_call 39; clear _t tok3; refine (HZ3.out _).mono ?_; rintro e w1 ⟨rfl, hb1⟩; replace M := Lib.hid (M.out.below hb1); clear hb1; replace hk2 := M.out.2.1; replace hks := M.out.1; replace hci := M.out.2.2.2.1))
              refine ret_B2t rfl rfl rfl rfl (K2.set M.out.2.1 _ _) (HR.out _ _ ⟨?_, (Mem.step (a' := Loc.k2 w.heap.size (.int .i64 0) (.int .i64 0)) M.out.2 (K2.set M.out.2.1 _ _) (Chg.set2 _ w.heap.size 0 1 _ _) (by (repeat' (first | exact True.intro | refine And.intro (fun k hk e => ?_) ?_)) <;> (first | exact e | ((try dsimp only [Loc.c1, Loc.c4, Loc.k4f, Loc.c2, Loc.k1, Loc.k2, Loc.k3, Loc.k4, Loc.k6, Loc.fr, Loc.bl, Loc.own, Loc.sz, Loc.rd, Loc.rdI, Loc.rdS, Loc.rdM, Loc.rdT, Loc.ow, Loc.owI, Loc.owN, Loc.set, Loc.ns, Loc.cg, Loc.pb, silD, plD] at hk e) <;> omega)))).2.1.1⟩)
              rw [HE.out, HN.out]
              rfl
            | true =>
              cases z4 with
              | false =>
                have HN : Hid (sumC l ⟨0, 0, 0, 0⟩ = none) := Lib.hid (by rw [HD.out, HCO.out]; simp)
                go_wp2_with (first
                  | (have _t := tok1; go_at_call 39; clear _t tok1; refine (HZ1.out _).mono ?_; rintro e w1 ⟨rfl, hb1⟩; replace M := Lib.hid (M.out.below hb1); clear hb1; replace hk2 := M.out.2.1; replace hks := M.out.1; replace hci := M.out.2.2.2.1)
                  | (have _t := tok2; go_at_call 39; clear _t tok2; refine (HZ2.out _).mono ?_; rintro e w1 ⟨rfl, hb1⟩; replace M := Lib.hid (M.out.below hb1); clear hb1; replace hk2 := M.out.2.1; replace hks := M.out.1; replace hci := M.out.2.2.2.1)
                  | (have _t := tok3; go_at_call 39; clear _t tok3; refine (HZ3.out _).mono ?_; rintro e w1 ⟨rfl, hb1⟩; replace M := Lib.hid (M.out.below hb1); clear hb1; replace hk2 := M.out.2.1; replace hks := M.out.1; replace hci := M.out.2.2.2.1)
                  | (have _t := tok4; go_at_call 39; clear _t tok4; refine (HZ4.out _).mono ?_; rintro e w1 ⟨rfl, hb1⟩; replace M := Lib.hid (M.out.below hb1); clear hb1; replace hk2 := M.out.2.1; replace hks := M.out.1; replace hci := M.out.2.2.2.1))
                refine ret_B2t rfl rfl rfl rfl (K2.set M.out.2.1 _ _) (HR.out _ _ ⟨?_, (Mem.step (a' := Loc.k2 w.heap.size (.int .i64 0) (.int .i64 0)) M.out.2 (K2.set M.out.2.1 _ _) (Chg.set2 _ w.heap.size 0 1 _ _) (by (repeat' (first | exact True.intro | refine And.intro (fun k hk e => ?_) ?_)) <;> (first | exact e | ((try dsimp only [Loc.c1, Loc.c4, Loc.k4f, Loc.c2, Loc.k1, Loc.k2, Loc.k3, Loc.k4, Loc.k6, Loc.fr, Loc.bl, Loc.own, Loc.sz, Loc.rd, Loc.rdI, Loc.rdS, Loc.rdM, Loc.rdT, Loc.ow, Loc.owI, Loc.owN, Loc.set, Loc.ns, Loc.cg, Loc.pb, silD, plD] at hk e) <;> omega)))).2.1.1⟩)
                rw [HE.out, HN.out]
                rfl
              | true =>
                have hok : cntOk ⟨xp, xc, xm, xr⟩ = true := HCO.out
                have hbd := HB.out
                have HBN := Lib.hid (hbd.add hok)
                have HNX : Hid (sumC l ⟨0, 0, 0, 0⟩ = sumC (l.drop (j + 1)) (addC s ⟨xp, xc, xm, xr⟩)) := Lib.hid (by rw [HD.out, hok]; rfl)
                have hb2 : (0 ≤ s.p ∧ s.p ≤ 1048576000) ∧ (0 ≤ s.c ∧ s.c ≤ 1048576000) ∧ (0 ≤ s.m ∧ s.m ≤ 1048576000) ∧ (0 ≤ s.r ∧ s.r ≤ 1048576000) ∧ (0 ≤ xp ∧ xp ≤ 1048576) ∧ (0 ≤ xc ∧ xc ≤ 1048576) ∧ (0 ≤ xm ∧ xm ≤ 1048576) ∧ (0 ≤ xr ∧ xr ≤ 1048576) := by
                  unfold Bd at hbd
                  unfold cntOk numOk at hok
                  simp only [Bool.and_eq_true, decide_eq_true_eq] at hok
                  omega
                clear hok hbd HD HCO
                obtain ⟨⟨q1, q2⟩, ⟨q3, q4⟩, ⟨q5, q6⟩, ⟨q7, q8⟩, ⟨q9, q10⟩, ⟨q11, q12⟩, ⟨q13, q14⟩, ⟨q15, q16⟩⟩ := hb2
                go_wp2_with (first
                  | (have _t := tok1; go_at_call 39; clear _t tok1; refine (HZ1.out _).mono ?_; rintro e w1 ⟨rfl, hb1⟩; replace M := Lib.hid (M.out.below hb1); clear hb1; replace hk2 := M.out.2.1; replace hks := M.out.1; replace hci := M.out.2.2.2.1)
                  | (have _t := tok2; go_at_call 39; clear _t tok2; refine (HZ2.out _).mono ?_; rintro e w1 ⟨rfl, hb1⟩; replace M := Lib.hid (M.out.below hb1); clear hb1; replace hk2 := M.out.2.1; replace hks := M.out.1; replace hci := M.out.2.2.2.1)
                  | (have _t := tok3; go_at_call 39; clear _t tok3; refine (HZ3.out _).mono ?_; rintro e w1 ⟨rfl, hb1⟩; replace M := Lib.hid (M.out.below hb1); clear hb1; replace hk2 := M.out.2.1; replace hks := M.out.1; replace hci := M.out.2.2.2.1)
                  | (have _t := tok4; go_at_call 39; clear _t tok4; refine (HZ4.out _).mono ?_; rintro e w1 ⟨rfl, hb1⟩; replace M := Lib.hid (M.out.below hb1); clear hb1; replace hk2 := M.out.2.1; replace hks := M.out.1; replace hci := M.out.2.2.2.1))
                go_still_tail 9, (by kernel_rfl)
                change wpList _ _ _ _ _ (World.drew _)
                go_wp2_with fail
                replace M := Lib.hid (Mem.step (a' := Loc.k4f (w.heap.size + 1) (.int .i64 (s.p + xp)) (.int .i64 (s.c)) (.int .i64 (s.m)) (.int .i64 (s.r))) M.out (K4f.s0 M.out.1 (.int .i64 (s.p + xp))) (Chg.set _ (w.heap.size + 1) 0 _) (by (repeat' (first | exact True.intro | refine And.intro (fun k hk e => ?_) ?_)) <;> (first | exact e | ((try dsimp only [Loc.c1, Loc.c4, Loc.k4f, Loc.c2, Loc.k1, Loc.k2, Loc.k3, Loc.k4, Loc.k6, Loc.fr, Loc.bl, Loc.own, Loc.sz, Loc.rd, Loc.rdI, Loc.rdS, Loc.rdM, Loc.rdT, Loc.ow, Loc.owI, Loc.owN, Loc.set, Loc.ns, Loc.cg, Loc.pb, silD, plD] at hk e) <;> omega)))).drew
                generalize (World.setCell w1 ⟨w.heap.size + 1, 0, none⟩ (.int .i64 (s.p + xp))).drew = W1 at *
                clear hk2 hks hci
                obtain ⟨hk2a, hk2b, hk2c, hk2d, hk2⟩ := M.out.2.1
                obtain ⟨ka1, ka2, ka3, ka4, kf1, kf2, kf3, kf4, hks⟩ := M.out.1
                obtain ⟨kc1, kc2, kc3, hci⟩ := M.out.2.2.2.1
                go_still_tail 9, (by kernel_rfl)
                change wpList _ _ _ _ _ (World.drew _)
                go_wp2_with fail
                replace M := Lib.hid (Mem.step (a' := Loc.k4f (w.heap.size + 1) (.int .i64 (s.p + xp)) (.int .i64 (s.c + xc)) (.int .i64 (s.m)) (.int .i64 (s.r))) M.out (K4f.s1 M.out.1 (.int .i64 (s.c + xc))) (Chg.set _ (w.heap.size + 1) 1 _) (by (repeat' (first | exact True.intro | refine And.intro (fun k hk e => ?_) ?_)) <;> (first | exact e | ((try dsimp only [Loc.c1, Loc.c4, Loc.k4f, Loc.c2, Loc.k1, Loc.k2, Loc.k3, Loc.k4, Loc.k6, Loc.fr, Loc.bl, Loc.own, Loc.sz, Loc.rd, Loc.rdI, Loc.rdS, Loc.rdM, Loc.rdT, Loc.ow, Loc.owI, Loc.owN, Loc.set, Loc.ns, Loc.cg, Loc.pb, silD, plD] at hk e) <;> omega)))).drew
                generalize (World.setCell W1 ⟨w.heap.size + 1, 1, none⟩ (.int .i64 (s.c + xc))).drew = W2 at *
                clear hk2 hks hci
                obtain ⟨hk2a, hk2b, hk2c, hk2d, hk2⟩ := M.out.2.1
                obtain ⟨ka1, ka2, ka3, ka4, kf1, kf2, kf3, kf4, hks⟩ := M.out.1
                obtain ⟨kc1, kc2, kc3, hci⟩ := M.out.2.2.2.1
                go_still_tail 9, (by kernel_rfl)
                change wpList _ _ _ _ _ (World.drew _)
                go_wp2_with fail
                replace M := Lib.hid (Mem.step (a' := Loc.k4f (w.heap.size + 1) (.int .i64 (s.p + xp)) (.int .i64 (s.c + xc)) (.int .i64 (s.m + xm)) (.int .i64 (s.r))) M.out (K4f.s2 M.out.1 (.int .i64 (s.m + xm))) (Chg.set _ (w.heap.size + 1) 2 _) (by (repeat' (first | exact True.intro | refine And.intro (fun k hk e => ?_) ?_)) <;> (first | exact e | ((try dsimp only [Loc.c1, Loc.c4, Loc.k4f, Loc.c2, Loc.k1, Loc.k2, Loc.k3, Loc.k4, Loc.k6, Loc.fr, Loc.bl, Loc.own, Loc.sz, Loc.rd, Loc.rdI, Loc.rdS, Loc.rdM, Loc.rdT, Loc.ow, Loc.owI, Loc.owN, Loc.set, Loc.ns, Loc.cg, Loc.pb, silD, plD] at hk e) <;> omega)))).drew
                generalize (World.setCell W2 ⟨w.heap.size + 1, 2, none⟩ (.int .i64 (s.m + xm))).drew = W3 at *
                clear hk2 hks hci
                obtain ⟨hk2a, hk2b, hk2c, hk2d, hk2⟩ := M.out.2.1
                obtain ⟨ka1, ka2, ka3, ka4, kf1, kf2, kf3, kf4, hks⟩ := M.out.1
                obtain ⟨kc1, kc2, kc3, hci⟩ := M.out.2.2.2.1
                go_still_tail 9, (by kernel_rfl)
                change wpList _ _ _ _ _ (World.drew _)
                go_wp2_with fail
                replace M := Lib.hid (Mem.step (a' := Loc.k4f (w.heap.size + 1) (.int .i64 (s.p + xp)) (.int .i64 (s.c + xc)) (.int .i64 (s.m + xm)) (.int .i64 (s.r + xr))) M.out (K4f.s3 M.out.1 (.int .i64 (s.r + xr))) (Chg.set _ (w.heap.size + 1) 3 _) (by (repeat' (first | exact True.intro | refine And.intro (fun k hk e => ?_) ?_)) <;> (first | exact e | ((try dsimp only [Loc.c1, Loc.c4, Loc.k4f, Loc.c2, Loc.k1, Loc.k2, Loc.k3, Loc.k4, Loc.k6, Loc.fr, Loc.bl, Loc.own, Loc.sz, Loc.rd, Loc.rdI, Loc.rdS, Loc.rdM, Loc.rdT, Loc.ow, Loc.owI, Loc.owN, Loc.set, Loc.ns, Loc.cg, Loc.pb, silD, plD] at hk e) <;> omega)))).drew
                exact ⟨⟨j + 1, addC s ⟨xp, xc, xm, xr⟩, by omega, by go_num, HNX, HBN, Lib.hid ⟨M.out.1, M.out.2.1, M.out.2.2.1, True.intro⟩⟩, by simp [intOf]; omega⟩
      · obtain rfl : j = l.length := by omega
        have hbd := HB.out
        have hb2 : (0 ≤ s.p ∧ s.p ≤ 1073741824) ∧ (0 ≤ s.c ∧ s.c ≤ 1073741824) ∧ (0 ≤ s.m ∧ s.m ≤ 1073741824) ∧ (0 ≤ s.r ∧ s.r ≤ 1073741824) := by unfold Bd at hbd; omega
        have HN : Hid (FitE l = fitF s) := Lib.hid (by rw [HE.out, HT.out, List.drop_length]; rfl)
        clear hbd HT HE
        obtain ⟨⟨q1, q2⟩, ⟨q3, q4⟩, ⟨q5, q6⟩, ⟨q7, q8⟩⟩ := hb2
        by_cases hp0 : s.p = 0
        · have hd2 : (s.p == 0) = true := by simpa using hp0
          have HF : Hid (fitF s = FE.err 10) := Lib.hid (by unfold fitF; rw [if_pos (.inr hp0)])
          clear hp0
          go_wp2_with fail
          refine ret_B2t rfl rfl rfl rfl (K2.set M.out.2.1 _ _) (HR.out _ _ ⟨?_, (Mem.step (a' := Loc.k2 w.heap.size (.int .i64 0) (.int .i64 0)) M.out.2 (K2.set M.out.2.1 _ _) (Chg.set2 _ w.heap.size 0 1 _ _) (by (repeat' (first | exact True.intro | refine And.intro (fun k hk e => ?_) ?_)) <;> (first | exact e | ((try dsimp only [Loc.c1, Loc.c4, Loc.k4f, Loc.c2, Loc.k1, Loc.k2, Loc.k3, Loc.k4, Loc.k6, Loc.fr, Loc.bl, Loc.own, Loc.sz, Loc.rd, Loc.rdI, Loc.rdS, Loc.rdM, Loc.rdT, Loc.ow, Loc.owI, Loc.owN, Loc.set, Loc.ns, Loc.cg, Loc.pb, silD, plD] at hk e) <;> omega)))).2.1.1⟩)
          rw [HN.out, HF.out]
          rfl
        · have hd2 : (s.p == 0) = false := by simpa using hp0
          by_cases hc0 : s.c = 0
          · have hd1 : (s.c == 0) = true := by simpa using hc0
            have HF : Hid (fitF s = FE.err 10) := Lib.hid (by unfold fitF; rw [if_pos (.inl hc0)])
            clear hc0 hp0
            go_wp2_with fail
            refine ret_B2t rfl rfl rfl rfl (K2.set M.out.2.1 _ _) (HR.out _ _ ⟨?_, (Mem.step (a' := Loc.k2 w.heap.size (.int .i64 0) (.int .i64 0)) M.out.2 (K2.set M.out.2.1 _ _) (Chg.set2 _ w.heap.size 0 1 _ _) (by (repeat' (first | exact True.intro | refine And.intro (fun k hk e => ?_) ?_)) <;> (first | exact e | ((try dsimp only [Loc.c1, Loc.c4, Loc.k4f, Loc.c2, Loc.k1, Loc.k2, Loc.k3, Loc.k4, Loc.k6, Loc.fr, Loc.bl, Loc.own, Loc.sz, Loc.rd, Loc.rdI, Loc.rdS, Loc.rdM, Loc.rdT, Loc.ow, Loc.owI, Loc.owN, Loc.set, Loc.ns, Loc.cg, Loc.pb, silD, plD] at hk e) <;> omega)))).2.1.1⟩)
            rw [HN.out, HF.out]
            rfl
          · have hd1 : (s.c == 0) = false := by simpa using hc0
            obtain ⟨hH1, hH2⟩ := fit_half (s := s) (by omega) (by omega) (by omega) (by omega)
            have hna := nf_bd (n := s.c - s.m) (d := s.c) (B := 1073741824) (by omega) (by omega) (by omega) (by omega)
            have hnb := nf_bd (n := s.p - s.r) (d := s.p) (B := 1073741824) (by omega) (by omega) (by omega) (by omega)
            have hma : makeE (s.c - s.m) s.c = FE.of (some (nf (s.c - s.m) s.c)) := by rw [makeE_pos (by omega), mkF_nf (by omega) (by omega) (by omega) (by omega)]
            have hmb : makeE (s.p - s.r) s.p = FE.of (some (nf (s.p - s.r) s.p)) := by rw [makeE_pos (by omega), mkF_nf (by omega) (by omega) (by omega) (by omega)]
            have HA := Lib.hid (fun W => make_any (s.c - s.m) s.c W (by omega) (by omega))
            have HBm := Lib.hid (fun W => make_any (s.p - s.r) s.p W (by omega) (by omega))
            rw [hma] at HA
            rw [hmb] at HBm
            generalize nf (s.c - s.m) s.c = a at *
            generalize nf (s.p - s.r) s.p = b at *
            have HHF := Lib.hid (fun W => half_any a b W ⟨hna.2.2.1, hna.2.2.2⟩ ⟨hnb.2.2.1, hnb.2.2.2⟩ ⟨hna.1, hna.2.1⟩ ⟨hnb.1, hnb.2.1⟩ hH2)
            have HF : Hid (fitF s = FE.of (mkF (hN a b) (2 * hD a b))) := Lib.hid hH1
            generalize FE.of (mkF (hN a b) (2 * hD a b)) = fe at *
            dsimp only [FE.of] at HA HBm
            have tok1 : True := trivial
            clear hH1 hH2 hna hnb hma hmb hc0 hp0
            go_wp2_with (first
              | (have _t := tok1; go_at_call 40; clear _t tok1; refine (HA.out _).mono ?_; rintro e w5 ⟨rfl, hb5⟩; replace M := Lib.hid (M.out.below hb5); have MA : Hid (Mem [Loc.k2 w5.heap.size (.int .i64 a.n) (.int .i64 a.d), Loc.k4f (w.heap.size + 1) _ _ _ _, Loc.k2 w.heap.size _ _, Loc.bl w.heap.size w] (w5.alloc (.cells #[.int .i64 a.n, .int .i64 a.d] 39))) := Lib.hid ⟨K2.new _ _ _ _, M.out.alloc _⟩; clear hb5; replace hks := M.out.1; have hka := MA.out.1)
              | (go_at_call 40; refine (HBm.out _).mono ?_; rintro e w6 ⟨rfl, hb6⟩; replace MA := Lib.hid (MA.out.below hb6); have MB : Hid (Mem [Loc.k2 w6.heap.size (.int .i64 b.n) (.int .i64 b.d), Loc.k2 w5.heap.size (.int .i64 a.n) (.int .i64 a.d), Loc.k4f (w.heap.size + 1) _ _ _ _, Loc.k2 w.heap.size _ _, Loc.bl w.heap.size w] (w6.alloc (.cells #[.int .i64 b.n, .int .i64 b.d] 39))) := Lib.hid ⟨K2.new _ _ _ _, MA.out.alloc _⟩; have hs6 := hb6.size; simp only [World.size_alloc] at hs6; clear hb6; replace hks := MA.out.2.1; replace hka := MA.out.1; have hkb := MB.out.1)
              | (go_at_call 41; refine (HHF.out _).mono ?_; rintro e w7 ⟨rfl, hb7⟩; replace MB := Lib.hid (MB.out.below hb7); clear hb7; replace hk2 := MB.out.2.2.2.1))
            have MF := (show Mem [Loc.k2 w.heap.size (.int .i64 0) (.int .i64 0), Loc.bl w.heap.size w] w7 from MB.out.2.2.2)
            refine ret_B2t rfl rfl rfl rfl (K2.set MF.1 _ _) (HR.out _ _ ⟨?_, (Mem.step (a' := Loc.k2 w.heap.size (.int .i64 fe.n) (.int .i64 fe.d)) MF (K2.set MF.1 _ _) (Chg.set2 _ w.heap.size 0 1 _ _) (by (repeat' (first | exact True.intro | refine And.intro (fun k hk e => ?_) ?_)) <;> (first | exact e | ((try dsimp only [Loc.c1, Loc.c4, Loc.k4f, Loc.c2, Loc.k1, Loc.k2, Loc.k3, Loc.k4, Loc.k6, Loc.fr, Loc.bl, Loc.own, Loc.sz, Loc.rd, Loc.rdI, Loc.rdS, Loc.rdM, Loc.rdT, Loc.ow, Loc.owI, Loc.owN, Loc.set, Loc.ns, Loc.cg, Loc.pb, silD, plD] at hk e) <;> omega)))).2.1.1⟩)
            rw [HN.out, HF.out]
            rfl
end Go.Proofs.Ytmhbfoaecebobaa
