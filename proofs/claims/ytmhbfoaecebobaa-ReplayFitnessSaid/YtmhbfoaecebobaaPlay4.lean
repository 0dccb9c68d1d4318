/-
  (*player).finish. Conditions: none.
-/
import Derived.Test.YtmhbfoaecebobaaPlay3
namespace Go.Proofs.Ytmhbfoaecebobaa
set_option linter.unusedSimpArgs false
set_option linter.unusedVariables false
open Go.RowKit

theorem finA_pm {n : Net} {s : Pl} {B : Nat} (hv : validB n = true) (h : PM n s) (hb : s.big = false) (hs : Sm s B) : PM n (finA n s) ∧ Sm (finA n s) (B + 200) ∧ (finA n s).big = false := by
  unfold finA
  cases hw : silE n (goodF n) s.m with
  | some way =>
    obtain ⟨m', h1, h2, h3, h4⟩ := silE_some (h.ok hb) hw
    obtain ⟨a1, a2, a3, a4, a5⟩ := takeAll_run hv h hb h1
    exact ⟨a1, (Sm.all hv hs (runTo_rg h1)).mono (by omega), a3⟩
  | none => exact ⟨h, hs.mono (by omega), hb⟩
theorem sumI_take : ∀ (l : List Int) (k : Nat), k < l.length → sumI (l.take (k + 1)) = sumI (l.take k) + gti l k
  | [], k, h => by simp at h
  | x :: l, 0, h => by simp [sumI, gti]
  | x :: l, k + 1, h => by
    have := sumI_take l k (by simpa using h)
    have e : gti (x :: l) (k + 1) = gti l k := by simp [gti]
    rw [List.take_succ_cons, List.take_succ_cons, sumI, sumI, this, e]
    omega
theorem sumI_tk : ∀ (l : List Int) (j : Nat), (∀ i, 0 ≤ gti l i) → 0 ≤ sumI (l.take j) ∧ sumI (l.take j) ≤ sumI l
  | [], j, _ => by simp [sumI]
  | x :: l, 0, h => by
    have := sumI_ge (x :: l) h
    simp only [List.take_zero, sumI] at this ⊢
    omega
  | x :: l, j + 1, h => by
    have h0 := h 0
    have e : gti (x :: l) 0 = x := by simp [gti]
    rw [e] at h0
    have := sumI_tk l j (fun i => by have := h (i + 1); have e : gti (x :: l) (i + 1) = gti l i := by simp [gti]
                                     rwa [e] at this)
    rw [List.take_succ_cons, sumI, sumI]
    omega

set_option maxRecDepth 100000 in
set_option maxHeartbeats 4000000 in
theorem finish_any (n : Net) (s : Pl) (B g gm np cm r0 r1 lo hi : Nat) (vt vr : Value) (w : World) (hv : RdT w lo hi vt n.trans) (hval : validB n = true) (hpm : PM n s) (hbig : s.big = false) (hsm : Sm s B) (hB : B ≤ 800000)
    (hnp : s.m.length = np) (hM : Mem [Loc.pb (plA n (vt) (.slice (some ⟨gm, 0, none⟩) np cm) (s).c vr (s).big) g, Loc.owI gm (gm + 1) (.slice (some ⟨gm, 0, none⟩) np cm) (s).m, Loc.owI r0 r1 vr (s).run] w) (hg : g ≠ gm) (hgr : g < r0 ∨ r1 ≤ g) (hmr : gm < r0 ∨ r1 ≤ gm) (h1 : hi ≤ g) (h2 : hi ≤ gm) (h3 : hi ≤ r0) (h4 : r1 ≤ w.heap.size) (h5 : r0 ≤ w.heap.size) :
    Calls Try.prog 31 #[.pointer (some ⟨g, 0, none⟩)] w fun e w' => ∃ vr' r0' r1', e = .returned (.tuple #[]) ∧ Mem [Loc.pb (plA n (vt) (.slice (some ⟨gm, 0, none⟩) np cm) (finE n s).c vr' (finE n s).big) g, Loc.owI gm (gm + 1) (.slice (some ⟨gm, 0, none⟩) np cm) (finE n s).m, Loc.owI r0' r1' vr' (finE n s).run] w' ∧ (r0' = r0 ∧ r1' = r1 ∨ w.heap.size ≤ r0') ∧ r0' ≤ w'.heap.size ∧ r1' ≤ w'.heap.size ∧ Chg (plD g gm r0 r1) w w' := by
  have hmark := hpm.ok hbig
  have hgw : g < w.heap.size := PB.lt hM.1
  have hgmw : gm < w.heap.size := by
    have hnz := validB_places hval
    have hln := hpm.len
    obtain ⟨g', cap, hv', _, h5, h6⟩ := Own.blk hM.2.1 (by omega)
    injection hv' with hv' _ _
    injection hv' with hv'
    injection hv' with hv' _ _
    omega
  obtain ⟨ks, hks⟩ : ∃ k : Nat, n.sink = k := ⟨n.sink.toNat, by have := (validB_ends hval).2; omega⟩
  have hksn : ks < np := by have := (validB_ends hval).2; have := hpm.len; omega
  have hnp40 : np ≤ 40 := by have := (validB_places hval).2.1; have := hpm.len; omega
  have hb0 : Below w.heap.size w (w.alloc (.cells #[.pointer (some ⟨g, 0, none⟩)] 68)) := (Below.refl _ _).alloc (Nat.le_refl _) _
  have M : Hid (Mem [Loc.pb (plA n (vt) (.slice (some ⟨gm, 0, none⟩) np cm) (s).c vr (s).big) g, Loc.owI gm (gm + 1) (.slice (some ⟨gm, 0, none⟩) np cm) (s).m, Loc.owI r0 r1 vr (s).run, Loc.c1 w.heap.size 0 (.pointer (some ⟨g, 0, none⟩)), Loc.rdT lo hi vt n.trans, Loc.cg (plD g gm r0 r1) w] (w.alloc (.cells #[.pointer (some ⟨g, 0, none⟩)] 68))) := Lib.hid (by
    have hal := hM.below hb0
    exact ⟨hal.1, hal.2.1, hal.2.2.1, by simp [C1, go_sem], hv.after hb0, ⟨hb0.os, hb0.tape, hb0.output, hb0.size, fun k hk _ => hb0.block k hk⟩, True.intro⟩)
  have HSI : Hid (∀ W, Mem [Loc.pb (plA n (vt) (.slice (some ⟨gm, 0, none⟩) np cm) (s).c vr (s).big) g, Loc.owI gm (gm + 1) (.slice (some ⟨gm, 0, none⟩) np cm) (s).m, Loc.owI r0 r1 vr (s).run, Loc.c1 w.heap.size 0 (.pointer (some ⟨g, 0, none⟩)), Loc.rdT lo hi vt n.trans, Loc.cg (plD g gm r0 r1) w] W → Calls Try.prog 71 #[netV n vt, .slice (some ⟨gm, 0, none⟩) np cm, .func (.func 77) #[] #[.pointer (some ⟨w.heap.size, 0, none⟩)]] W (RetW W (silE n (goodF n) s.m))) :=
    Lib.hid (fun W hW => silent_any n s.m vt _ lo hi gm (gm + 1) 77 ent_fin1 #[.pointer (some ⟨w.heap.size, 0, none⟩)] (goodF n) W hW.2.2.2.2.1 (Own.rd hW.2.1) hmark (by have := hW.2.2.2.2.2.1.size; omega)
      (fun x lo2 hi2 v W2 hx hb2 hr2 => fin1_any n x g _ lo2 hi2 ks v W2 (cell_aft hb2 hW.2.2.2.1) hks (cell_aft hb2 (PB.k11 hW.1).2.2.2.1) hr2 (by have := (markB_len hx).2.2; have := hpm.len; omega)))
  have HVAL := Lib.hid hval
  have HPM := Lib.hid hpm
  have HSM := Lib.hid hsm
  have HNP := Lib.hid hnp
  have HMK := Lib.hid hmark
  have HBG := Lib.hid hbig
  have HKS := Lib.hid hks
  have HFA := Lib.hid (finA_pm hval hpm hbig hsm)
  have HFE : Hid (finE n s = ⟨(takeIn1 (finA n s) ks).m, ⟨(takeIn1 (finA n s) ks).c.p, (takeIn1 (finA n s) ks).c.c, (takeIn1 (finA n s) ks).c.m, (takeIn1 (finA n s) ks).c.r + sumI (takeIn1 (finA n s) ks).m⟩, (finA n s).run, (finA n s).big⟩) := Lib.hid (by unfold finE; rw [hks])
  have HFS : Hid (finA n s = match silE n (goodF n) s.m with | some way => takeAll n way s | none => s) := Lib.hid rfl
  obtain ⟨A, c, rfl, hc, hmm⟩ := hv.form
  clear hM hv hval hpm hsm hnp hmark hbig hb0
  obtain ⟨sA, hsA⟩ : ∃ y, finA n s = y := ⟨_, rfl⟩
  rw [hsA] at HFA HFE HFS
  clear hsA
  clear hks
  refine calls_cps fun R hR => ?_
  have HR := Lib.hid hR
  clear hR
  go_enter Try.func31, Try.ntmps31
  obtain ⟨rs, hrs⟩ : ∃ r, silE n (goodF n) s.m = r := ⟨_, rfl⟩
  rw [hrs] at HSI HFS
  have hk11 := PB.k11 M.out.1
  have hc1 := M.out.2.2.2.1
  go_wp2_with fail
  go_region_held3 (fun W => C1 W w.heap.size 0 (.pointer (some ⟨g, 0, none⟩)) ∧ K11 W g (.int .i64 n.places) (.slice A n.trans.length c) (.int .i64 n.source) (.int .i64 n.sink) (.slice (some ⟨gm, 0, none⟩) np cm) (.int .i64 s.c.p) (.int .i64 s.c.c) (.int .i64 s.c.m) (.int .i64 s.c.r) vr (.bool s.big)) (exact ⟨hc1, hk11⟩) (first
    | (go_at_call 71; refine (HSI.out _ (by first | exact M.out | exact M.out.drew)).mono ?_; rintro e w6 ⟨A6, c6, rfl, hr6, hb6⟩; have HR6 := Lib.hid (hr6.mono (lo' := w.heap.size + 1) (by simp [heap_drew]) (Nat.le_refl _)); have hz6 := hb6.size; simp only [World.size_alloc, heap_drew] at hz6; replace M := Lib.hid (Mem.below (by first | exact M.out | exact M.out.drew) hb6); clear hb6 hr6; replace hk11 := PB.k11 M.out.1; replace hc1 := M.out.2.2.2.1))
  go_upto_if 19 with (fail)
  go_cut [] (fun wx => ∃ (vr2 : Value) (b0 b1 : Nat), (b0 = r0 ∧ b1 = r1 ∨ w.heap.size ≤ b0) ∧ w.heap.size + 1 ≤ wx.heap.size ∧ b0 ≤ wx.heap.size ∧ b1 ≤ wx.heap.size ∧ (w.heap.size < b0 ∨ b1 ≤ w.heap.size) ∧ Hid (Mem [Loc.pb (plA n (.slice A n.trans.length c) (.slice (some ⟨gm, 0, none⟩) np cm) (sA).c vr2 (sA).big) g, Loc.owI gm (gm + 1) (.slice (some ⟨gm, 0, none⟩) np cm) (sA).m, Loc.owI b0 b1 vr2 (sA).run, Loc.c1 w.heap.size 0 (.pointer (some ⟨g, 0, none⟩)), Loc.rdT lo hi (.slice A n.trans.length c) n.trans, Loc.cg (plD g gm r0 r1) w] wx))
  case first =>
    cases rs with
    | some way =>
      obtain ⟨m', hr1, hr2, hr3, hr4⟩ := silE_some HMK.out hrs
      have HRG := Lib.hid (runTo_rg hr1)
      have hr5 : way.length ≤ 200 := by omega
      have HSA : Hid (takeAll n way s = sA) := Lib.hid HFS.out.symm
      clear hr1 hr2 hr3 hr4 hrs
      go_wp2_with (first
        | (go_at_call 74; refine (takeAll_any n s way B g gm np cm r0 r1 lo hi (w.heap.size + 1) w6.heap.size _ vr _ _ M.out.2.2.2.2.1 HVAL.out HRG.out HPM.out HSM.out (by omega) HNP.out ⟨M.out.1, M.out.2.1, M.out.2.2.1, True.intro⟩ hg hgr hmr h1 h2 h3 (by have := M.out.2.2.2.2.2.1.size; omega) (by have := M.out.2.2.2.2.2.1.size; omega) HR6.out (by omega) (by omega) (by omega) (Nat.le_refl _)).mono ?_; rintro e w7 ⟨vr2, b0, b1, rfl, hM2, hbb, hb0, hb1, hch⟩; rw [HSA.out] at hM2; have M2 : Hid (Mem [Loc.pb (plA n (.slice A n.trans.length c) (.slice (some ⟨gm, 0, none⟩) np cm) (sA).c vr2 (sA).big) g, Loc.owI gm (gm + 1) (.slice (some ⟨gm, 0, none⟩) np cm) (sA).m, Loc.owI b0 b1 vr2 (sA).run, Loc.c1 w.heap.size 0 (.pointer (some ⟨g, 0, none⟩)), Loc.rdT lo hi (.slice A n.trans.length c) n.trans, Loc.cg (plD g gm r0 r1) w] w7) := Lib.hid ⟨hM2.1, hM2.2.1, hM2.2.2.1, Mem.chg hch M.out.2.2.2 (by (repeat' (first | exact True.intro | refine And.intro (fun k hk e => ?_) ?_)) <;> (first | exact e | ((try dsimp only [Loc.c1, Loc.c2, Loc.k1, Loc.k2, Loc.k3, Loc.k4, Loc.k6, Loc.fr, Loc.bl, Loc.own, Loc.sz, Loc.rd, Loc.rdI, Loc.rdS, Loc.rdM, Loc.rdT, Loc.ow, Loc.owI, Loc.owN, Loc.set, Loc.ns, Loc.cg, Loc.pb, silD, plD] at hk e) <;> omega)))⟩; have hs7 := hch.size; have hs6 := M.out.2.2.2.2.2.1.size; clear hM2 hch M))
      go_meet
      exact ⟨vr2, b0, b1, by omega, by omega, hb0, hb1, by omega, M2⟩
    | none =>
      have HSA : Hid (s = sA) := Lib.hid HFS.out.symm
      rw [HSA.out] at M
      clear hrs
      go_wp2_with fail
      go_meet
      exact ⟨vr, r0, r1, .inl ⟨rfl, rfl⟩, by omega, by omega, by omega, .inr h4, M⟩
  case rest =>
    clear M hk11 hc1 HR6 hz6 HSI HFS hrs
    obtain ⟨vr2, b0, b1, hbb, hbs, hb0, hb1, hbw, M⟩ := hcut
    have hk11 := PB.k11 M.out.1
    rw [HKS.out] at hk11
    have hc1 := M.out.2.2.2.1
    have hq := HFA.out.1.c_ge
    have hqc := HFA.out.2.1.c
    have hqm := HFA.out.1.mc
    have hqt := (HFA.out.1.small.2.2 ks)
    have hqp := HFA.out.2.1.p
    have hlnA : (sA.m.length : Int) = np := by have a1 := HFA.out.1.len; have a2 := HPM.out.len; have a3 := HNP.out; omega
    have hkl : ks < sA.m.length := by omega
    have hat := OwnI.at1 M.out.2.1 (k := ks) hkl
    have hqq : 0 ≤ sA.c.c ∧ sA.c.c ≤ 1000000000 ∧ 0 ≤ sA.c.m ∧ sA.c.m ≤ 1000000000 ∧ 0 ≤ gti sA.m ks ∧ gti sA.m ks ≤ 1000000000 := by omega
    clear hq hqc hqm hqt hqp hlnA
    obtain ⟨e1, e2, e3, e4, e5, e6⟩ := hqq
    have M1 := Lib.hid (Mem.step (a' := Loc.pb (plA n (.slice A n.trans.length c) (.slice (some ⟨gm, 0, none⟩) np cm) ⟨sA.c.p, sA.c.c + 1, sA.c.m, sA.c.r⟩ vr2 sA.big) g) M.out (PB.set M.out.1 6 (.int .i64 (sA.c.c + 1)) rfl) (Chg.set _ g 6 _) (by (repeat' (first | exact True.intro | refine And.intro (fun k hk e => ?_) ?_)) <;> (first | exact e | ((try dsimp only [Loc.c1, Loc.c2, Loc.k1, Loc.k2, Loc.k3, Loc.k4, Loc.k6, Loc.fr, Loc.bl, Loc.own, Loc.sz, Loc.rd, Loc.rdI, Loc.rdS, Loc.rdM, Loc.rdT, Loc.ow, Loc.owI, Loc.owN, Loc.set, Loc.ns, Loc.cg, Loc.pb, silD, plD] at hk e) <;> omega))))
    go_upto_region 5 with (fail)
    go_quiet (fail)
    go_upto_if 43 with (fail)
    go_cut [] (fun wx => w.heap.size + 1 ≤ wx.heap.size ∧ b0 ≤ wx.heap.size ∧ b1 ≤ wx.heap.size ∧ Hid (Mem [Loc.pb (plA n (.slice A n.trans.length c) (.slice (some ⟨gm, 0, none⟩) np cm) ((takeIn1 sA ks)).c vr2 ((takeIn1 sA ks)).big) g, Loc.owI gm (gm + 1) (.slice (some ⟨gm, 0, none⟩) np cm) ((takeIn1 sA ks)).m, Loc.owI b0 b1 vr2 ((takeIn1 sA ks)).run, Loc.c1 w.heap.size 0 (.pointer (some ⟨g, 0, none⟩)), Loc.rdT lo hi (.slice A n.trans.length c) n.trans, Loc.cg (plD g gm r0 r1) w] wx))
    case first =>
      have M2 := Lib.hid (M1.out.drewN nq)
      have hs0 : w.heap.size + 1 ≤ ((wc.setCell ⟨g, 6, none⟩ (.int .i64 (sA.c.c + 1))).drewN nq).heap.size := by show _ ≤ (wc.setCell _ _).heap.size; rw [size_setCell]; exact hbs
      have hs1 : b0 ≤ ((wc.setCell ⟨g, 6, none⟩ (.int .i64 (sA.c.c + 1))).drewN nq).heap.size := by show _ ≤ (wc.setCell _ _).heap.size; rw [size_setCell]; exact hb0
      have hs2 : b1 ≤ ((wc.setCell ⟨g, 6, none⟩ (.int .i64 (sA.c.c + 1))).drewN nq).heap.size := by show _ ≤ (wc.setCell _ _).heap.size; rw [size_setCell]; exact hb1
      clear hk11 hc1 hat M M1 hbs hb0 hb1
      generalize (wc.setCell ⟨g, 6, none⟩ (.int .i64 (sA.c.c + 1))).drewN nq = W1 at *
      have hk11 := PB.k11 M2.out.1
      rw [HKS.out] at hk11
      have hc1 := M2.out.2.2.2.1
      have hat := OwnI.at1 M2.out.2.1 (k := ks) hkl
      by_cases hpos : 0 < gti sA.m ks
      · have HE : Hid (takeIn1 sA ks = ⟨sA.m.set ks (gti sA.m ks - 1), ⟨sA.c.p, sA.c.c + 1, sA.c.m, sA.c.r⟩, sA.run, sA.big⟩) := Lib.hid (by unfold takeIn1; simp only [Int.toNat_natCast]; rw [if_pos hpos])
        have hd1 : decide ((0 : Int) < gti sA.m ks) = true := by simpa using hpos
        go_wp2_with fail
        go_still_tail 13, (by kernel_rfl)
        change wpList _ _ _ _ _ W1.drew
        have M3 := M2.out.drew
        go_wp2_with fail
        go_meet
        have M4 := Mem.step2 (b' := Loc.owI gm (gm + 1) (.slice (some ⟨gm, 0, none⟩) np cm) (sA.m.set ks (gti sA.m ks - 1))) M3 (OwnI.set M3.2.1 ks (gti sA.m ks - 1)) (Chg.set _ gm ks _) (by (repeat' (first | exact True.intro | refine And.intro (fun k hk e => ?_) ?_)) <;> (first | exact e | ((try dsimp only [Loc.c1, Loc.c2, Loc.k1, Loc.k2, Loc.k3, Loc.k4, Loc.k6, Loc.fr, Loc.bl, Loc.own, Loc.sz, Loc.rd, Loc.rdI, Loc.rdS, Loc.rdM, Loc.rdT, Loc.ow, Loc.owI, Loc.owN, Loc.set, Loc.ns, Loc.cg, Loc.pb, silD, plD] at hk e) <;> omega)))
        exact ⟨by simp only [heap_drew, size_setCell]; exact hs0, by simp only [heap_drew, size_setCell]; exact hs1, by simp only [heap_drew, size_setCell]; exact hs2, Lib.hid (by rw [HE.out]; exact M4)⟩
      · have HE : Hid (takeIn1 sA ks = ⟨sA.m, ⟨sA.c.p, sA.c.c + 1, sA.c.m + 1, sA.c.r⟩, sA.run, sA.big⟩) := Lib.hid (by unfold takeIn1; simp only [Int.toNat_natCast]; rw [if_neg hpos])
        have hd1 : decide ((0 : Int) < gti sA.m ks) = false := by simpa using hpos
        go_wp2_with fail
        go_meet
        have M3 := Mem.step (a' := Loc.pb (plA n (.slice A n.trans.length c) (.slice (some ⟨gm, 0, none⟩) np cm) ⟨sA.c.p, sA.c.c + 1, sA.c.m + 1, sA.c.r⟩ vr2 sA.big) g) M2.out (PB.set M2.out.1 7 (.int .i64 (sA.c.m + 1)) rfl) (Chg.set _ g 7 _) (by (repeat' (first | exact True.intro | refine And.intro (fun k hk e => ?_) ?_)) <;> (first | exact e | ((try dsimp only [Loc.c1, Loc.c2, Loc.k1, Loc.k2, Loc.k3, Loc.k4, Loc.k6, Loc.fr, Loc.bl, Loc.own, Loc.sz, Loc.rd, Loc.rdI, Loc.rdS, Loc.rdM, Loc.rdT, Loc.ow, Loc.owI, Loc.owN, Loc.set, Loc.ns, Loc.cg, Loc.pb, silD, plD] at hk e) <;> omega)))
        exact ⟨by rw [size_setCell]; exact hs0, by rw [size_setCell]; exact hs1, by rw [size_setCell]; exact hs2, Lib.hid (by rw [HE.out]; exact M3)⟩
    case rest =>
      clear M M1 hk11 hc1 hat hbs hb0 hb1
      obtain ⟨hbs, hb0, hb1, M⟩ := hcut
      have HPT1 := Lib.hid (HFA.out.1.pt.in1 (k := (ks : Int)) (by omega) (by have := HKS.out; have := (validB_ends HVAL.out).2; omega))
      have HC1 : Hid ((takeIn1 sA ks).c.p = sA.c.p ∧ (takeIn1 sA ks).c.r = sA.c.r ∧ (takeIn1 sA ks).run = sA.run ∧ (takeIn1 sA ks).big = sA.big) := Lib.hid (by unfold takeIn1; split <;> exact ⟨rfl, rfl, rfl, rfl⟩)
      obtain ⟨s1, hs1⟩ : ∃ y, takeIn1 sA ks = y := ⟨_, rfl⟩
      rw [hs1] at HPT1 HC1 HFE M
      clear hs1
      have hk11 := PB.k11 M.out.1
      have hc1 := M.out.2.2.2.1
      have hr0 := HPT1.out.r0
      have hpm2 := HPT1.out.small
      have hbal := HPT1.out.bal
      have hc0 := HPT1.out.c0
      have hmc := HPT1.out.mc
      have hsp := HFA.out.2.1.p
      have hsr := HFA.out.2.1.r
      have hc2 := HC1.out
      have hqq : 0 ≤ s1.c.r ∧ s1.c.r ≤ 1000000000 ∧ sumI s1.m ≤ 1000000000 := by have := hc2.1; have := hc2.2.1; have := hpm2.2.1; omega
      have HTK : Hid (∀ j, 0 ≤ sumI (s1.m.take j) ∧ sumI (s1.m.take j) ≤ sumI s1.m) := Lib.hid (fun j => sumI_tk s1.m j HPT1.out.nn)
      have hlnA : s1.m.length = np := by have a1 := HPT1.out.len; have a2 := HPM.out.len; have a3 := HNP.out; omega
      have HLN := Lib.hid hlnA
      have HGN : Hid (∀ j, 0 ≤ gti s1.m j ∧ gti s1.m j ≤ 1000000000) := Lib.hid (fun j => by have := hpm2.2.2 j; have := hc2.1; omega)
      clear hr0 hpm2 hbal hc0 hmc hsp hsr hc2 hlnA
      obtain ⟨e1, e2, e3⟩ := hqq
      go_wp2_with fail
      have M0 : Hid (Mem [Loc.pb (plA n (.slice A n.trans.length c) (.slice (some ⟨gm, 0, none⟩) np cm) ⟨s1.c.p, s1.c.c, s1.c.m, s1.c.r + sumI (s1.m.take 0)⟩ vr2 s1.big) g, Loc.owI gm (gm + 1) (.slice (some ⟨gm, 0, none⟩) np cm) s1.m, Loc.owI b0 b1 vr2 s1.run, Loc.c1 w.heap.size 0 (.pointer (some ⟨g, 0, none⟩)), Loc.rdT lo hi (.slice A n.trans.length c) n.trans, Loc.cg (plD g gm r0 r1) w] wc) := Lib.hid (by
        rw [List.take_zero]
        simp only [sumI, Int.add_zero]
        exact M.out)
      go_loopw [71, 5] (fun v71 _ wr => ∃ j : Nat, j ≤ np ∧ v71 = .int .i64 j ∧ b0 ≤ wr.heap.size ∧ b1 ≤ wr.heap.size ∧ Hid (Mem [Loc.pb (plA n (.slice A n.trans.length c) (.slice (some ⟨gm, 0, none⟩) np cm) ⟨s1.c.p, s1.c.c, s1.c.m, s1.c.r + sumI (s1.m.take j)⟩ vr2 s1.big) g, Loc.owI gm (gm + 1) (.slice (some ⟨gm, 0, none⟩) np cm) s1.m, Loc.owI b0 b1 vr2 s1.run, Loc.c1 w.heap.size 0 (.pointer (some ⟨g, 0, none⟩)), Loc.rdT lo hi (.slice A n.trans.length c) n.trans, Loc.cg (plD g gm r0 r1) w] wr)) (fun v71 _ _ => np - (intOf v71).toNat)
      case atStart => exact ⟨0, Nat.zero_le _, rfl, hb0, hb1, M0⟩
      case round =>
        clear M M0 hk11 hc1 hb0 hb1 hbs
        obtain ⟨j, hj, rfl, hb0, hb1, M⟩ := hrel
        have hk11 := PB.k11 M.out.1
        have hc1 := M.out.2.2.2.1
        have htk := HTK.out j
        by_cases hlt : j < np
        · have hat := OwnI.at1 M.out.2.1 (k := j) (by have := HLN.out; omega)
          have HSU : Hid (sumI (s1.m.take (j + 1)) = sumI (s1.m.take j) + gti s1.m j) := Lib.hid (sumI_take _ _ (by have := HLN.out; omega))
          have hgn := HGN.out j
          obtain ⟨q1, q2⟩ := htk
          obtain ⟨q3, q4⟩ := hgn
          generalize sumI (s1.m.take j) = S at *
          generalize gti s1.m j = X at *
          go_wp2_with fail
          have M1 := Lib.hid (Mem.step (a' := Loc.pb (plA n (.slice A n.trans.length c) (.slice (some ⟨gm, 0, none⟩) np cm) ⟨s1.c.p, s1.c.c, s1.c.m, s1.c.r + S + X⟩ vr2 s1.big) g) M.out (PB.set M.out.1 8 (.int .i64 (s1.c.r + S + X)) rfl) (Chg.set _ g 8 _) (by (repeat' (first | exact True.intro | refine And.intro (fun k hk e => ?_) ?_)) <;> (first | exact e | ((try dsimp only [Loc.c1, Loc.c2, Loc.k1, Loc.k2, Loc.k3, Loc.k4, Loc.k6, Loc.fr, Loc.bl, Loc.own, Loc.sz, Loc.rd, Loc.rdI, Loc.rdS, Loc.rdM, Loc.rdT, Loc.ow, Loc.owI, Loc.owN, Loc.set, Loc.ns, Loc.cg, Loc.pb, silD, plD] at hk e) <;> omega))))
          exact ⟨⟨j + 1, by omega, by go_num, by simp only [size_setCell]; exact hb0, by simp only [size_setCell]; exact hb1, Lib.hid (by rw [HSU.out, ← Int.add_assoc]; exact M1.out)⟩, by simp [intOf]; omega⟩
        · obtain rfl : j = np := by omega
          go_wp2_with fail
          go_end0
          refine HR.out _ _ ⟨vr2, b0, b1, rfl, ?_, hbb, hb0, hb1, M.out.2.2.2.2.2.1⟩
          rw [HFE.out, ← HC1.out.2.2.1, ← HC1.out.2.2.2]
          have hM := M.out
          rw [List.take_of_length_le (by rw [HLN.out]; exact Nat.le_refl _)] at hM
          exact ⟨hM.1, hM.2.1, hM.2.2.1, True.intro⟩
end Go.Proofs.Ytmhbfoaecebobaa
