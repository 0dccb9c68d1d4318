import Derived.Test.YtmhbfoaecebobaaJG5
import Derived.Test.YtmhbfoaecebobaaJG1
import Derived.Test.YtmhbfoaecebobaaJG4
section
namespace Go.Proofs.Ytmhbfoaecebobaa
set_option linter.unusedSimpArgs false
set_option linter.unusedVariables false
open Go.RowKit
theorem finA_pm {n : Net} {s : Pl} {B : Nat} (hv : zbc n = true) (h : PM n s) (hb : s.big = false) (hs : Sm s B) : PM n (finA n s) ∧ Sm (finA n s) (B + 200) ∧ (finA n s).big = false := by
  unfold finA
  cases hw : silE n (goodF n) s.m with
  | some way =>
    obtain ⟨m', h1, h2, h3, h4⟩ := silE_some (h.ok hb) hw
    obtain ⟨a1, a2, a3, a4, a5⟩ := takeAll_run hv h hb h1
    exact ⟨a1, (Sm.all hv hs (runTo_rg h1)).mono (by omega), a3⟩
  | none => exact ⟨h, hs.mono (by omega), hb⟩
theorem sumI_take : ∀ (l : List Int) (k : Nat), k < l.length → sumI (l.take (k + 1)) = sumI (l.take k) + gti l k
  | [], k, h => by simp at h
  | x :: l, 0, h => by simp [sumI, gti]
  | x :: l, k + 1, h => by
    have := sumI_take l k (by simpa using h)
    have e : gti (x :: l) (k + 1) = gti l k := by simp [gti]
    rw [List.take_succ_cons, List.take_succ_cons, sumI, sumI, this, e]
    omega
theorem sumI_tk : ∀ (l : List Int) (j : Nat), (∀ i, 0 ≤ gti l i) → 0 ≤ sumI (l.take j) ∧ sumI (l.take j) ≤ sumI l
  | [], j, _ => by simp [sumI]
  | x :: l, 0, h => by
    have := sumI_ge (x :: l) h
    simp only [List.take_zero, sumI] at this ⊢
    omega
  | x :: l, j + 1, h => by
    have h0 := h 0
    have e : gti (x :: l) 0 = x := by simp [gti]
    rw [e] at h0
    have := sumI_tk l j (fun i => by have := h (i + 1); have e : gti (x :: l) (i + 1) = gti l i := by simp [gti]
                                     rwa [e] at this)
    rw [List.take_succ_cons, sumI, sumI]
    omega
set_option maxRecDepth 100000 in
set_option maxHeartbeats 4000000 in
theorem finish_any (n : Net) (s : Pl) (B g gm np cm r0 r1 lo hi : Nat) (vt vr : Value) (w : World) (hv : RdT w lo hi vt n.trans) (hval : zbc n = true) (hpm : PM n s) (hbig : s.big = false) (hsm : Sm s B) (hB : B ≤ 800000)
    (hnp : s.m.length = np) (hM : Mem [Loc.pb (plA n (vt) (.slice (some ⟨gm, 0, none⟩) np cm) (s).c vr (s).big) g, Loc.owI gm (gm + 1) (.slice (some ⟨gm, 0, none⟩) np cm) (s).m, Loc.owI r0 r1 vr (s).run] w) (hg : g ≠ gm) (hgr : g < r0 ∨ r1 ≤ g) (hmr : gm < r0 ∨ r1 ≤ gm) (h1 : hi ≤ g) (h2 : hi ≤ gm) (h3 : hi ≤ r0) (h4 : r1 ≤ w.heap.size) (h5 : r0 ≤ w.heap.size) :
    Calls Try.prog 31 #[.pointer (some ⟨g, 0, none⟩)] w fun e w' => ∃ vr' r0' r1', e = .returned (.tuple #[]) ∧ Mem [Loc.pb (plA n (vt) (.slice (some ⟨gm, 0, none⟩) np cm) (finE n s).c vr' (finE n s).big) g, Loc.owI gm (gm + 1) (.slice (some ⟨gm, 0, none⟩) np cm) (finE n s).m, Loc.owI r0' r1' vr' (finE n s).run] w' ∧ (r0' = r0 ∧ r1' = r1 ∨ w.heap.size ≤ r0') ∧ r0' ≤ w'.heap.size ∧ r1' ≤ w'.heap.size ∧ Chg (plD g gm r0 r1) w w' := by
  have hmark := hpm.ok hbig
  have hgw : g < w.heap.size := PB.lt hM.1
  have hgmw : gm < w.heap.size := by
    have hnz := za8 hval
    have hln := hpm.len
    obtain ⟨g', cap, hv', _, h5, h6⟩ := Own.blk hM.2.1 (by omega)
    injection hv' with hv' _ _
    injection hv' with hv'
    injection hv' with hv' _ _
    omega
  obtain ⟨ks, hks⟩ : ∃ k : Nat, n.sink = k := ⟨n.sink.toNat, by have := (validB_ends hval).2; omega⟩
  have hksn : ks < np := by have := (validB_ends hval).2; have := hpm.len; omega
  have hnp40 : np ≤ 40 := by have := (za8 hval).2.1; have := hpm.len; omega
  have hb0 : Below w.heap.size w (w.alloc (.cells #[.pointer (some ⟨g, 0, none⟩)] 68)) := (Below.refl _ _).alloc (Nat.le_refl _) _
  have M : Hid (Mem [Loc.pb (plA n (vt) (.slice (some ⟨gm, 0, none⟩) np cm) (s).c vr (s).big) g, Loc.owI gm (gm + 1) (.slice (some ⟨gm, 0, none⟩) np cm) (s).m, Loc.owI r0 r1 vr (s).run, Loc.c1 w.heap.size 0 (.pointer (some ⟨g, 0, none⟩)), Loc.rdT lo hi vt n.trans, Loc.cg (plD g gm r0 r1) w] (w.alloc (.cells #[.pointer (some ⟨g, 0, none⟩)] 68))) := Lib.hid (by
    have hal := hM.below hb0
    exact ⟨hal.1, hal.2.1, hal.2.2.1, by simp [C1, go_sem], hv.after hb0, ⟨hb0.os, hb0.tape, hb0.output, hb0.size, fun k hk _ => hb0.block k hk⟩, True.intro⟩)
  have HSI : Hid (∀ W, Mem [Loc.pb (plA n (vt) (.slice (some ⟨gm, 0, none⟩) np cm) (s).c vr (s).big) g, Loc.owI gm (gm + 1) (.slice (some ⟨gm, 0, none⟩) np cm) (s).m, Loc.owI r0 r1 vr (s).run, Loc.c1 w.heap.size 0 (.pointer (some ⟨g, 0, none⟩)), Loc.rdT lo hi vt n.trans, Loc.cg (plD g gm r0 r1) w] W → Calls Try.prog 71 #[netV n vt, .slice (some ⟨gm, 0, none⟩) np cm, .func (.func 77) #[] #[.pointer (some ⟨w.heap.size, 0, none⟩)]] W (RetW W (silE n (goodF n) s.m))) :=
    Lib.hid (fun W hW => silent_any n s.m vt _ lo hi gm (gm + 1) 77 ent_fin1 #[.pointer (some ⟨w.heap.size, 0, none⟩)] (goodF n) W hW.2.2.2.2.1 (Own.rd hW.2.1) hmark (by have := hW.2.2.2.2.2.1.size; omega)
      (fun x lo2 hi2 v W2 hx hb2 hr2 => fin1_any n x g _ lo2 hi2 ks v W2 (cell_aft hb2 hW.2.2.2.1) hks (cell_aft hb2 (PB.k11 hW.1).2.2.2.1) hr2 (by have := (markB_len hx).2.2; have := hpm.len; omega)))
  have HVAL := Lib.hid hval
  have HPM := Lib.hid hpm
  have HSM := Lib.hid hsm
  have HNP := Lib.hid hnp
  have HMK := Lib.hid hmark
  have HBG := Lib.hid hbig
  have HKS := Lib.hid hks
  have HFA := Lib.hid (finA_pm hval hpm hbig hsm)
  have HFE : Hid (finE n s = ⟨(takeIn1 (finA n s) ks).m, ⟨(takeIn1 (finA n s) ks).c.p, (takeIn1 (finA n s) ks).c.c, (takeIn1 (finA n s) ks).c.m, (takeIn1 (finA n s) ks).c.r + sumI (takeIn1 (finA n s) ks).m⟩, (finA n s).run, (finA n s).big⟩) := Lib.hid (by unfold finE; rw [hks])
  have HFS : Hid (finA n s = match silE n (goodF n) s.m with | some way => takeAll n way s | none => s) := Lib.hid rfl
  obtain ⟨A, c, rfl, hc, hmm⟩ := hv.form
  clear hM hv hval hpm hsm hnp hmark hbig hb0
  obtain ⟨sA, hsA⟩ : ∃ y, finA n s = y := ⟨_, rfl⟩
  rw [hsA] at HFA HFE HFS
  clear hsA
  clear hks
  refine zax fun R hR => ?_
  have HR := Lib.hid hR
  clear hR
  go_enter Try.func31, Try.ntmps31
  obtain ⟨rs, hrs⟩ : ∃ r, silE n (goodF n) s.m = r := ⟨_, rfl⟩
  rw [hrs] at HSI HFS
  have hk11 := PB.k11 M.out.1
  have hc1 := M.out.2.2.2.1
  go_wp2_with fail
  go_region_held3 (fun W => C1 W w.heap.size 0 (.pointer (some ⟨g, 0, none⟩)) ∧ K11 W g (.int .i64 n.places) (.slice A n.trans.length c) (.int .i64 n.source) (.int .i64 n.sink) (.slice (some ⟨gm, 0, none⟩) np cm) (.int .i64 s.c.p) (.int .i64 s.c.c) (.int .i64 s.c.m) (.int .i64 s.c.r) vr (.bool s.big)) (exact ⟨hc1, hk11⟩) (first
    | (go_at_call 71; refine (HSI.out _ (by first | exact M.out | exact M.out.drew)).mono ?_; rintro e w6 ⟨A6, c6, rfl, hr6, hb6⟩; have HR6 := Lib.hid (hr6.mono (lo' := w.heap.size + 1) (by simp [heap_drew]) (Nat.le_refl _)); have hz6 := hb6.size; simp only [World.size_alloc, heap_drew] at hz6; replace M := Lib.hid (Mem.below (by first | exact M.out | exact M.out.drew) hb6); clear hb6 hr6; replace hk11 := PB.k11 M.out.1; replace hc1 := M.out.2.2.2.1))
  go_upto_if 19 with (fail)
  go_cut [] (fun wx => ∃ (vr2 : Value) (b0 b1 : Nat), (b0 = r0 ∧ b1 = r1 ∨ w.heap.size ≤ b0) ∧ w.heap.size + 1 ≤ wx.heap.size ∧ b0 ≤ wx.heap.size ∧ b1 ≤ wx.heap.size ∧ (w.heap.size < b0 ∨ b1 ≤ w.heap.size) ∧ Hid (Mem [Loc.pb (plA n (.slice A n.trans.length c) (.slice (some ⟨gm, 0, none⟩) np cm) (sA).c vr2 (sA).big) g, Loc.owI gm (gm + 1) (.slice (some ⟨gm, 0, none⟩) np cm) (sA).m, Loc.owI b0 b1 vr2 (sA).run, Loc.c1 w.heap.size 0 (.pointer (some ⟨g, 0, none⟩)), Loc.rdT lo hi (.slice A n.trans.length c) n.trans, Loc.cg (plD g gm r0 r1) w] wx))
  case first =>
    cases rs with
    | some way =>
      obtain ⟨m', hr1, hr2, hr3, hr4⟩ := silE_some HMK.out hrs
      have HRG := Lib.hid (runTo_rg hr1)
      have hr5 : way.length ≤ 200 := by omega
      have HSA : Hid (takeAll n way s = sA) := Lib.hid HFS.out.symm
      clear hr1 hr2 hr3 hr4 hrs
      go_wp2_with (first
        | (go_at_call 74; refine (takeAll_any n s way B g gm np cm r0 r1 lo hi (w.heap.size + 1) w6.heap.size _ vr _ _ M.out.2.2.2.2.1 HVAL.out HRG.out HPM.out HSM.out (by omega) HNP.out ⟨M.out.1, M.out.2.1, M.out.2.2.1, True.intro⟩ hg hgr hmr h1 h2 h3 (by have := M.out.2.2.2.2.2.1.size; omega) (by have := M.out.2.2.2.2.2.1.size; omega) HR6.out (by omega) (by omega) (by omega) (Nat.le_refl _)).mono ?_; rintro e w7 ⟨vr2, b0, b1, rfl, hM2, hbb, hb0, hb1, hch⟩; rw [HSA.out] at hM2; have M2 : Hid (Mem [Loc.pb (plA n (.slice A n.trans.length c) (.slice (some ⟨gm, 0, none⟩) np cm) (sA).c vr2 (sA).big) g, Loc.owI gm (gm + 1) (.slice (some ⟨gm, 0, none⟩) np cm) (sA).m, Loc.owI b0 b1 vr2 (sA).run, Loc.c1 w.heap.size 0 (.pointer (some ⟨g, 0, none⟩)), Loc.rdT lo hi (.slice A n.trans.length c) n.trans, Loc.cg (plD g gm r0 r1) w] w7) := Lib.hid ⟨hM2.1, hM2.2.1, hM2.2.2.1, Mem.chg hch M.out.2.2.2 (by (repeat' (first | exact True.intro | refine And.intro (fun k hk e => ?_) ?_)) <;> (first | exact e | ((try dsimp only [Loc.c1, Loc.c2, Loc.k1, Loc.k2, Loc.k3, Loc.k4, Loc.k6, Loc.fr, Loc.bl, Loc.own, Loc.sz, Loc.rd, Loc.rdI, Loc.rdS, Loc.rdM, Loc.rdT, Loc.ow, Loc.owI, Loc.owN, Loc.set, Loc.ns, Loc.cg, Loc.pb, silD, plD] at hk e) <;> omega)))⟩; have hs7 := hch.size; have hs6 := M.out.2.2.2.2.2.1.size; clear hM2 hch M))
      go_meet
      exact ⟨vr2, b0, b1, by omega, by omega, hb0, hb1, by omega, M2⟩
    | none =>
      have HSA : Hid (s = sA) := Lib.hid HFS.out.symm
      rw [HSA.out] at M
      clear hrs
      go_wp2_with fail
      go_meet
      exact ⟨vr, r0, r1, .inl ⟨rfl, rfl⟩, by omega, by omega, by omega, .inr h4, M⟩
  case rest =>
    clear M hk11 hc1 HR6 hz6 HSI HFS hrs
    obtain ⟨vr2, b0, b1, hbb, hbs, hb0, hb1, hbw, M⟩ := hcut
    have hk11 := PB.k11 M.out.1
    rw [HKS.out] at hk11
    have hc1 := M.out.2.2.2.1
    have hq := HFA.out.1.c_ge
    have hqc := HFA.out.2.1.c
    have hqm := HFA.out.1.mc
    have hqt := (HFA.out.1.small.2.2 ks)
    have hqp := HFA.out.2.1.p
    have hlnA : (sA.m.length : Int) = np := by have a1 := HFA.out.1.len; have a2 := HPM.out.len; have a3 := HNP.out; omega
    have hkl : ks < sA.m.length := by omega
    have hat := OwnI.at1 M.out.2.1 (k := ks) hkl
    have hqq : 0 ≤ sA.c.c ∧ sA.c.c ≤ 1000000000 ∧ 0 ≤ sA.c.m ∧ sA.c.m ≤ 1000000000 ∧ 0 ≤ gti sA.m ks ∧ gti sA.m ks ≤ 1000000000 := by omega
    clear hq hqc hqm hqt hqp hlnA
    obtain ⟨e1, e2, e3, e4, e5, e6⟩ := hqq
    have M1 := Lib.hid (Mem.step (a' := Loc.pb (plA n (.slice A n.trans.length c) (.slice (some ⟨gm, 0, none⟩) np cm) ⟨sA.c.p, sA.c.c + 1, sA.c.m, sA.c.r⟩ vr2 sA.big) g) M.out (PB.set M.out.1 6 (.int .i64 (sA.c.c + 1)) rfl) (Chg.set _ g 6 _) (by (repeat' (first | exact True.intro | refine And.intro (fun k hk e => ?_) ?_)) <;> (first | exact e | ((try dsimp only [Loc.c1, Loc.c2, Loc.k1, Loc.k2, Loc.k3, Loc.k4, Loc.k6, Loc.fr, Loc.bl, Loc.own, Loc.sz, Loc.rd, Loc.rdI, Loc.rdS, Loc.rdM, Loc.rdT, Loc.ow, Loc.owI, Loc.owN, Loc.set, Loc.ns, Loc.cg, Loc.pb, silD, plD] at hk e) <;> omega))))
    go_upto_region 5 with (fail)
    go_quiet (fail)
    go_upto_if 43 with (fail)
    go_cut [] (fun wx => w.heap.size + 1 ≤ wx.heap.size ∧ b0 ≤ wx.heap.size ∧ b1 ≤ wx.heap.size ∧ Hid (Mem [Loc.pb (plA n (.slice A n.trans.length c) (.slice (some ⟨gm, 0, none⟩) np cm) ((takeIn1 sA ks)).c vr2 ((takeIn1 sA ks)).big) g, Loc.owI gm (gm + 1) (.slice (some ⟨gm, 0, none⟩) np cm) ((takeIn1 sA ks)).m, Loc.owI b0 b1 vr2 ((takeIn1 sA ks)).run, Loc.c1 w.heap.size 0 (.pointer (some ⟨g, 0, none⟩)), Loc.rdT lo hi (.slice A n.trans.length c) n.trans, Loc.cg (plD g gm r0 r1) w] wx))
    case first =>
      have M2 := Lib.hid (M1.out.drewN nq)
      have hs0 : w.heap.size + 1 ≤ ((wc.setCell ⟨g, 6, none⟩ (.int .i64 (sA.c.c + 1))).drewN nq).heap.size := by show _ ≤ (wc.setCell _ _).heap.size; rw [size_setCell]; exact hbs
      have hs1 : b0 ≤ ((wc.setCell ⟨g, 6, none⟩ (.int .i64 (sA.c.c + 1))).drewN nq).heap.size := by show _ ≤ (wc.setCell _ _).heap.size; rw [size_setCell]; exact hb0
      have hs2 : b1 ≤ ((wc.setCell ⟨g, 6, none⟩ (.int .i64 (sA.c.c + 1))).drewN nq).heap.size := by show _ ≤ (wc.setCell _ _).heap.size; rw [size_setCell]; exact hb1
      clear hk11 hc1 hat M M1 hbs hb0 hb1
      generalize (wc.setCell ⟨g, 6, none⟩ (.int .i64 (sA.c.c + 1))).drewN nq = W1 at *
      have hk11 := PB.k11 M2.out.1
      rw [HKS.out] at hk11
      have hc1 := M2.out.2.2.2.1
      have hat := OwnI.at1 M2.out.2.1 (k := ks) hkl
      by_cases hpos : 0 < gti sA.m ks
      · have HE : Hid (takeIn1 sA ks = ⟨sA.m.set ks (gti sA.m ks - 1), ⟨sA.c.p, sA.c.c + 1, sA.c.m, sA.c.r⟩, sA.run, sA.big⟩) := Lib.hid (by unfold takeIn1; simp only [Int.toNat_natCast]; rw [if_pos hpos])
        have hd1 : decide ((0 : Int) < gti sA.m ks) = true := by simpa using hpos
        go_wp2_with fail
        go_still_tail 13, (by kernel_rfl)
        change wpList _ _ _ _ _ W1.drew
        have M3 := M2.out.drew
        go_wp2_with fail
        go_meet
        have M4 := Mem.step2 (b' := Loc.owI gm (gm + 1) (.slice (some ⟨gm, 0, none⟩) np cm) (sA.m.set ks (gti sA.m ks - 1))) M3 (OwnI.set M3.2.1 ks (gti sA.m ks - 1)) (Chg.set _ gm ks _) (by (repeat' (first | exact True.intro | refine And.intro (fun k hk e => ?_) ?_)) <;> (first | exact e | ((try dsimp only [Loc.c1, Loc.c2, Loc.k1, Loc.k2, Loc.k3, Loc.k4, Loc.k6, Loc.fr, Loc.bl, Loc.own, Loc.sz, Loc.rd, Loc.rdI, Loc.rdS, Loc.rdM, Loc.rdT, Loc.ow, Loc.owI, Loc.owN, Loc.set, Loc.ns, Loc.cg, Loc.pb, silD, plD] at hk e) <;> omega)))
        exact ⟨by simp only [heap_drew, size_setCell]; exact hs0, by simp only [heap_drew, size_setCell]; exact hs1, by simp only [heap_drew, size_setCell]; exact hs2, Lib.hid (by rw [HE.out]; exact M4)⟩
      · have HE : Hid (takeIn1 sA ks = ⟨sA.m, ⟨sA.c.p, sA.c.c + 1, sA.c.m + 1, sA.c.r⟩, sA.run, sA.big⟩) := Lib.hid (by unfold takeIn1; simp only [Int.toNat_natCast]; rw [if_neg hpos])
        have hd1 : decide ((0 : Int) < gti sA.m ks) = false := by simpa using hpos
        go_wp2_with fail
        go_meet
        have M3 := Mem.step (a' := Loc.pb (plA n (.slice A n.trans.length c) (.slice (some ⟨gm, 0, none⟩) np cm) ⟨sA.c.p, sA.c.c + 1, sA.c.m + 1, sA.c.r⟩ vr2 sA.big) g) M2.out (PB.set M2.out.1 7 (.int .i64 (sA.c.m + 1)) rfl) (Chg.set _ g 7 _) (by (repeat' (first | exact True.intro | refine And.intro (fun k hk e => ?_) ?_)) <;> (first | exact e | ((try dsimp only [Loc.c1, Loc.c2, Loc.k1, Loc.k2, Loc.k3, Loc.k4, Loc.k6, Loc.fr, Loc.bl, Loc.own, Loc.sz, Loc.rd, Loc.rdI, Loc.rdS, Loc.rdM, Loc.rdT, Loc.ow, Loc.owI, Loc.owN, Loc.set, Loc.ns, Loc.cg, Loc.pb, silD, plD] at hk e) <;> omega)))
        exact ⟨by rw [size_setCell]; exact hs0, by rw [size_setCell]; exact hs1, by rw [size_setCell]; exact hs2, Lib.hid (by rw [HE.out]; exact M3)⟩
    case rest =>
      clear M M1 hk11 hc1 hat hbs hb0 hb1
      obtain ⟨hbs, hb0, hb1, M⟩ := hcut
      have HPT1 := Lib.hid (HFA.out.1.pt.in1 (k := (ks : Int)) (by omega) (by have := HKS.out; have := (validB_ends HVAL.out).2; omega))
      have HC1 : Hid ((takeIn1 sA ks).c.p = sA.c.p ∧ (takeIn1 sA ks).c.r = sA.c.r ∧ (takeIn1 sA ks).run = sA.run ∧ (takeIn1 sA ks).big = sA.big) := Lib.hid (by unfold takeIn1; split <;> exact ⟨rfl, rfl, rfl, rfl⟩)
      obtain ⟨s1, hs1⟩ : ∃ y, takeIn1 sA ks = y := ⟨_, rfl⟩
      rw [hs1] at HPT1 HC1 HFE M
      clear hs1
      have hk11 := PB.k11 M.out.1
      have hc1 := M.out.2.2.2.1
      have hr0 := HPT1.out.r0
      have hpm2 := HPT1.out.small
      have hbal := HPT1.out.bal
      have hc0 := HPT1.out.c0
      have hmc := HPT1.out.mc
      have hsp := HFA.out.2.1.p
      have hsr := HFA.out.2.1.r
      have hc2 := HC1.out
      have hqq : 0 ≤ s1.c.r ∧ s1.c.r ≤ 1000000000 ∧ sumI s1.m ≤ 1000000000 := by have := hc2.1; have := hc2.2.1; have := hpm2.2.1; omega
      have HTK : Hid (∀ j, 0 ≤ sumI (s1.m.take j) ∧ sumI (s1.m.take j) ≤ sumI s1.m) := Lib.hid (fun j => sumI_tk s1.m j HPT1.out.nn)
      have hlnA : s1.m.length = np := by have a1 := HPT1.out.len; have a2 := HPM.out.len; have a3 := HNP.out; omega
      have HLN := Lib.hid hlnA
      have HGN : Hid (∀ j, 0 ≤ gti s1.m j ∧ gti s1.m j ≤ 1000000000) := Lib.hid (fun j => by have := hpm2.2.2 j; have := hc2.1; omega)
      clear hr0 hpm2 hbal hc0 hmc hsp hsr hc2 hlnA
      obtain ⟨e1, e2, e3⟩ := hqq
      go_wp2_with fail
      have M0 : Hid (Mem [Loc.pb (plA n (.slice A n.trans.length c) (.slice (some ⟨gm, 0, none⟩) np cm) ⟨s1.c.p, s1.c.c, s1.c.m, s1.c.r + sumI (s1.m.take 0)⟩ vr2 s1.big) g, Loc.owI gm (gm + 1) (.slice (some ⟨gm, 0, none⟩) np cm) s1.m, Loc.owI b0 b1 vr2 s1.run, Loc.c1 w.heap.size 0 (.pointer (some ⟨g, 0, none⟩)), Loc.rdT lo hi (.slice A n.trans.length c) n.trans, Loc.cg (plD g gm r0 r1) w] wc) := Lib.hid (by
        rw [List.take_zero]
        simp only [sumI, Int.add_zero]
        exact M.out)
      go_loopw [71, 5] (fun v71 _ wr => ∃ j : Nat, j ≤ np ∧ v71 = .int .i64 j ∧ b0 ≤ wr.heap.size ∧ b1 ≤ wr.heap.size ∧ Hid (Mem [Loc.pb (plA n (.slice A n.trans.length c) (.slice (some ⟨gm, 0, none⟩) np cm) ⟨s1.c.p, s1.c.c, s1.c.m, s1.c.r + sumI (s1.m.take j)⟩ vr2 s1.big) g, Loc.owI gm (gm + 1) (.slice (some ⟨gm, 0, none⟩) np cm) s1.m, Loc.owI b0 b1 vr2 s1.run, Loc.c1 w.heap.size 0 (.pointer (some ⟨g, 0, none⟩)), Loc.rdT lo hi (.slice A n.trans.length c) n.trans, Loc.cg (plD g gm r0 r1) w] wr)) (fun v71 _ _ => np - (intOf v71).toNat)
      case atStart => exact ⟨0, Nat.zero_le _, rfl, hb0, hb1, M0⟩
      case round =>
        clear M M0 hk11 hc1 hb0 hb1 hbs
        obtain ⟨j, hj, rfl, hb0, hb1, M⟩ := hrel
        have hk11 := PB.k11 M.out.1
        have hc1 := M.out.2.2.2.1
        have htk := HTK.out j
        by_cases hlt : j < np
        · have hat := OwnI.at1 M.out.2.1 (k := j) (by have := HLN.out; omega)
          have HSU : Hid (sumI (s1.m.take (j + 1)) = sumI (s1.m.take j) + gti s1.m j) := Lib.hid (sumI_take _ _ (by have := HLN.out; omega))
          have hgn := HGN.out j
          obtain ⟨q1, q2⟩ := htk
          obtain ⟨q3, q4⟩ := hgn
          generalize sumI (s1.m.take j) = S at *
          generalize gti s1.m j = X at *
          go_wp2_with fail
          have M1 := Lib.hid (Mem.step (a' := Loc.pb (plA n (.slice A n.trans.length c) (.slice (some ⟨gm, 0, none⟩) np cm) ⟨s1.c.p, s1.c.c, s1.c.m, s1.c.r + S + X⟩ vr2 s1.big) g) M.out (PB.set M.out.1 8 (.int .i64 (s1.c.r + S + X)) rfl) (Chg.set _ g 8 _) (by (repeat' (first | exact True.intro | refine And.intro (fun k hk e => ?_) ?_)) <;> (first | exact e | ((try dsimp only [Loc.c1, Loc.c2, Loc.k1, Loc.k2, Loc.k3, Loc.k4, Loc.k6, Loc.fr, Loc.bl, Loc.own, Loc.sz, Loc.rd, Loc.rdI, Loc.rdS, Loc.rdM, Loc.rdT, Loc.ow, Loc.owI, Loc.owN, Loc.set, Loc.ns, Loc.cg, Loc.pb, silD, plD] at hk e) <;> omega))))
          exact ⟨⟨j + 1, by omega, by go_num, by simp only [size_setCell]; exact hb0, by simp only [size_setCell]; exact hb1, Lib.hid (by rw [HSU.out, ← Int.add_assoc]; exact M1.out)⟩, by simp [intOf]; omega⟩
        · obtain rfl : j = np := by omega
          go_wp2_with fail
          go_end0
          refine HR.out _ _ ⟨vr2, b0, b1, rfl, ?_, hbb, hb0, hb1, M.out.2.2.2.2.2.1⟩
          rw [HFE.out, ← HC1.out.2.2.1, ← HC1.out.2.2.2]
          have hM := M.out
          rw [List.take_of_length_le (by rw [HLN.out]; exact Nat.le_refl _)] at hM
          exact ⟨hM.1, hM.2.1, hM.2.2.1, True.intro⟩
end Go.Proofs.Ytmhbfoaecebobaa
end
section
namespace Go.Proofs.Ytmhbfoaecebobaa
set_option linter.unusedSimpArgs false
set_option linter.unusedVariables false
open Go.RowKit
abbrev cntV (c : Cnt) : Value := .agg #[.int .i64 c.p, .int .i64 c.c, .int .i64 c.m, .int .i64 c.r]
abbrev K4f (w : World) (g : Nat) (a b c d : Value) : Prop := w.cell? ⟨g, 0, none⟩ = some a ∧ w.cell? ⟨g, 1, none⟩ = some b ∧ w.cell? ⟨g, 2, none⟩ = some c ∧ w.cell? ⟨g, 3, none⟩ = some d ∧ w.frozen? ⟨g, 0, none⟩ = false ∧ w.frozen? ⟨g, 1, none⟩ = false ∧ w.frozen? ⟨g, 2, none⟩ = false ∧ w.frozen? ⟨g, 3, none⟩ = false ∧ g < w.heap.size
theorem K4f.of_block {W W' : World} {g : Nat} {a b c d : Value} (h : K4f W g a b c d) (he : W'.heap[g]? = W.heap[g]?) (hs : W.heap.size ≤ W'.heap.size) : K4f W' g a b c d := by
  obtain ⟨h1, h2, h3, h4, f1, f2, f3, f4, h7⟩ := h
  exact ⟨(World.cell?_of_block (w := W) he).trans h1, (World.cell?_of_block (w := W) he).trans h2, (World.cell?_of_block (w := W) he).trans h3, (World.cell?_of_block (w := W) he).trans h4, (World.frozen?_of_block (w := W) he).trans f1, (World.frozen?_of_block (w := W) he).trans f2, (World.frozen?_of_block (w := W) he).trans f3, (World.frozen?_of_block (w := W) he).trans f4, Nat.lt_of_lt_of_le h7 hs⟩
theorem K4f.new (W : World) (a b c d : Value) (t : TypeId) : K4f (W.alloc (.cells #[a, b, c, d] t)) W.heap.size a b c d := by simp [K4f, go_sem]
abbrev Loc.k4f (g : Nat) (a b c d : Value) : Loc := ⟨fun w => K4f w g a b c d, fun k => k = g, fun h hd hp => K4f.of_block hp (h.block g hp.2.2.2.2.2.2.2.2 (hd g rfl)) h.size⟩
theorem K4f.set {W : World} {g : Nat} {a b c d : Value} (h : K4f W g a b c d) (x y z u : Value) : K4f ((((W.setCell ⟨g, 0, none⟩ x).setCell ⟨g, 1, none⟩ y).setCell ⟨g, 2, none⟩ z).setCell ⟨g, 3, none⟩ u) g x y z u := by
  obtain ⟨h1, h2, h3, h4, f1, f2, f3, f4, h7⟩ := h
  refine ⟨by simp [go_sem, h1], by simp [go_sem, h2], by simp [go_sem, h3], by simp [go_sem, h4], by simp [go_sem, f1], by simp [go_sem, f2], by simp [go_sem, f3], by simp [go_sem, f4], by simpa using h7⟩
theorem Chg.set4 (w : World) (g : Nat) (x y z u : Value) : Chg (fun k => k = g) w ((((w.setCell ⟨g, 0, none⟩ x).setCell ⟨g, 1, none⟩ y).setCell ⟨g, 2, none⟩ z).setCell ⟨g, 3, none⟩ u) :=
  ⟨rfl, rfl, rfl, by simp [World.setCell], fun k hk hc => (Below.heap_setCell _ _ _ _ hc).trans ((Below.heap_setCell _ _ _ _ hc).trans ((Below.heap_setCell _ _ _ _ hc).trans (Below.heap_setCell _ _ _ _ hc)))⟩
theorem ret_B4_tmp2 {fn : Func} {R : Ending → World → Prop} {a : Act} {w : World} {t u v : Tmp} {g : Nat} {x1 x2 x3 x4 y z : Value} (hres : fn.results = #[.cell t 29, .tmp u, .tmp v]) (hd : a.defers = [])
    (ht : a.tmps.getD t undef = .pointer (some ⟨g, 0, none⟩)) (hu : a.tmps.getD u undef = y) (hv : a.tmps.getD v undef = z) (hB : K4f w g x1 x2 x3 x4) (hR : R (.returned (.tuple #[.agg #[x1, x2, x3, x4], y, z])) w) : bodyPost Try.prog fn R .ret a w := by
  obtain ⟨h1, h2, h3, h4, _⟩ := hB
  rw [Array.getD_eq_getD_getElem?] at ht hu hv
  exact bodyPost_ret (by simp only [results, hres]; simp [go_sem, ht, hu, hv, h1, h2, h3, h4]) hd hR
def RetPl (w : World) (r : Cnt × List Int × Int) (e : Ending) (w' : World) : Prop :=
  ∃ A k, e = .returned (.tuple #[cntV r.1, .slice A r.2.1.length k, .int .i64 r.2.2]) ∧ RdI w' w.heap.size w'.heap.size (.slice A r.2.1.length k) r.2.1 ∧ Below w.heap.size w w'
theorem RetPl.err {w w' : World} {r : Cnt × List Int × Int} {e : Int} (h : r = (⟨0, 0, 0, 0⟩, [], e)) (hb : Below w.heap.size w w') : RetPl w r (.returned (.tuple #[.agg #[.int .i64 0, .int .i64 0, .int .i64 0, .int .i64 0], .slice none 0 0, .int .i64 e])) w' := by
  subst h
  exact ⟨none, 0, rfl, Rd.nil _ _ _, hb⟩
theorem wfB_valid {n : Net} (h : wfB n = true) : zbc n = true := (wfB_wf h).valid
set_option maxHeartbeats 1000000 in
theorem initial_own (n : Net) (np : Nat) (vt : Value) (lo hi : Nat) (w : World) (hv : RdT w lo hi vt n.trans) (hval : zbc n = true) (hnp : n.places = np) :
    Calls Try.prog 29 #[netV n vt] w fun e w' => ∃ gm, e = .returned (.tuple #[.slice (some ⟨gm, 0, none⟩) np np, .int .i64 0]) ∧ w.heap.size ≤ gm ∧ OwnI w' gm (gm + 1) (.slice (some ⟨gm, 0, none⟩) np np) (oneL np n.source) ∧ Below w.heap.size w w' := by
  have hone : ∀ W, Below w.heap.size w W → Calls Try.prog 70 #[netV n vt, .int .i64 n.source] W fun e w' => ∃ gm, e = .returned (.tuple #[.slice (some ⟨gm, 0, none⟩) np np, .int .i64 0]) ∧ W.heap.size ≤ gm ∧ OwnI w' gm (gm + 1) (.slice (some ⟨gm, 0, none⟩) np np) (oneL np n.source) ∧ Below W.heap.size W w' := by
    intro W hW
    obtain ⟨A, c, rfl, hc, hm⟩ := hv.form
    have HV := Lib.hid (hv.after hW)
    clear hv hW w
    have HVB := Lib.hid hval
    have hpl := za8 hval
    have hpp := (validB_ends hval).1
    clear hval
    generalize hps : n.source = p at *
    obtain ⟨kp, rfl⟩ : ∃ k : Nat, p = k := ⟨p.toNat, by omega⟩
    have hlt : kp < np := by omega
    have hmk := mk_int hnp (by omega)
    have HNP := Lib.hid hnp
    have hn40 : np ≤ 40 := by omega
    have HPS := Lib.hid hps
    clear hnp hpl hpp hps
    obtain ⟨w, hw⟩ : ∃ w, w = W := ⟨_, rfl⟩
    subst hw
    refine zax fun R hR => ?_
    have HR := Lib.hid hR
    clear hR
    go_enter Try.func70, Try.ntmps70
    have M : Hid (Mem [Loc.k4 w.heap.size (.int .i64 n.places) (.slice A n.trans.length c) (.int .i64 n.source) (.int .i64 n.sink), Loc.bl w.heap.size w] (w.alloc (.cells #[.int .i64 n.places, .slice A n.trans.length c, .int .i64 n.source, .int .i64 n.sink] 24))) := Lib.hid ⟨K4.new w _ _ _ _ _, ⟨(Below.refl _ _).alloc (Nat.le_refl _) _, by simp⟩, True.intro⟩
    have hk4 := M.out.1
    go_wp2_with (first
      | (go_at_call 54; refine (valid_is HVB.out _ lo hi _ (HV.out.after M.out.2.1.1)).mono ?_; rintro e w1 ⟨rfl, hb1⟩; replace M := Lib.hid (M.out.below hb1); clear hb1; replace hk4 := M.out.1; have HO := Lib.hid (OwnI.made w1 np (by omega)); have hat := OwnI.at1 HO.out (k := kp) (by simp; omega)))
    refine HR.out _ _ ⟨w1.heap.size, rfl, M.out.2.1.2, ?_, ?_⟩
    · have := (set_new w1 (madeCells #[.int .i64 0] np) 3 kp (.int .i64 1)) ▸ OwnI.set HO.out kp 1
      simpa [oneL] using this
    · exact (M.out.2.1.1).alloc M.out.2.1.2 _
  have HONE := Lib.hid hone
  obtain ⟨A, c, rfl, hc, hm⟩ := hv.form
  clear hv hone hnp
  refine zax fun R hR => ?_
  have HR := Lib.hid hR
  clear hR
  go_enter Try.func29, Try.ntmps29
  have M : Hid (Mem [Loc.k4 w.heap.size (.int .i64 n.places) (.slice A n.trans.length c) (.int .i64 n.source) (.int .i64 n.sink), Loc.bl w.heap.size w] (w.alloc (.cells #[.int .i64 n.places, .slice A n.trans.length c, .int .i64 n.source, .int .i64 n.sink] 24))) := Lib.hid ⟨K4.new w _ _ _ _ _, ⟨(Below.refl _ _).alloc (Nat.le_refl _) _, by simp⟩, True.intro⟩
  have hk4 := M.out.1
  go_wp2_with (go_at_call 70; refine (HONE.out _ M.out.2.1.1).mono ?_; rintro e w1 ⟨gm, rfl, hg1, ho1, hb1⟩; have HO1 := Lib.hid ho1; have HG1 : Hid (w.heap.size ≤ gm) := Lib.hid (by simp only [World.size_alloc] at hg1; omega); replace M := Lib.hid (M.out.below hb1); clear hb1 ho1 hg1)
  exact HR.out _ _ ⟨gm, rfl, HG1.out, HO1.out, M.out.2.1.1⟩
theorem named_is {l : List ByteArray} {b : Bool} (hb : allN l = b) (lo hi : Nat) (v : Value) (w : World) (hv : RdS w lo hi v l) :
    Calls Try.prog 28 #[v] w fun e w' => e = .returned (.bool b) ∧ Below w.heap.size w w' := hb ▸ named_any l lo hi v w hv
theorem workflow_is {n : Net} {b : Bool} (hb : wfB n = b) (vt : Value) (lo hi : Nat) (w : World) (hv : RdT w lo hi vt n.trans) :
    Calls Try.prog 27 #[netV n vt] w fun e w' => e = .returned (.bool b) ∧ Below w.heap.size w w' := hb ▸ workflow_any n vt lo hi w hv
theorem oneL_at (k : Nat) (p : Int) (i : Nat) : gti (oneL k p) i = if p.toNat = i ∧ i < k then 1 else 0 := by
  unfold oneL
  rw [gti_set]
  simp only [List.length_replicate]
  split
  · rfl
  · unfold gti
    rw [List.getElem?_replicate]
    split <;> rfl
theorem sumI_zero : ∀ k : Nat, sumI (List.replicate k 0) = 0
  | 0 => rfl
  | k + 1 => by rw [List.replicate_succ, sumI, sumI_zero k]; rfl
theorem pl0_pm {n : Net} (hv : zbc n = true) : PM n (pl0 n) ∧ Sm (pl0 n) 1 ∧ (pl0 n).big = false := by
  have h1 := za8 hv
  have h2 := (validB_ends hv).1
  have hs : sumI (oneL n.places.toNat n.source) = 1 := by
    unfold oneL
    rw [sumI_set _ _ _ (by simp; omega), sumI_zero]
    unfold gti
    rw [List.getElem?_replicate]
    split <;> rfl
  have hat : ∀ i, 0 ≤ gti (oneL n.places.toNat n.source) i ∧ gti (oneL n.places.toNat n.source) i ≤ 100 := fun i => by
    rw [oneL_at]
    split <;> omega
  refine ⟨⟨?_, fun i => (hat i).1, fun _ => ?_, ?_, ?_, ?_, ?_, ?_⟩, ⟨?_, ?_, ?_, ?_⟩, rfl⟩
  · simp [pl0, oneL]; omega
  · unfold markB mark2B
    rw [hv, if_neg (by simp [pl0, oneL]; omega), all01_intro (m := (pl0 n).m) hat]
    rfl
  · simp [pl0]
  · simp [pl0]
  · simp [pl0]
  · simp only [pl0, hs]; decide
  · intro t ht; simp [pl0] at ht
  · simp [pl0]
  · simp [pl0]
  · simp [pl0]
  · simp [pl0]
set_option maxRecDepth 100000 in
set_option maxHeartbeats 4000000 in
theorem Play_any (n : Net) (l : List ByteArray) (vt v : Value) (lo hi lo' hi' : Nat) (w : World) (hv : RdT w lo hi vt n.trans) (hw : RdS w lo' hi' v l) (hhi : hi ≤ w.heap.size) (hhi2 : hi' ≤ w.heap.size) :
    Calls Try.prog 10 #[netV n vt, v] w (RetPl w (PlayE n l)) := by
  obtain ⟨A, c, rfl, hc, hmm⟩ := hv.form
  obtain ⟨A2, c2, rfl, hc2, hmm2⟩ := hw.form
  have HV := Lib.hid hv
  have HW := Lib.hid hw
  clear hv hw
  obtain ⟨zw, hzw⟩ : ∃ z, wfB n = z := ⟨_, rfl⟩
  obtain ⟨zn, hzn⟩ : ∃ z, allN l = z := ⟨_, rfl⟩
  have HP : Hid (PlayE n l = if (zw && zn) = false then (⟨0, 0, 0, 0⟩, [], 1) else if 200 < l.length then (⟨0, 0, 0, 0⟩, [], 5) else endE n (playL n l (pl0 n))) := Lib.hid (by unfold PlayE; rw [hzw, hzn])
  have HZW := Lib.hid hzw
  have HZN := Lib.hid hzn
  clear hzw hzn
  refine zax fun R hR => ?_
  have HR := Lib.hid hR
  clear hR
  go_enter Try.func10, Try.ntmps10
  have M : Hid (Mem [Loc.k4 w.heap.size (.int .i64 n.places) (.slice A n.trans.length c) (.int .i64 n.source) (.int .i64 n.sink), Loc.bl w.heap.size w] (w.alloc (.cells #[.int .i64 n.places, .slice A n.trans.length c, .int .i64 n.source, .int .i64 n.sink] 24))) := Lib.hid ⟨K4.new w _ _ _ _ _, ⟨(Below.refl _ _).alloc (Nat.le_refl _) _, by simp⟩, True.intro⟩
  have hk4 := M.out.1
  have M1 : Hid (Mem [Loc.k4f (w.heap.size + 1) (.int .i64 0) (.int .i64 0) (.int .i64 0) (.int .i64 0), Loc.k4 w.heap.size (.int .i64 n.places) (.slice A n.trans.length c) (.int .i64 n.source) (.int .i64 n.sink), Loc.bl w.heap.size w] ((w.alloc (.cells #[.int .i64 n.places, .slice A n.trans.length c, .int .i64 n.source, .int .i64 n.sink] 24)).alloc (.cells #[.int .i64 0, .int .i64 0, .int .i64 0, .int .i64 0] 29))) := Lib.hid ⟨by have := K4f.new (w.alloc (.cells #[.int .i64 n.places, .slice A n.trans.length c, .int .i64 n.source, .int .i64 n.sink] 24)) (.int .i64 0) (.int .i64 0) (.int .i64 0) (.int .i64 0) 29; rw [World.size_alloc] at this; exact this, M.out.alloc _⟩
  clear M
  have M := M1
  clear M1
  have hkr := M.out.1
  replace hk4 := M.out.2.1
  cases zw with
  | false =>
    go_wp2_with (go_at_call 27; refine (workflow_is HZW.out _ lo hi _ (HV.out.after M.out.2.2.1.1)).mono ?_; rintro e w1 ⟨rfl, hb1⟩; replace M := Lib.hid (M.out.below hb1); clear hb1; replace hkr := M.out.1; replace hk4 := M.out.2.1)
    refine ret_B4_tmp2 rfl rfl rfl rfl rfl (K4f.set M.out.1 _ _ _ _) (HR.out _ _ (RetPl.err (by rw [HP.out]; rfl) (Mem.step (a' := Loc.k4f (w.heap.size + 1) (.int .i64 0) (.int .i64 0) (.int .i64 0) (.int .i64 0)) M.out (K4f.set M.out.1 _ _ _ _) (Chg.set4 _ (w.heap.size + 1) _ _ _ _) (by (repeat' (first | exact True.intro | refine And.intro (fun k hk e => ?_) ?_)) <;> (first | exact e | ((try dsimp only [Loc.c1, Loc.c2, Loc.k1, Loc.k2, Loc.k3, Loc.k4, Loc.k6, Loc.fr, Loc.bl, Loc.own, Loc.sz, Loc.rd, Loc.rdI, Loc.rdS, Loc.rdM, Loc.rdT, Loc.ow, Loc.owI, Loc.owN, Loc.set, Loc.ns, Loc.cg, Loc.pb, silD, plD] at hk e) <;> omega)))).2.2.1.1))
  | true =>
    cases zn with
    | false =>
      go_wp2_with (first
        | (go_at_call 27; refine (workflow_is HZW.out _ lo hi _ (HV.out.after M.out.2.2.1.1)).mono ?_; rintro e w1 ⟨rfl, hb1⟩; replace M := Lib.hid (M.out.below hb1); clear hb1; replace hkr := M.out.1; replace hk4 := M.out.2.1)
        | (go_at_call 28; refine (named_is HZN.out lo' hi' _ _ (HW.out.after M.out.2.2.1.1)).mono ?_; rintro e w1 ⟨rfl, hb1⟩; replace M := Lib.hid (M.out.below hb1); clear hb1; replace hkr := M.out.1; replace hk4 := M.out.2.1))
      refine ret_B4_tmp2 rfl rfl rfl rfl rfl (K4f.set M.out.1 _ _ _ _) (HR.out _ _ (RetPl.err (by rw [HP.out]; rfl) (Mem.step (a' := Loc.k4f (w.heap.size + 1) (.int .i64 0) (.int .i64 0) (.int .i64 0) (.int .i64 0)) M.out (K4f.set M.out.1 _ _ _ _) (Chg.set4 _ (w.heap.size + 1) _ _ _ _) (by (repeat' (first | exact True.intro | refine And.intro (fun k hk e => ?_) ?_)) <;> (first | exact e | ((try dsimp only [Loc.c1, Loc.c2, Loc.k1, Loc.k2, Loc.k3, Loc.k4, Loc.k6, Loc.fr, Loc.bl, Loc.own, Loc.sz, Loc.rd, Loc.rdI, Loc.rdS, Loc.rdM, Loc.rdT, Loc.ow, Loc.owI, Loc.owN, Loc.set, Loc.ns, Loc.cg, Loc.pb, silD, plD] at hk e) <;> omega)))).2.2.1.1))
    | true =>
      rw [if_neg (by simp)] at HP
      by_cases h200 : 200 < l.length
      · rw [if_pos h200] at HP
        have hd : decide ((200 : Int) < l.length) = true := by simp; omega
        go_wp2_with (first
          | (go_at_call 27; refine (workflow_is HZW.out _ lo hi _ (HV.out.after M.out.2.2.1.1)).mono ?_; rintro e w1 ⟨rfl, hb1⟩; replace M := Lib.hid (M.out.below hb1); clear hb1; replace hkr := M.out.1; replace hk4 := M.out.2.1)
          | (go_at_call 28; refine (named_is HZN.out lo' hi' _ _ (HW.out.after M.out.2.2.1.1)).mono ?_; rintro e w1 ⟨rfl, hb1⟩; replace M := Lib.hid (M.out.below hb1); clear hb1; replace hkr := M.out.1; replace hk4 := M.out.2.1))
        refine ret_B4_tmp2 rfl rfl rfl rfl rfl (K4f.set M.out.1 _ _ _ _) (HR.out _ _ (RetPl.err (by rw [HP.out]) (Mem.step (a' := Loc.k4f (w.heap.size + 1) (.int .i64 0) (.int .i64 0) (.int .i64 0) (.int .i64 0)) M.out (K4f.set M.out.1 _ _ _ _) (Chg.set4 _ (w.heap.size + 1) _ _ _ _) (by (repeat' (first | exact True.intro | refine And.intro (fun k hk e => ?_) ?_)) <;> (first | exact e | ((try dsimp only [Loc.c1, Loc.c2, Loc.k1, Loc.k2, Loc.k3, Loc.k4, Loc.k6, Loc.fr, Loc.bl, Loc.own, Loc.sz, Loc.rd, Loc.rdI, Loc.rdS, Loc.rdM, Loc.rdT, Loc.ow, Loc.owI, Loc.owN, Loc.set, Loc.ns, Loc.cg, Loc.pb, silD, plD] at hk e) <;> omega)))).2.2.1.1))
      · rw [if_neg h200] at HP
        have hd : decide ((200 : Int) < l.length) = false := by simp; omega
        have hval := wfB_valid HZW.out
        have hpl := za8 hval
        obtain ⟨np, hnp⟩ : ∃ k : Nat, n.places = k := ⟨n.places.toNat, by omega⟩
        have HVAL := Lib.hid hval
        have HNP := Lib.hid hnp
        have hnp1 : 1 ≤ np ∧ np ≤ 40 := by omega
        have HP0 := Lib.hid (pl0_pm hval)
        clear hval hpl hnp
        go_wp2_with (first
          | (go_at_call 27; refine (workflow_is HZW.out _ lo hi _ (HV.out.after M.out.2.2.1.1)).mono ?_; rintro e w1 ⟨rfl, hb1⟩; replace M := Lib.hid (M.out.below hb1); clear hb1; replace hkr := M.out.1; replace hk4 := M.out.2.1)
          | (go_at_call 28; refine (named_is HZN.out lo' hi' _ _ (HW.out.after M.out.2.2.1.1)).mono ?_; rintro e w1 ⟨rfl, hb1⟩; replace M := Lib.hid (M.out.below hb1); clear hb1; replace hkr := M.out.1; replace hk4 := M.out.2.1)
          | (go_at_call 29; have hz4 := M.out.2.2.1.1.size; have hz5 := M.out.2.1.2.2.2.2; have hz6 := M.out.1.2.2.2.2.2.2.2.2; refine (initial_own n np _ lo hi _ (HV.out.after M.out.2.2.1.1) HVAL.out HNP.out).mono ?_; rintro e w5 ⟨gm, rfl, hg5, ho5, hb5⟩; have HO5 := Lib.hid ho5; have hs5 := hb5.size; replace M := Lib.hid (M.out.below hb5); replace hkr := M.out.1; replace hk4 := M.out.2.1; clear ho5 hb5))
        obtain ⟨g, hgd⟩ : ∃ g, g = w5.heap.size := ⟨_, rfl⟩
        have hg1 : w.heap.size + 1 < gm := by omega
        have hgm5 : gm < w5.heap.size := by
          obtain ⟨g', cap, hv', _, h5, h6⟩ := Own.blk HO5.out (by simp [oneL]; omega)
          injection hv' with hv' _ _
          injection hv' with hv'
          injection hv' with hv' _ _
          omega
        have hg2 : gm < g := by omega
        have MP : Hid (Mem [Loc.pb (plA n (.slice A n.trans.length c) (.slice (some ⟨gm, 0, none⟩) np np) ((pl0 n)).c (.slice none 0 0) ((pl0 n)).big) g, Loc.owI gm (gm + 1) (.slice (some ⟨gm, 0, none⟩) np np) ((pl0 n)).m, Loc.owI w.heap.size w.heap.size (.slice none 0 0) ((pl0 n)).run, Loc.k4f (w.heap.size + 1) (.int .i64 0) (.int .i64 0) (.int .i64 0) (.int .i64 0), Loc.k4 w.heap.size (.int .i64 n.places) (.slice A n.trans.length c) (.int .i64 n.source) (.int .i64 n.sink), Loc.rdT lo hi (.slice A n.trans.length c) n.trans, Loc.bl w.heap.size w] (w5.alloc (.cells (plA n (.slice A n.trans.length c) (.slice (some ⟨gm, 0, none⟩) np np) (pl0 n).c (.slice none 0 0) (pl0 n).big) 70))) := Lib.hid (by
          have hal := M.out.alloc (.cells (plA n (.slice A n.trans.length c) (.slice (some ⟨gm, 0, none⟩) np np) (pl0 n).c (.slice none 0 0) (pl0 n).big) 70)
          refine ⟨by rw [hgd]; exact heap_new rfl, ?_, Own.nil _ _ _, hal.1, hal.2.1, HV.out.after hal.2.2.1.1, hal.2.2⟩
          have e : (pl0 n).m = oneL np n.source := by unfold pl0; rw [HNP.out]; rfl
          rw [e]
          exact HO5.out.alloc _)
        have HL0 : Hid ((pl0 n).m.length = np) := Lib.hid (by simp [pl0, oneL, HNP.out])
        have hgs : g < w5.heap.size + 1 := by omega
        have HGD := Lib.hid hgd
        clear hgd hz4 hz5 hz6 hg5 hs5
        go_wp2_with fail
        rw [← HGD.out]
        go_loopw [39, 11] (fun v39 _ wr => ∃ (j : Nat) (sj : Pl) (vr : Value) (a0 a1 : Nat), j ≤ l.length ∧ v39 = .int .i64 j ∧ Hid (playL n (l.drop j) sj = playL n l (pl0 n)) ∧ Hid (PM n sj) ∧ Hid (sj.big = false) ∧ Hid (Sm sj (1 + 200 * j)) ∧ Hid (sj.m.length = np) ∧ w.heap.size ≤ a0 ∧ a0 ≤ wr.heap.size ∧ a1 ≤ wr.heap.size ∧ (a1 ≤ w.heap.size ∨ g < a0) ∧ Hid (Mem [Loc.pb (plA n (.slice A n.trans.length c) (.slice (some ⟨gm, 0, none⟩) np np) (sj).c vr (sj).big) g, Loc.owI gm (gm + 1) (.slice (some ⟨gm, 0, none⟩) np np) (sj).m, Loc.owI a0 a1 vr (sj).run, Loc.k4f (w.heap.size + 1) (.int .i64 0) (.int .i64 0) (.int .i64 0) (.int .i64 0), Loc.k4 w.heap.size (.int .i64 n.places) (.slice A n.trans.length c) (.int .i64 n.source) (.int .i64 n.sink), Loc.rdT lo hi (.slice A n.trans.length c) n.trans, Loc.bl w.heap.size w] wr)) (fun v39 _ _ => l.length - (intOf v39).toNat)
        case atStart => exact ⟨0, pl0 n, .slice none 0 0, w.heap.size, w.heap.size, Nat.zero_le _, rfl, Lib.hid rfl, Lib.hid HP0.out.1, Lib.hid HP0.out.2.2, Lib.hid HP0.out.2.1, HL0, Nat.le_refl _, by simp only [World.size_alloc]; omega, by simp only [World.size_alloc]; omega, .inl (Nat.le_refl _), MP⟩
        case round =>
          clear M MP HP0 HL0 HO5 hk4 hkr hgm5 hgs HGD
          obtain ⟨j, sj, vr, a0, a1, hj, rfl, HT, HPM, HBG, HSM, HLN, ha2, ha0, ha1, haw, M⟩ := hrel
          have hk11 := PB.k11 M.out.1
          have hkr := M.out.2.2.2.1
          have hk4 := M.out.2.2.2.2.1
          have hgwr := PB.lt M.out.1
          by_cases hlt : j < l.length
          · obtain ⟨bi, oi, rfl, _, _, hci2⟩ := RdS.at1 (HW.out.after M.out.2.2.2.2.2.2.1.1) hlt
            have HD : Hid (playL n (l.drop j) sj = if (playE n (gti l j) sj).big then none else playL n (l.drop (j + 1)) (playE n (gti l j) sj)) := Lib.hid (by rw [drop_gti hlt]; rfl)
            generalize gti l j = x at *
            have HPY := Lib.hid (play_any n x sj (1 + 200 * j) g gm np np a0 a1 lo hi _ vr wr M.out.2.2.2.2.2.1 HVAL.out HPM.out HBG.out HSM.out (by omega) HLN.out ⟨M.out.1, M.out.2.1, M.out.2.2.1, True.intro⟩ (by omega) (by omega) (by omega) (by omega) (by omega) (by omega) ha1 ha0)
            have HPN := Lib.hid (play_pm (act := x) HVAL.out HPM.out HBG.out HSM.out)
            obtain ⟨sn, hsn⟩ : ∃ y, playE n x sj = y := ⟨_, rfl⟩
            rw [hsn] at HD HPY HPN
            clear hsn
            obtain ⟨zb, hzb⟩ : ∃ z, sn.big = z := ⟨_, rfl⟩
            have HZB := Lib.hid hzb
            rw [hzb] at HD HPY
            clear hzb
            cases zb with
            | true =>
              have HPL : Hid (playL n l (pl0 n) = none) := Lib.hid (by rw [← HT.out, HD.out]; rfl)
              go_wp2_with (go_at_call 30; refine HPY.out.mono ?_; rintro e w6 ⟨vr2, b0, b1, rfl, hM2, hbb, hb0, hb1, hch⟩; replace M : Hid (Mem [Loc.pb _ g, Loc.owI gm (gm + 1) _ sn.m, Loc.owI b0 b1 vr2 sn.run, Loc.k4f (w.heap.size + 1) (.int .i64 0) (.int .i64 0) (.int .i64 0) (.int .i64 0), Loc.k4 w.heap.size (.int .i64 n.places) (.slice A n.trans.length c) (.int .i64 n.source) (.int .i64 n.sink), Loc.rdT lo hi (.slice A n.trans.length c) n.trans, Loc.bl w.heap.size w] w6) := Lib.hid ⟨hM2.1, hM2.2.1, hM2.2.2.1, Mem.chg hch M.out.2.2.2 (by (repeat' (first | exact True.intro | refine And.intro (fun k hk e => ?_) ?_)) <;> (first | exact e | ((try dsimp only [Loc.c1, Loc.c2, Loc.k1, Loc.k2, Loc.k3, Loc.k4, Loc.k6, Loc.fr, Loc.bl, Loc.own, Loc.sz, Loc.rd, Loc.rdI, Loc.rdS, Loc.rdM, Loc.rdT, Loc.ow, Loc.owI, Loc.owN, Loc.set, Loc.ns, Loc.cg, Loc.pb, silD, plD] at hk e) <;> omega)))⟩; have hs6 := hch.size; clear hM2 hch; replace hk11 := PB.k11 M.out.1; replace hkr := M.out.2.2.2.1; replace hk4 := M.out.2.2.2.2.1)
              refine ret_B4_tmp2 rfl rfl rfl rfl rfl (K4f.set M.out.2.2.2.1 _ _ _ _) (HR.out _ _ (RetPl.err (by rw [HP.out, HPL.out]; rfl) (Mem.step (a' := Loc.k4f (w.heap.size + 1) (.int .i64 0) (.int .i64 0) (.int .i64 0) (.int .i64 0)) M.out.2.2.2 (K4f.set M.out.2.2.2.1 _ _ _ _) (Chg.set4 _ (w.heap.size + 1) _ _ _ _) (by (repeat' (first | exact True.intro | refine And.intro (fun k hk e => ?_) ?_)) <;> (first | exact e | ((try dsimp only [Loc.c1, Loc.c2, Loc.k1, Loc.k2, Loc.k3, Loc.k4, Loc.k6, Loc.fr, Loc.bl, Loc.own, Loc.sz, Loc.rd, Loc.rdI, Loc.rdS, Loc.rdM, Loc.rdT, Loc.ow, Loc.owI, Loc.owN, Loc.set, Loc.ns, Loc.cg, Loc.pb, silD, plD] at hk e) <;> omega)))).2.2.2.1.1))
            | false =>
              have HNX : Hid (playL n (l.drop (j + 1)) sn = playL n l (pl0 n)) := Lib.hid (by rw [← HT.out, HD.out]; rfl)
              go_wp2_with (go_at_call 30; refine HPY.out.mono ?_; rintro e w6 ⟨vr2, b0, b1, rfl, hM2, hbb, hb0, hb1, hch⟩; replace M : Hid (Mem [Loc.pb _ g, Loc.owI gm (gm + 1) _ sn.m, Loc.owI b0 b1 vr2 sn.run, Loc.k4f (w.heap.size + 1) (.int .i64 0) (.int .i64 0) (.int .i64 0) (.int .i64 0), Loc.k4 w.heap.size (.int .i64 n.places) (.slice A n.trans.length c) (.int .i64 n.source) (.int .i64 n.sink), Loc.rdT lo hi (.slice A n.trans.length c) n.trans, Loc.bl w.heap.size w] w6) := Lib.hid ⟨hM2.1, hM2.2.1, hM2.2.2.1, Mem.chg hch M.out.2.2.2 (by (repeat' (first | exact True.intro | refine And.intro (fun k hk e => ?_) ?_)) <;> (first | exact e | ((try dsimp only [Loc.c1, Loc.c2, Loc.k1, Loc.k2, Loc.k3, Loc.k4, Loc.k6, Loc.fr, Loc.bl, Loc.own, Loc.sz, Loc.rd, Loc.rdI, Loc.rdS, Loc.rdM, Loc.rdT, Loc.ow, Loc.owI, Loc.owN, Loc.set, Loc.ns, Loc.cg, Loc.pb, silD, plD] at hk e) <;> omega)))⟩; have hs6 := hch.size; clear hM2 hch; replace hk11 := PB.k11 M.out.1; replace hkr := M.out.2.2.2.1; replace hk4 := M.out.2.2.2.2.1)
              exact ⟨⟨j + 1, sn, vr2, b0, b1, by omega, by go_num, HNX, Lib.hid HPN.out.1, HZB, Lib.hid (HPN.out.2.mono (by omega)), Lib.hid (by have h1 := HPN.out.1.len; have h2 := HNP.out; omega), by omega, hb0, hb1, by omega, Lib.hid (by rw [HZB.out]; exact M.out)⟩, by simp [intOf]; omega⟩
          · obtain rfl : j = l.length := by omega
            have HPL : Hid (playL n l (pl0 n) = some sj) := Lib.hid (by rw [← HT.out, List.drop_length]; rfl)
            have HFN := Lib.hid (finish_any n sj (1 + 200 * l.length) g gm np np a0 a1 lo hi _ vr wr M.out.2.2.2.2.2.1 HVAL.out HPM.out HBG.out HSM.out (by omega) HLN.out ⟨M.out.1, M.out.2.1, M.out.2.2.1, True.intro⟩ (by omega) (by omega) (by omega) (by omega) (by omega) (by omega) ha1 ha0)
            have HP2 : Hid (PlayE n l = if (finE n sj).big then (⟨0, 0, 0, 0⟩, [], 6) else ((finE n sj).c, (finE n sj).run, 0)) := Lib.hid (by rw [HP.out, HPL.out]; rfl)
            obtain ⟨sF, hsF⟩ : ∃ y, finE n sj = y := ⟨_, rfl⟩
            rw [hsF] at HFN HP2
            clear hsF
            obtain ⟨zf, hzf⟩ : ∃ z, sF.big = z := ⟨_, rfl⟩
            rw [hzf] at HFN HP2
            clear hzf
            cases zf with
            | true =>
              go_wp2_with (go_at_call 31; refine HFN.out.mono ?_; rintro e w6 ⟨vr2, b0, b1, rfl, hM2, hbb, hb0, hb1, hch⟩; replace M : Hid (Mem [Loc.pb _ g, Loc.owI gm (gm + 1) _ sF.m, Loc.owI b0 b1 vr2 sF.run, Loc.k4f (w.heap.size + 1) (.int .i64 0) (.int .i64 0) (.int .i64 0) (.int .i64 0), Loc.k4 w.heap.size (.int .i64 n.places) (.slice A n.trans.length c) (.int .i64 n.source) (.int .i64 n.sink), Loc.rdT lo hi (.slice A n.trans.length c) n.trans, Loc.bl w.heap.size w] w6) := Lib.hid ⟨hM2.1, hM2.2.1, hM2.2.2.1, Mem.chg hch M.out.2.2.2 (by (repeat' (first | exact True.intro | refine And.intro (fun k hk e => ?_) ?_)) <;> (first | exact e | ((try dsimp only [Loc.c1, Loc.c2, Loc.k1, Loc.k2, Loc.k3, Loc.k4, Loc.k6, Loc.fr, Loc.bl, Loc.own, Loc.sz, Loc.rd, Loc.rdI, Loc.rdS, Loc.rdM, Loc.rdT, Loc.ow, Loc.owI, Loc.owN, Loc.set, Loc.ns, Loc.cg, Loc.pb, silD, plD] at hk e) <;> omega)))⟩; have hs6 := hch.size; clear hM2 hch; replace hk11 := PB.k11 M.out.1; replace hkr := M.out.2.2.2.1; replace hk4 := M.out.2.2.2.2.1)
              refine ret_B4_tmp2 rfl rfl rfl rfl rfl (K4f.set M.out.2.2.2.1 _ _ _ _) (HR.out _ _ (RetPl.err (by rw [HP2.out]; rfl) (Mem.step (a' := Loc.k4f (w.heap.size + 1) (.int .i64 0) (.int .i64 0) (.int .i64 0) (.int .i64 0)) M.out.2.2.2 (K4f.set M.out.2.2.2.1 _ _ _ _) (Chg.set4 _ (w.heap.size + 1) _ _ _ _) (by (repeat' (first | exact True.intro | refine And.intro (fun k hk e => ?_) ?_)) <;> (first | exact e | ((try dsimp only [Loc.c1, Loc.c2, Loc.k1, Loc.k2, Loc.k3, Loc.k4, Loc.k6, Loc.fr, Loc.bl, Loc.own, Loc.sz, Loc.rd, Loc.rdI, Loc.rdS, Loc.rdM, Loc.rdT, Loc.ow, Loc.owI, Loc.owN, Loc.set, Loc.ns, Loc.cg, Loc.pb, silD, plD] at hk e) <;> omega)))).2.2.2.1.1))
            | false =>
              go_wp2_with (go_at_call 31; refine HFN.out.mono ?_; rintro e w6 ⟨vr2, b0, b1, rfl, hM2, hbb, hb0, hb1, hch⟩; replace M : Hid (Mem [Loc.pb _ g, Loc.owI gm (gm + 1) _ sF.m, Loc.owI b0 b1 vr2 sF.run, Loc.k4f (w.heap.size + 1) (.int .i64 0) (.int .i64 0) (.int .i64 0) (.int .i64 0), Loc.k4 w.heap.size (.int .i64 n.places) (.slice A n.trans.length c) (.int .i64 n.source) (.int .i64 n.sink), Loc.rdT lo hi (.slice A n.trans.length c) n.trans, Loc.bl w.heap.size w] w6) := Lib.hid ⟨hM2.1, hM2.2.1, hM2.2.2.1, Mem.chg hch M.out.2.2.2 (by (repeat' (first | exact True.intro | refine And.intro (fun k hk e => ?_) ?_)) <;> (first | exact e | ((try dsimp only [Loc.c1, Loc.c2, Loc.k1, Loc.k2, Loc.k3, Loc.k4, Loc.k6, Loc.fr, Loc.bl, Loc.own, Loc.sz, Loc.rd, Loc.rdI, Loc.rdS, Loc.rdM, Loc.rdT, Loc.ow, Loc.owI, Loc.owN, Loc.set, Loc.ns, Loc.cg, Loc.pb, silD, plD] at hk e) <;> omega)))⟩; have hs6 := hch.size; clear hM2 hch; replace hk11 := PB.k11 M.out.1; replace hkr := M.out.2.2.2.1; replace hk4 := M.out.2.2.2.2.1)
              obtain ⟨Ar, kr, rfl, hkr1, hkr2⟩ := M.out.2.2.1.form
              have hkc : C1 w6 g 5 (.int .i64 sF.c.p) ∧ C1 w6 g 6 (.int .i64 sF.c.c) ∧ C1 w6 g 7 (.int .i64 sF.c.m) ∧ C1 w6 g 8 (.int .i64 sF.c.r) ∧ C1 w6 g 9 (.slice Ar sF.run.length kr) := ⟨hk11.2.2.2.2.2.1, hk11.2.2.2.2.2.2.1, hk11.2.2.2.2.2.2.2.1, hk11.2.2.2.2.2.2.2.2.1, hk11.2.2.2.2.2.2.2.2.2.1⟩
              have HKK : Hid (∀ x y z u : Value, C1 ((((w6.setCell ⟨w.heap.size + 1, 0, none⟩ x).setCell ⟨w.heap.size + 1, 1, none⟩ y).setCell ⟨w.heap.size + 1, 2, none⟩ z).setCell ⟨w.heap.size + 1, 3, none⟩ u) g 5 (.int .i64 sF.c.p) ∧ C1 ((((w6.setCell ⟨w.heap.size + 1, 0, none⟩ x).setCell ⟨w.heap.size + 1, 1, none⟩ y).setCell ⟨w.heap.size + 1, 2, none⟩ z).setCell ⟨w.heap.size + 1, 3, none⟩ u) g 6 (.int .i64 sF.c.c) ∧ C1 ((((w6.setCell ⟨w.heap.size + 1, 0, none⟩ x).setCell ⟨w.heap.size + 1, 1, none⟩ y).setCell ⟨w.heap.size + 1, 2, none⟩ z).setCell ⟨w.heap.size + 1, 3, none⟩ u) g 7 (.int .i64 sF.c.m) ∧ C1 ((((w6.setCell ⟨w.heap.size + 1, 0, none⟩ x).setCell ⟨w.heap.size + 1, 1, none⟩ y).setCell ⟨w.heap.size + 1, 2, none⟩ z).setCell ⟨w.heap.size + 1, 3, none⟩ u) g 8 (.int .i64 sF.c.r) ∧ C1 ((((w6.setCell ⟨w.heap.size + 1, 0, none⟩ x).setCell ⟨w.heap.size + 1, 1, none⟩ y).setCell ⟨w.heap.size + 1, 2, none⟩ z).setCell ⟨w.heap.size + 1, 3, none⟩ u) g 9 (.slice Ar sF.run.length kr)) := Lib.hid (fun x y z u => by
                have h := PB.k11 ((Loc.pb _ g).keep (Chg.set4 w6 (w.heap.size + 1) x y z u) (by intro k hk hd; have h1 : k = g := hk; have h2 : k = w.heap.size + 1 := hd; omega) M.out.1)
                exact ⟨h.2.2.2.2.2.1, h.2.2.2.2.2.2.1, h.2.2.2.2.2.2.2.1, h.2.2.2.2.2.2.2.2.1, h.2.2.2.2.2.2.2.2.2.1⟩)
              clear hk4 hk11
              go_region_held3 (fun W => C1 W g 5 (.int .i64 sF.c.p) ∧ C1 W g 6 (.int .i64 sF.c.c) ∧ C1 W g 7 (.int .i64 sF.c.m) ∧ C1 W g 8 (.int .i64 sF.c.r) ∧ C1 W g 9 (.slice Ar sF.run.length kr)) (first | exact hkc | exact HKK.out _ _ _ _) (fail)
              go_wp2_with fail
              have MS := Mem.chg (Chg.set4 w6 (w.heap.size + 1) (.int .i64 sF.c.p) (.int .i64 sF.c.c) (.int .i64 sF.c.m) (.int .i64 sF.c.r)) (show Mem [Loc.owI b0 b1 (.slice Ar sF.run.length kr) sF.run, Loc.bl w.heap.size w] w6 from ⟨M.out.2.2.1, M.out.2.2.2.2.2.2.1, True.intro⟩) (by (repeat' (first | exact True.intro | refine And.intro (fun k hk e => ?_) ?_)) <;> (first | exact e | ((try dsimp only [Loc.c1, Loc.c2, Loc.k1, Loc.k2, Loc.k3, Loc.k4, Loc.k6, Loc.fr, Loc.bl, Loc.own, Loc.sz, Loc.rd, Loc.rdI, Loc.rdS, Loc.rdM, Loc.rdT, Loc.ow, Loc.owI, Loc.owN, Loc.set, Loc.ns, Loc.cg, Loc.pb, silD, plD] at hk e) <;> omega)))
              refine ret_B4_tmp2 rfl rfl rfl rfl rfl (K4f.set M.out.2.2.2.1 _ _ _ _) (HR.out _ _ ⟨Ar, kr, by rw [HP2.out]; rfl, ?_, by first | exact MS.2.1.1 | exact MS.drew.2.1.1⟩)
              rw [HP2.out]
              first | exact (Own.rd MS.1).mono (by omega) (by simp only [size_setCell, heap_drew]; exact hb1) | exact (Own.rd MS.drew.1).mono (by omega) (by simp only [size_setCell, heap_drew]; exact hb1)
end Go.Proofs.Ytmhbfoaecebobaa
end
section
namespace Go.Proofs.Ytmhbfoaecebobaa
set_option linter.unusedSimpArgs false
set_option linter.unusedVariables false
structure Fr where
  n : Int
  d : Int
deriving DecidableEq
def Fr.of (k : Int) : Fr := ⟨k, 1⟩
def Fr.ok (a : Fr) : Prop := -1073741824 ≤ a.n ∧ a.n ≤ 1073741824 ∧ 1 ≤ a.d ∧ a.d ≤ 1073741824 ∧ Int.gcd a.n a.d = 1
instance (a : Fr) : Decidable a.ok := by unfold Fr.ok; infer_instance
def nf (n d : Int) : Fr := ⟨Int.sign d * (n / (Int.gcd n d : Int)), (d.natAbs : Int) / (Int.gcd n d : Int)⟩
def Fr.fits (a : Fr) : Bool := decide (-1073741824 ≤ a.n ∧ a.n ≤ 1073741824 ∧ a.d ≤ 1073741824)
def mkF (n d : Int) : Option Fr := if (nf n d).fits then some (nf n d) else none
structure FE where
  n : Int
  d : Int
  e : Int
def FE.of : Option Fr → FE
  | some a => ⟨a.n, a.d, 0⟩
  | none => ⟨0, 0, 6⟩
def FE.err (e : Int) : FE := ⟨0, 0, e⟩
def fdiv (a b : Fr) : Option Fr := mkF (a.n * b.d) (a.d * b.n)
theorem mul_bd (a b : Int) (h1 : -1073741824 ≤ a) (h2 : a ≤ 1073741824) (h3 : 0 ≤ b) (h4 : b ≤ 1073741824) : -1152921504606846976 ≤ a * b ∧ a * b ≤ 1152921504606846976 := by
  have e1 : a * b ≤ 1073741824 * b := Int.mul_le_mul_of_nonneg_right h2 h3
  have e2 : -1073741824 * b ≤ a * b := Int.mul_le_mul_of_nonneg_right h1 h3
  omega
theorem mul_bd' (a b : Int) (h1 : -1073741824 ≤ a) (h2 : a ≤ 1073741824) (h3 : -1073741824 ≤ b) (h4 : b ≤ 1073741824) : -1152921504606846976 ≤ a * b ∧ a * b ≤ 1152921504606846976 := by
  rcases Int.le_total 0 b with h | h
  · exact mul_bd a b h1 h2 h h4
  · have := mul_bd a (-b) h1 h2 (by omega) (by omega)
    rw [Int.mul_neg] at this
    omega
end Go.Proofs.Ytmhbfoaecebobaa
end
section
namespace Go.Proofs.Ytmhbfoaecebobaa
set_option linter.unusedSimpArgs false
set_option linter.unusedVariables false
open Go.RowKit
set_option maxHeartbeats 400000 in
theorem abs_any (a : Int) (w : World) (h1 : -4611686018427387904 ≤ a) (h2 : a ≤ 4611686018427387904) :
    Calls Try.prog 82 #[.int .i64 a] w fun e w' => e = .returned (.int .u64 (a.natAbs : Int)) ∧ w = w' := by
  by_cases h : a < 0
  · go_enter Try.func82, Try.ntmps82
    go_wp2
    go_ret
    exact ⟨by simp [IntKind.wrap_u64]; omega, rfl⟩
  · go_enter Try.func82, Try.ntmps82
    go_wp2
    go_ret
    exact ⟨by simp; omega, rfl⟩
theorem fit_nf (neg : Bool) (num den : Nat) (hd : 0 < den) : nf (if neg then -(num : Int) else num) den = ⟨if neg then -((num / Nat.gcd num den : Nat) : Int) else ((num / Nat.gcd num den : Nat) : Int), ((den / Nat.gcd num den : Nat) : Int)⟩ := by
  have hs : Int.sign (den : Int) = 1 := Int.sign_eq_one_of_pos (by omega)
  cases neg
  · simp [nf, hs, Int.gcd]
  · simp only [nf, hs, Int.gcd, if_true, Int.natAbs_neg, Int.natAbs_natCast, Int.one_mul]
    congr 1
    exact Int.neg_ediv_of_dvd (by rw [Int.natCast_dvd_natCast]; exact Nat.gcd_dvd_left ..)
theorem mkF_fit (neg : Bool) (num den x y : Nat) (hd : 0 < den) (hx : num / Nat.gcd num den = x) (hy : den / Nat.gcd num den = y) :
    mkF (if neg then -(num : Int) else num) den = if x ≤ 1073741824 ∧ y ≤ 1073741824 then some ⟨if neg then -(x : Int) else x, y⟩ else none := by
  unfold mkF
  rw [fit_nf neg num den hd, hx, hy]
  by_cases h : x ≤ 1073741824 ∧ y ≤ 1073741824
  · rw [if_pos h, if_pos]
    simp only [Fr.fits, decide_eq_true_eq]
    cases neg <;> simp <;> omega
  · rw [if_neg h, if_neg]
    simp only [Fr.fits, decide_eq_true_eq]
    cases neg <;> simp <;> omega
set_option maxHeartbeats 1000000 in
theorem fit_any (neg : Bool) (num den : Nat) (w : World) (hd : 0 < den) (h1 : num ≤ 9223372036854775808) (h2 : den ≤ 9223372036854775808) :
    Calls Try.prog 81 #[.bool neg, .int .u64 num, .int .u64 den] w fun e w' => e = .returned (.tuple #[.agg #[.int .i64 (FE.of (mkF (if neg then -(num : Int) else num) den)).n, .int .i64 (FE.of (mkF (if neg then -(num : Int) else num) den)).d], .int .i64 (FE.of (mkF (if neg then -(num : Int) else num) den)).e]) ∧ Below w.heap.size w w' := by
  refine zax fun R hR => ?_
  have HR := Lib.hid hR
  clear hR
  go_enter Try.func81, Try.ntmps81
  go_wp2
  go_loopw [8, 9] (fun x y wr => ∃ p q : Nat, p ≤ 9223372036854775808 ∧ q ≤ 9223372036854775808 ∧ x = .int .u64 p ∧ y = .int .u64 q ∧ Nat.gcd p q = Nat.gcd num den ∧ ∃ n, wr = (w.alloc (.cells #[.int .i64 0, .int .i64 0] 39)).drewN n) (fun _ y _ => (intOf y).toNat)
  case atStart => exact ⟨num, den, h1, h2, rfl, rfl, rfl, 0, rfl⟩
  case round =>
    obtain ⟨p, q, hp', hq', rfl, rfl, hg, n, rfl⟩ := hrel
    by_cases h0 : q = 0
    · subst h0
      simp only [Nat.gcd_zero_right] at hg
      have hp0 : 0 < p := by rw [hg]; exact Nat.gcd_pos_of_pos_right _ hd
      obtain ⟨x, hx⟩ : ∃ x, num / p = x := ⟨_, rfl⟩
      obtain ⟨y, hy⟩ : ∃ y, den / p = y := ⟨_, rfl⟩
      have hx1 : x ≤ 9223372036854775808 := by have := Nat.div_le_self num p; omega
      have hy1 : y ≤ 9223372036854775808 := by have := Nat.div_le_self den p; omega
      have HF := Lib.hid (mkF_fit neg num den x y hd (by rw [← hg]; exact hx) (by rw [← hg]; exact hy))
      have wx : IntKind.u64.wrap ((num : Int) / (p : Int)) = (x : Int) := by rw [IntKind.wrap_u64, ← Int.natCast_ediv, hx]; omega
      have wy : IntKind.u64.wrap ((den : Int) / (p : Int)) = (y : Int) := by rw [IntKind.wrap_u64, ← Int.natCast_ediv, hy]; omega
      have hne : (((p : Nat) : Int) == 0) = false := by simp; omega
      clear hg hx hy
      go_wp2
      go_quiet (fail)
      clear wx wy
      by_cases hbx : (1073741824 : Int) < x
      · go_wp2
        refine bodyPost_ret (v := .tuple #[.agg #[.int .i64 0, .int .i64 0], .int .i64 6]) (by simp [results, Try.results81, go_sem]) rfl (HR.out _ _ ⟨?_, ?_⟩)
        · rw [HF.out, if_neg (by omega)]; rfl
        · (repeat (first | exact Below.refl _ _ | assumption | refine Below.setCell ?_ (by first | omega | (simp; done) | (simp; omega)) _ | refine Below.alloc ?_ (by first | omega | (simp; done) | (simp; omega)) _ | refine Below.drew ?_ | refine below_drewN ?_ _))
      · by_cases hby : (1073741824 : Int) < y
        · have hbx' : decide ((1073741824 : Int) < x) = false := by simpa using hbx
          go_wp2
          refine bodyPost_ret (v := .tuple #[.agg #[.int .i64 0, .int .i64 0], .int .i64 6]) (by simp [results, Try.results81, go_sem]) rfl (HR.out _ _ ⟨?_, ?_⟩)
          · rw [HF.out, if_neg (by omega)]; rfl
          · (repeat (first | exact Below.refl _ _ | assumption | refine Below.setCell ?_ (by first | omega | (simp; done) | (simp; omega)) _ | refine Below.alloc ?_ (by first | omega | (simp; done) | (simp; omega)) _ | refine Below.drew ?_ | refine below_drewN ?_ _))
        · have hbx' : decide ((1073741824 : Int) < x) = false := by simpa using hbx
          have hby' : decide ((1073741824 : Int) < y) = false := by simpa using hby
          cases neg
          · go_wp2
            refine bodyPost_ret (v := .tuple #[.agg #[.int .i64 x, .int .i64 y], .int .i64 0]) (by simp [results, Try.results81, go_sem]) rfl (HR.out _ _ ⟨?_, ?_⟩)
            · rw [HF.out, if_pos (by omega)]; rfl
            · (repeat (first | exact Below.refl _ _ | assumption | refine Below.setCell ?_ (by first | omega | (simp; done) | (simp; omega)) _ | refine Below.alloc ?_ (by first | omega | (simp; done) | (simp; omega)) _ | refine Below.drew ?_ | refine below_drewN ?_ _))
          · go_wp2
            refine bodyPost_ret (v := .tuple #[.agg #[.int .i64 (-x), .int .i64 y], .int .i64 0]) (by simp [results, Try.results81, go_sem]) rfl (HR.out _ _ ⟨?_, ?_⟩)
            · rw [HF.out, if_pos (by omega)]; rfl
            · (repeat (first | exact Below.refl _ _ | assumption | refine Below.setCell ?_ (by first | omega | (simp; done) | (simp; omega)) _ | refine Below.alloc ?_ (by first | omega | (simp; done) | (simp; omega)) _ | refine Below.drew ?_ | refine below_drewN ?_ _))
    · have HG := Lib.hid hg
      clear hg
      have hne : (((q : Nat) : Int) != 0) = true := by simp; omega
      have hne2 : (((q : Nat) : Int) == 0) = false := by simp; omega
      go_wp2
      go_quiet (fail)
      go_wp2
      have hlt : p % q < q := Nat.mod_lt _ (by omega)
      go_roundw
      case rel => exact ⟨q, p % q, hq', by omega, rfl, by rw [Int.natCast_emod], by rw [← HG.out, Nat.gcd_comm q, ← Nat.gcd_rec, Nat.gcd_comm], n + nq, by rw [World.drewN_drewN]⟩
      case measure => simp only [intOf]; omega
end Go.Proofs.Ytmhbfoaecebobaa
end
section
namespace Go.Proofs.Ytmhbfoaecebobaa
set_option linter.unusedSimpArgs false
set_option linter.unusedVariables false
open Go.RowKit
def makeE (n d : Int) : FE := if d = 0 then FE.err 7 else FE.of (mkF n d)
end Go.Proofs.Ytmhbfoaecebobaa
end
section
namespace Go.Proofs.Ytmhbfoaecebobaa
set_option linter.unusedSimpArgs false
set_option linter.unusedVariables false
open Go.RowKit
theorem ret_B2t {fn : Func} {R : Ending → World → Prop} {a : Act} {w : World} {t u : Tmp} {g : Nat} {x y z : Value} (hres : fn.results = #[.cell t 39, .tmp u]) (hd : a.defers = [])
    (ht : a.tmps.getD t undef = .pointer (some ⟨g, 0, none⟩)) (hu : a.tmps.getD u undef = z) (hB : K2 w g x y) (hR : R (.returned (.tuple #[.agg #[x, y], z])) w) : bodyPost Try.prog fn R .ret a w := by
  obtain ⟨h1, h2, h3, h4, h5⟩ := hB
  rw [Array.getD_eq_getD_getElem?] at ht hu
  exact bodyPost_ret (by simp only [results, hres]; simp [go_sem, ht, hu, h1, h2]) hd hR
theorem fit_int (neg : Bool) (num den n : Int) (w : World) (h0 : 0 ≤ num) (hd : 0 < den) (h1 : num ≤ 9223372036854775808) (h2 : den ≤ 9223372036854775808) (hn : (if neg then -num else num) = n) :
    Calls Try.prog 81 #[.bool neg, .int .u64 num, .int .u64 den] w fun e w' => e = .returned (.tuple #[.agg #[.int .i64 (FE.of (mkF n den)).n, .int .i64 (FE.of (mkF n den)).d], .int .i64 (FE.of (mkF n den)).e]) ∧ Below w.heap.size w w' := by
  obtain ⟨a, rfl⟩ := Int.eq_ofNat_of_zero_le h0
  obtain ⟨b, rfl⟩ := Int.eq_ofNat_of_zero_le (Int.le_of_lt hd)
  subst hn
  exact fit_any neg a b w (by omega) (by omega) (by omega)
set_option maxRecDepth 100000 in
set_option maxHeartbeats 1000000 in
theorem fmake_any (n d : Int) (w : World) (hn : -4611686018427387904 ≤ n ∧ n ≤ 4611686018427387904) (hd : 0 < d ∧ d ≤ 4611686018427387904) :
    Calls Try.prog 38 #[.int .i64 n, .int .i64 d] w fun e w' => e = .returned (.tuple #[.agg #[.int .i64 (makeE n d).n, .int .i64 (makeE n d).d], .int .i64 (makeE n d).e]) ∧ Below w.heap.size w w' := by
  have hne : d ≠ 0 := by omega
  have HE : Hid (makeE n d = FE.of (mkF n d)) := Lib.hid (by unfold makeE; rw [if_neg hne])
  have hd0 : (d == 0) = false := by simpa using hne
  have hdn : decide (d < 0) = false := by simp; omega
  have HK : Hid (K2 (w.alloc (.cells #[.int .i64 0, .int .i64 0] 39)) w.heap.size (.int .i64 0) (.int .i64 0)) := Lib.hid (K2.new _ _ _ _)
  have HB : Hid (Below w.heap.size w (w.alloc (.cells #[.int .i64 0, .int .i64 0] 39))) := Lib.hid ((Below.refl _ _).alloc (Nat.le_refl _) _)
  have hk := HK.out
  obtain ⟨x1, x2⟩ := hn
  obtain ⟨x3, x4⟩ := hd
  by_cases h0 : n < 0
  all_goals
    refine zax fun R hR => ?_
    have HR := Lib.hid hR
    clear hR
    go_enter Try.func38, Try.ntmps38
    go_wp2_with (first
      | (go_at_call 82; refine (abs_any _ _ (by omega) (by omega)).mono ?_; rintro e w' ⟨rfl, rfl⟩)
      | (go_at_call 81; refine (fit_int _ _ _ n _ (by omega) (by omega) (by omega) (by omega) (by first | (simp; done) | (simp; omega))).mono ?_; rintro e w3 ⟨rfl, hb3⟩; have HK3 := Lib.hid (K2.aft hb3 HK.out); have HB3 := Lib.hid (HB.out.trans (hb3.mono HB.out.size)); clear hb3; replace hk := HK3.out))
    have HDN : Hid ((d.natAbs : Int) = d) := Lib.hid (by omega)
    refine ret_B2t rfl rfl rfl rfl (K2.set HK3.out _ _) (HR.out _ _ ⟨?_, HB3.out.trans (below_set (Nat.le_refl _))⟩)
    rw [HE.out, HDN.out]
    rfl
abbrev encC (x : Cnt) : List Value := [.int .i64 x.p, .int .i64 x.c, .int .i64 x.m, .int .i64 x.r]
abbrev RdCn := Rd 4 encC
abbrev C4 (w : World) (b o : Nat) (x y z u : Value) : Prop := w.cell? ⟨b, o, none⟩ = some x ∧ w.cell? ⟨b, o + 1, none⟩ = some y ∧ w.cell? ⟨b, o + 2, none⟩ = some z ∧ w.cell? ⟨b, o + 3, none⟩ = some u
theorem RdCn.at4 {w : World} {lo hi : Nat} {A : Option Addr} {c : Nat} {l : List Cnt} (h : RdCn w lo hi (.slice A l.length c) l) {k : Nat} (hk : k < l.length) :
    ∃ b off, A = some ⟨b, off, none⟩ ∧ lo ≤ b ∧ b < hi ∧ C4 w b (off + k * 4) (.int .i64 (gti l k).p) (.int .i64 (gti l k).c) (.int .i64 (gti l k).m) (.int .i64 (gti l k).r) := by
  obtain ⟨b, off, hA, h1, h2, hc⟩ := Rd.at_ h (fun _ => rfl) (gti_get hk)
  exact ⟨b, off, hA, h1, h2, hc 0 _ rfl, hc 1 _ rfl, hc 2 _ rfl, hc 3 _ rfl⟩
def numOk (k : Int) : Bool := decide (0 ≤ k) && decide (k ≤ 1048576)
def cntOk (c : Cnt) : Bool := numOk c.p && numOk c.c && numOk c.m && numOk c.r
def addC (a b : Cnt) : Cnt := ⟨a.p + b.p, a.c + b.c, a.m + b.m, a.r + b.r⟩
def sumC : List Cnt → Cnt → Option Cnt
  | [], s => some s
  | c :: l, s => if cntOk c then sumC l (addC s c) else none
def fitF (s : Cnt) : FE := if s.c = 0 ∨ s.p = 0 then FE.err 10 else makeE (2 * (s.c * s.p) - s.m * s.p - s.r * s.c) (2 * (s.c * s.p))
def FitE (l : List Cnt) : FE := if 1000 < l.length then FE.err 1 else match sumC l ⟨0, 0, 0, 0⟩ with | none => FE.err 1 | some s => fitF s
def Bd (k : Nat) (s : Cnt) : Prop := (0 ≤ s.p ∧ s.p ≤ 1048576 * k) ∧ (0 ≤ s.c ∧ s.c ≤ 1048576 * k) ∧ (0 ≤ s.m ∧ s.m ≤ 1048576 * k) ∧ (0 ≤ s.r ∧ s.r ≤ 1048576 * k)
theorem Bd.add {k : Nat} {s c : Cnt} (h : Bd k s) (hc : cntOk c = true) : Bd (k + 1) (addC s c) := by
  unfold cntOk numOk at hc
  simp only [Bool.and_eq_true, decide_eq_true_eq] at hc
  unfold Bd at h ⊢
  simp only [addC]
  omega
theorem cntOk_false {x : Cnt} {k : Nat} (hk : k < 4) (h : numOk (gti [x.p, x.c, x.m, x.r] k) = false) : cntOk x = false := by
  have e : k = 0 ∨ k = 1 ∨ k = 2 ∨ k = 3 := by omega
  rcases e with rfl | rfl | rfl | rfl <;> simp [gti] at h <;> simp [cntOk, h]
theorem cntOk_true {x : Cnt} (h : ∀ i, i < 4 → numOk (gti [x.p, x.c, x.m, x.r] i) = true) : cntOk x = true := by
  have h0 := h 0 (by omega)
  have h1 := h 1 (by omega)
  have h2 := h 2 (by omega)
  have h3 := h 3 (by omega)
  simp [gti] at h0 h1 h2 h3
  simp [cntOk, h0, h1, h2, h3]
set_option maxRecDepth 100000 in
set_option maxHeartbeats 4000000 in
theorem Fitness_any (l : List Cnt) (lo hi : Nat) (v : Value) (w : World) (hv : RdCn w lo hi v l) (hhi : hi ≤ w.heap.size) :
    Calls Try.prog 13 #[v] w fun e w' => e = .returned (.tuple #[.agg #[.int .i64 (FitE l).n, .int .i64 (FitE l).d], .int .i64 (FitE l).e]) ∧ Below w.heap.size w w' := by
  obtain ⟨A, c, rfl, hc, hm⟩ := hv.form
  have HV := Lib.hid hv
  clear hv
  have M : Hid (Mem [Loc.k2 w.heap.size (.int .i64 0) (.int .i64 0), Loc.bl w.heap.size w] (w.alloc (.cells #[.int .i64 0, .int .i64 0] 39))) := Lib.hid ⟨K2.new _ _ _ _, ⟨(Below.refl _ _).alloc (Nat.le_refl _) _, by simp⟩, True.intro⟩
  have hk2 := M.out.1
  refine zax fun R hR => ?_
  have HR := Lib.hid hR
  clear hR
  go_enter Try.func13, Try.ntmps13
  by_cases h1000 : 1000 < l.length
  · have hd : decide ((1000 : Int) < l.length) = true := by simp; omega
    have HE : Hid (FitE l = FE.err 1) := Lib.hid (by unfold FitE; rw [if_pos h1000])
    go_wp2_with fail
    exact ret_B2t rfl rfl rfl rfl M.out.1 (HR.out _ _ ⟨by rw [HE.out]; rfl, M.out.2.1.1⟩)
  · have hd : decide ((1000 : Int) < l.length) = false := by simp; omega
    have HE : Hid (FitE l = match sumC l ⟨0, 0, 0, 0⟩ with | none => FE.err 1 | some s => fitF s) := Lib.hid (by unfold FitE; rw [if_neg h1000])
    have MS : Hid (Mem [Loc.k4f (w.heap.size + 1) (.int .i64 0) (.int .i64 0) (.int .i64 0) (.int .i64 0), Loc.k2 w.heap.size (.int .i64 0) (.int .i64 0), Loc.bl w.heap.size w] ((w.alloc (.cells #[.int .i64 0, .int .i64 0] 39)).alloc (.cells #[.int .i64 0, .int .i64 0, .int .i64 0, .int .i64 0] 29))) := Lib.hid ⟨by have := K4f.new (w.alloc (.cells #[.int .i64 0, .int .i64 0] 39)) (.int .i64 0) (.int .i64 0) (.int .i64 0) (.int .i64 0) 29; rw [World.size_alloc] at this; exact this, M.out.alloc _⟩
    go_wp2_with fail
    go_loopw [16, 6, 8] (fun v16 _ _ wr => ∃ (j : Nat) (s : Cnt), j ≤ l.length ∧ v16 = .int .i64 j ∧ Hid (sumC l ⟨0, 0, 0, 0⟩ = sumC (l.drop j) s) ∧ Hid (Bd j s) ∧ Hid (Mem [Loc.k4f (w.heap.size + 1) (.int .i64 s.p) (.int .i64 s.c) (.int .i64 s.m) (.int .i64 s.r), Loc.k2 w.heap.size (.int .i64 0) (.int .i64 0), Loc.bl w.heap.size w] wr)) (fun v16 _ _ _ => l.length - (intOf v16).toNat)
    case atStart => exact ⟨0, ⟨0, 0, 0, 0⟩, Nat.zero_le _, rfl, Lib.hid rfl, Lib.hid (by unfold Bd; simp), MS⟩
    case round =>
      clear M MS hk2
      obtain ⟨j, s, hj, rfl, HT, HB, M⟩ := hrel
      have hk2 := M.out.2.1
      have hks := M.out.1
      by_cases hlt : j < l.length
      · obtain ⟨bi, oi, rfl, _, _, hci⟩ := RdCn.at4 (HV.out.after M.out.2.2.1.1) hlt
        have HD : Hid (sumC l ⟨0, 0, 0, 0⟩ = if cntOk (gti l j) then sumC (l.drop (j + 1)) (addC s (gti l j)) else none) := Lib.hid (by rw [HT.out, drop_gti hlt]; rfl)
        clear HT
        obtain ⟨x, hx⟩ : ∃ x, gti l j = x := ⟨_, rfl⟩
        rw [hx] at hci HD
        clear hx
        have hzw := M.out.2.2.1.2
        obtain ⟨gx, hgx⟩ : ∃ g, wr.heap.size = g := ⟨_, rfl⟩
        have HGX := Lib.hid hgx
        have hgx1 : w.heap.size + 1 < gx := by have := hks.2.2.2.2.2.2.2.2; omega
        have M2 : Hid (Mem [Loc.rdI (gx + 1) (gx + 2) (.slice (some ⟨gx + 1, 0, none⟩) 4 4) [x.p, x.c, x.m, x.r], Loc.k4f gx (.int .i64 x.p) (.int .i64 x.c) (.int .i64 x.m) (.int .i64 x.r), Loc.k4f (w.heap.size + 1) (.int .i64 s.p) (.int .i64 s.c) (.int .i64 s.m) (.int .i64 s.r), Loc.k2 w.heap.size (.int .i64 0) (.int .i64 0), Loc.bl w.heap.size w] ((wr.alloc (.cells #[.int .i64 x.p, .int .i64 x.c, .int .i64 x.m, .int .i64 x.r] 29)).alloc (.cells #[.int .i64 x.p, .int .i64 x.c, .int .i64 x.m, .int .i64 x.r] 3))) := Lib.hid (by
          have h1 := Own.lit (enc := encI) (size := 1) (wr.alloc (.cells #[.int .i64 x.p, .int .i64 x.c, .int .i64 x.m, .int .i64 x.r] 29)) 3 (gx + 1) [x.p, x.c, x.m, x.r] #[.int .i64 x.p, .int .i64 x.c, .int .i64 x.m, .int .i64 x.r] 4 rfl rfl (by simp; omega) (by decide) (fun _ => rfl)
          simp only [World.size_alloc, hgx] at h1
          have h2 := K4f.new wr (.int .i64 x.p) (.int .i64 x.c) (.int .i64 x.m) (.int .i64 x.r) 29
          rw [hgx] at h2
          exact ⟨Own.rd h1, (Mem.alloc (l := [Loc.k4f gx _ _ _ _]) ⟨h2, True.intro⟩ _).1, (M.out.alloc _).alloc _⟩)
        clear M hgx
        go_wp2_with fail
        rw [HGX.out]
        go_loopw [30, 8] (fun v30 _ wr2 => ∃ k : Nat, k ≤ 4 ∧ v30 = .int .i64 k ∧ Hid (∀ i, i < k → numOk (gti [x.p, x.c, x.m, x.r] i) = true) ∧ Hid (Mem [Loc.rdI (gx + 1) (gx + 2) (.slice (some ⟨gx + 1, 0, none⟩) 4 4) [x.p, x.c, x.m, x.r], Loc.k4f gx (.int .i64 x.p) (.int .i64 x.c) (.int .i64 x.m) (.int .i64 x.r), Loc.k4f (w.heap.size + 1) (.int .i64 s.p) (.int .i64 s.c) (.int .i64 s.m) (.int .i64 s.r), Loc.k2 w.heap.size (.int .i64 0) (.int .i64 0), Loc.bl w.heap.size w] wr2)) (fun v30 _ _ => 4 - (intOf v30).toNat)
        case atStart => exact ⟨0, by omega, rfl, Lib.hid (fun i hi => absurd hi (by omega)), M2⟩
        case round =>
          clear M2 hci hk2 hks
          obtain ⟨k, hk4, rfl, HO, M⟩ := hrel
          have hk2 := M.out.2.2.2.1
          have hks := M.out.2.2.1
          have hkx := M.out.2.1
          by_cases hlk : k < 4
          · obtain ⟨bx, ox, hbx, _, _, hcx⟩ := RdI.at1 (l := [x.p, x.c, x.m, x.r]) M.out.1 (k := k) hlk
            injection hbx with hbx
            injection hbx with e1 e2
            subst e1 e2
            obtain ⟨X, hX⟩ : ∃ X, gti [x.p, x.c, x.m, x.r] k = X := ⟨_, rfl⟩
            have HX := Lib.hid hX
            rw [hX, Nat.zero_add] at hcx
            clear hX
            by_cases hn : X < 0
            · have hd1 : decide (X < 0) = true := by simpa using hn
              have HN : Hid (sumC l ⟨0, 0, 0, 0⟩ = none) := Lib.hid (by rw [HD.out, cntOk_false hlk (by rw [HX.out]; unfold numOk; simp; omega)]; rfl)
              go_wp2_with fail
              refine ret_B2t rfl rfl rfl rfl (K2.set M.out.2.2.2.1 _ _) (HR.out _ _ ⟨?_, (Mem.step (a' := Loc.k2 w.heap.size (.int .i64 0) (.int .i64 0)) M.out.2.2.2 (K2.set M.out.2.2.2.1 _ _) (Chg.set2 _ w.heap.size 0 1 _ _) (by (repeat' (first | exact True.intro | refine And.intro (fun k hk e => ?_) ?_)) <;> (first | exact e | ((try dsimp only [Loc.c1, Loc.c2, Loc.k1, Loc.k2, Loc.k3, Loc.k4, Loc.k6, Loc.fr, Loc.bl, Loc.own, Loc.sz, Loc.rd, Loc.rdI, Loc.rdS, Loc.rdM, Loc.rdT, Loc.ow, Loc.owI, Loc.owN, Loc.set, Loc.ns, Loc.cg, Loc.pb, silD, plD] at hk e) <;> omega)))).2.1.1⟩)
              rw [HE.out, HN.out]; rfl
            · have hd1 : decide (X < 0) = false := by simpa using hn
              by_cases hg : 1048576 < X
              · have hd2 : decide ((1048576 : Int) < X) = true := by simpa using hg
                have HN : Hid (sumC l ⟨0, 0, 0, 0⟩ = none) := Lib.hid (by rw [HD.out, cntOk_false hlk (by rw [HX.out]; unfold numOk; simp; omega)]; rfl)
                go_wp2_with fail
                refine ret_B2t rfl rfl rfl rfl (K2.set M.out.2.2.2.1 _ _) (HR.out _ _ ⟨?_, (Mem.step (a' := Loc.k2 w.heap.size (.int .i64 0) (.int .i64 0)) M.out.2.2.2 (K2.set M.out.2.2.2.1 _ _) (Chg.set2 _ w.heap.size 0 1 _ _) (by (repeat' (first | exact True.intro | refine And.intro (fun k hk e => ?_) ?_)) <;> (first | exact e | ((try dsimp only [Loc.c1, Loc.c2, Loc.k1, Loc.k2, Loc.k3, Loc.k4, Loc.k6, Loc.fr, Loc.bl, Loc.own, Loc.sz, Loc.rd, Loc.rdI, Loc.rdS, Loc.rdM, Loc.rdT, Loc.ow, Loc.owI, Loc.owN, Loc.set, Loc.ns, Loc.cg, Loc.pb, silD, plD] at hk e) <;> omega)))).2.1.1⟩)
                rw [HE.out, HN.out]; rfl
              · have hd2 : decide ((1048576 : Int) < X) = false := by simpa using hg
                have HOX : Hid (numOk X = true) := Lib.hid (by unfold numOk; simp; omega)
                go_wp2_with fail
                exact ⟨⟨k + 1, by omega, by go_num, Lib.hid (fun i hi => by
                  rcases Nat.lt_succ_iff_lt_or_eq.1 hi with h | rfl
                  · exact HO.out i h
                  · rw [HX.out]; exact HOX.out), M⟩, by simp [intOf]; omega⟩
          · obtain rfl : k = 4 := by omega
            have hok := cntOk_true HO.out
            have hbd := HB.out
            have HBN := Lib.hid (hbd.add hok)
            have HNX : Hid (sumC l ⟨0, 0, 0, 0⟩ = sumC (l.drop (j + 1)) (addC s x)) := Lib.hid (by rw [HD.out, hok]; rfl)
            have hb2 : (0 ≤ s.p ∧ s.p ≤ 1048576000) ∧ (0 ≤ s.c ∧ s.c ≤ 1048576000) ∧ (0 ≤ s.m ∧ s.m ≤ 1048576000) ∧ (0 ≤ s.r ∧ s.r ≤ 1048576000) ∧ (0 ≤ x.p ∧ x.p ≤ 1048576) ∧ (0 ≤ x.c ∧ x.c ≤ 1048576) ∧ (0 ≤ x.m ∧ x.m ≤ 1048576) ∧ (0 ≤ x.r ∧ x.r ≤ 1048576) := by
              unfold Bd at hbd
              unfold cntOk numOk at hok
              simp only [Bool.and_eq_true, decide_eq_true_eq] at hok
              omega
            clear hok hbd HD HO
            obtain ⟨⟨q1, q2⟩, ⟨q3, q4⟩, ⟨q5, q6⟩, ⟨q7, q8⟩, ⟨q9, q10⟩, ⟨q11, q12⟩, ⟨q13, q14⟩, ⟨q15, q16⟩⟩ := hb2
            go_wp2_with fail
            exact ⟨⟨j + 1, addC s x, by omega, by go_num, HNX, HBN, Lib.hid (Mem.step (a' := Loc.k4f (w.heap.size + 1) (.int .i64 (s.p + x.p)) (.int .i64 (s.c + x.c)) (.int .i64 (s.m + x.m)) (.int .i64 (s.r + x.r))) M.out.2.2 (K4f.set M.out.2.2.1 _ _ _ _) (Chg.set4 _ (w.heap.size + 1) _ _ _ _) (by (repeat' (first | exact True.intro | refine And.intro (fun k hk e => ?_) ?_)) <;> (first | exact e | ((try dsimp only [Loc.c1, Loc.c2, Loc.k1, Loc.k2, Loc.k3, Loc.k4, Loc.k6, Loc.fr, Loc.bl, Loc.own, Loc.sz, Loc.rd, Loc.rdI, Loc.rdS, Loc.rdM, Loc.rdT, Loc.ow, Loc.owI, Loc.owN, Loc.set, Loc.ns, Loc.cg, Loc.pb, silD, plD] at hk e) <;> omega))))⟩, by simp [intOf]; omega⟩
      · obtain rfl : j = l.length := by omega
        have hbd := HB.out
        have hb2 : (0 ≤ s.p ∧ s.p ≤ 1073741824) ∧ (0 ≤ s.c ∧ s.c ≤ 1073741824) ∧ (0 ≤ s.m ∧ s.m ≤ 1073741824) ∧ (0 ≤ s.r ∧ s.r ≤ 1073741824) := by unfold Bd at hbd; omega
        have HN : Hid (FitE l = fitF s) := Lib.hid (by rw [HE.out, HT.out, List.drop_length]; rfl)
        clear hbd HT HE
        obtain ⟨⟨q1, q2⟩, ⟨q3, q4⟩, ⟨q5, q6⟩, ⟨q7, q8⟩⟩ := hb2
        by_cases hc0 : s.c = 0
        · have hd1 : (s.c == 0) = true := by simpa using hc0
          have HF : Hid (fitF s = FE.err 10) := Lib.hid (by unfold fitF; rw [if_pos (.inl hc0)])
          clear hc0
          go_wp2_with fail
          refine ret_B2t rfl rfl rfl rfl (K2.set M.out.2.1 _ _) (HR.out _ _ ⟨?_, (Mem.step (a' := Loc.k2 w.heap.size (.int .i64 0) (.int .i64 0)) M.out.2 (K2.set M.out.2.1 _ _) (Chg.set2 _ w.heap.size 0 1 _ _) (by (repeat' (first | exact True.intro | refine And.intro (fun k hk e => ?_) ?_)) <;> (first | exact e | ((try dsimp only [Loc.c1, Loc.c2, Loc.k1, Loc.k2, Loc.k3, Loc.k4, Loc.k6, Loc.fr, Loc.bl, Loc.own, Loc.sz, Loc.rd, Loc.rdI, Loc.rdS, Loc.rdM, Loc.rdT, Loc.ow, Loc.owI, Loc.owN, Loc.set, Loc.ns, Loc.cg, Loc.pb, silD, plD] at hk e) <;> omega)))).2.1.1⟩)
          rw [HN.out, HF.out]; rfl
        · have hd1 : (s.c == 0) = false := by simpa using hc0
          by_cases hp0 : s.p = 0
          · have hd2 : (s.p == 0) = true := by simpa using hp0
            have HF : Hid (fitF s = FE.err 10) := Lib.hid (by unfold fitF; rw [if_pos (.inr hp0)])
            clear hp0 hc0
            go_wp2_with fail
            refine ret_B2t rfl rfl rfl rfl (K2.set M.out.2.1 _ _) (HR.out _ _ ⟨?_, (Mem.step (a' := Loc.k2 w.heap.size (.int .i64 0) (.int .i64 0)) M.out.2 (K2.set M.out.2.1 _ _) (Chg.set2 _ w.heap.size 0 1 _ _) (by (repeat' (first | exact True.intro | refine And.intro (fun k hk e => ?_) ?_)) <;> (first | exact e | ((try dsimp only [Loc.c1, Loc.c2, Loc.k1, Loc.k2, Loc.k3, Loc.k4, Loc.k6, Loc.fr, Loc.bl, Loc.own, Loc.sz, Loc.rd, Loc.rdI, Loc.rdS, Loc.rdM, Loc.rdT, Loc.ow, Loc.owI, Loc.owN, Loc.set, Loc.ns, Loc.cg, Loc.pb, silD, plD] at hk e) <;> omega)))).2.1.1⟩)
            rw [HN.out, HF.out]; rfl
          · have hd2 : (s.p == 0) = false := by simpa using hp0
            have HF : Hid (fitF s = makeE (2 * (s.c * s.p) - s.m * s.p - s.r * s.c) (2 * (s.c * s.p))) := Lib.hid (by unfold fitF; rw [if_neg (by omega)])
            have hm1 := mul_bd' s.c s.p (by omega) q4 (by omega) q2
            have hm2 := mul_bd' s.m s.p (by omega) q6 (by omega) q2
            have hm3 := mul_bd' s.r s.c (by omega) q8 (by omega) q4
            have hpos : 0 < s.c * s.p := Int.mul_pos (by omega) (by omega)
            obtain ⟨P1, hP1⟩ : ∃ P, s.c * s.p = P := ⟨_, rfl⟩
            obtain ⟨P2, hP2⟩ : ∃ P, s.m * s.p = P := ⟨_, rfl⟩
            obtain ⟨P3, hP3⟩ : ∃ P, s.r * s.c = P := ⟨_, rfl⟩
            have hw1 : wrap64 (s.c * s.p) = P1 := by rw [hP1]; rw [hP1] at hm1; exact IntWalk.wrap64_in _ (by omega)
            have hw2 : wrap64 (s.m * s.p) = P2 := by rw [hP2]; rw [hP2] at hm2; exact IntWalk.wrap64_in _ (by omega)
            have hw3 : wrap64 (s.r * s.c) = P3 := by rw [hP3]; rw [hP3] at hm3; exact IntWalk.wrap64_in _ (by omega)
            rw [hP1, hP2, hP3] at HF
            rw [hP1] at hm1 hpos
            rw [hP2] at hm2
            rw [hP3] at hm3
            clear hP1 hP2 hP3
            have HMK := Lib.hid (fun W => fmake_any (2 * P1 - P2 - P3) (2 * P1) W (by omega) (by omega))
            go_wp2_with (go_at_call 38; refine (HMK.out _).mono ?_; rintro e w5 ⟨rfl, hb5⟩; replace M := Lib.hid (M.out.below hb5); clear hb5; replace hk2 := M.out.2.1)
            refine ret_B2t rfl rfl rfl rfl (K2.set M.out.2.1 _ _) (HR.out _ _ ⟨?_, (Mem.step (a' := Loc.k2 w.heap.size _ _) M.out.2 (K2.set M.out.2.1 _ _) (Chg.set2 _ w.heap.size 0 1 _ _) (by (repeat' (first | exact True.intro | refine And.intro (fun k hk e => ?_) ?_)) <;> (first | exact e | ((try dsimp only [Loc.c1, Loc.c2, Loc.k1, Loc.k2, Loc.k3, Loc.k4, Loc.k6, Loc.fr, Loc.bl, Loc.own, Loc.sz, Loc.rd, Loc.rdI, Loc.rdS, Loc.rdM, Loc.rdT, Loc.ow, Loc.owI, Loc.owN, Loc.set, Loc.ns, Loc.cg, Loc.pb, silD, plD] at hk e) <;> omega)))).2.1.1⟩)
            rw [HN.out, HF.out]
            rfl
end Go.Proofs.Ytmhbfoaecebobaa
end
section
namespace Go.Proofs.Ytmhbfoaecebobaa
set_option linter.unusedSimpArgs false
set_option linter.unusedVariables false
open Go.RowKit
def inS (n : Net) : List Int → Int
  | [] => 0
  | t :: l => (gti n.trans t.toNat).inn.length + inS n l
def outS (n : Net) : List Int → Int
  | [] => 0
  | t :: l => (gti n.trans t.toNat).out.length + outS n l
theorem inS_snoc (n : Net) (t : Int) : ∀ l, inS n (l ++ [t]) = inS n l + (gti n.trans t.toNat).inn.length
  | [] => by simp [inS]
  | a :: l => by rw [List.cons_append, inS, inS, inS_snoc n t l]; omega
theorem outS_snoc (n : Net) (t : Int) : ∀ l, outS n (l ++ [t]) = outS n l + (gti n.trans t.toNat).out.length
  | [] => by simp [outS]
  | a :: l => by rw [List.cons_append, outS, outS, outS_snoc n t l]; omega
def PC (n : Net) (s : Pl) : Prop := ∃ u : Int, 0 ≤ u ∧ s.c.c = u + inS n s.run ∧ s.c.p = 1 + u + outS n s.run
theorem PC.take {n : Net} {s : Pl} (h : PC n s) (t : Int) : PC n (takeP n t s) := by
  obtain ⟨u, h0, h1, h2⟩ := h
  obtain ⟨e1, e2, e3, e4⟩ := takeP_c n t s
  refine ⟨u, h0, ?_, ?_⟩
  · rw [e1, e4, inS_snoc]; omega
  · rw [e2, e4, outS_snoc]; omega
theorem PC.all {n : Net} : ∀ {l : List Int} {s : Pl}, PC n s → PC n (takeAll n l s)
  | [], s, h => h
  | t :: l, s, h => PC.all (l := l) (s := takeP n t s) (h.take t)
theorem PC.play {n : Net} {s : Pl} (h : PC n s) (act : ByteArray) : PC n (playE n act s) := by
  unfold playE
  split
  · exact h.all.take _
  · split
    · exact h.take _
    · obtain ⟨u, h0, h1, h2⟩ := h
      exact ⟨u + 1, by omega, by simp only; omega, by simp only; omega⟩
end Go.Proofs.Ytmhbfoaecebobaa
end
section
namespace Go.Proofs.Ytmhbfoaecebobaa
set_option linter.unusedSimpArgs false
set_option linter.unusedVariables false
open Go.RowKit
def RetL (w : World) (l : List Int) (e : Ending) (w' : World) : Prop :=
  ∃ A c, e = .returned (.slice A l.length c) ∧ RdI w' w.heap.size w'.heap.size (.slice A l.length c) l ∧ Below w.heap.size w w'
theorem RetL.mk {w w' : World} {l : List Int} {n k : Nat} {A : Option Addr} (hn : n = l.length) {lo hi : Nat} (hr : RdI w' lo hi (.slice A n k) l) (hlo : w.heap.size ≤ lo) (hhi : hi ≤ w'.heap.size) (hb : Below w.heap.size w w') : RetL w l (.returned (.slice A n k)) w' := by
  subst hn
  exact ⟨A, k, rfl, hr.mono hlo hhi, hb⟩
def eqLs {α : Type} [DecidableEq α] : List α → List α → Bool
  | [], [] => true
  | x :: a, y :: b => if x = y then eqLs a b else false
  | _, _ => false
theorem eqLs_iff {α : Type} [DecidableEq α] : ∀ a b : List α, eqLs a b = decide (a = b)
  | [], [] => rfl
  | [], _ :: _ => by simp [eqLs]
  | _ :: _, [] => by simp [eqLs]
  | x :: a, y :: b => by
    rw [eqLs, eqLs_iff a b]
    by_cases h : x = y <;> simp [h]
theorem eqLs_len {α : Type} [DecidableEq α] {a b : List α} (h : a.length ≠ b.length) : decide (a = b) = false := by
  simp
  intro e
  exact h (by rw [e])
set_option maxHeartbeats 1000000 in
theorem equalI_any (a b : List Int) (lo hi lo2 hi2 : Nat) (v1 v2 : Value) (w : World) (h1 : RdI w lo hi v1 a) (h2 : RdI w lo2 hi2 v2 b) :
    Calls Try.prog 12 #[v1, v2] w fun e w' => e = .returned (.bool (decide (a = b))) ∧ Below w.heap.size w w' := by
  obtain ⟨A1, c1, rfl, hc1, hm1⟩ := h1.form
  obtain ⟨A2, c2, rfl, hc2, hm2⟩ := h2.form
  have H1 := Lib.hid h1
  have H2 := Lib.hid h2
  clear h1 h2
  refine zax fun R hR => ?_
  have HR := Lib.hid hR
  clear hR
  go_enter Try.func12, Try.ntmps12
  by_cases hl : a.length = b.length
  · have hl' : (a.length : Int) = b.length := by omega
    have HL := Lib.hid hl
    clear hl
    go_wp2_with fail
    go_loopw [13, 5] (fun v13 _ wr => ∃ (k q : Nat), k ≤ a.length ∧ v13 = .int .i64 k ∧ wr = w.drewN q ∧ Hid (decide (a = b) = eqLs (a.drop k) (b.drop k))) (fun v13 _ _ => a.length - (intOf v13).toNat)
    case atStart => exact ⟨0, 0, by omega, rfl, rfl, Lib.hid (by rw [← eqLs_iff]; rfl)⟩
    case round =>
      obtain ⟨k, q, hk, rfl, rfl, HI⟩ := hrel
      by_cases hlt : k < a.length
      · have hkd : decide ((k : Int) < (a.length : Int)) = true := by simp; omega
        have hkb : (k : Int) < (a.length : Int) := by omega
        have hkc : (k : Int) < (b.length : Int) := by omega
        obtain ⟨b1, o1, rfl, _, _, f1⟩ := RdI.at1 H1.out hlt
        obtain ⟨b2, o2, rfl, _, _, f2⟩ := RdI.at1 H2.out (k := k) (by have := HL.out; omega)
        have HJ : Hid (decide (a = b) = if gti a k = gti b k then eqLs (a.drop (k + 1)) (b.drop (k + 1)) else false) := Lib.hid (by rw [HI.out, drop_gti hlt, drop_gti (l := b) (k := k) (by have := HL.out; omega), eqLs])
        generalize gti a k = x at *
        generalize gti b k = y at *
        go_wp2
        go_quiet (fail)
        go_wp2
        all_goals have hj := HJ.out
        · refine HR.out _ _ ⟨ret_bool ?_, below_drewN (below_drewN (Below.refl _ _) _) _⟩
          clear HJ HI; go_light; grind
        all_goals first
          | (refine ⟨⟨k + 1, q + nq, by omega, by go_num, by first | rfl | rw [World.drewN_drewN], Lib.hid (by clear HJ HI; go_light; grind)⟩, by simp [intOf]; omega⟩)
      · have hkd : decide ((k : Int) < (a.length : Int)) = false := by simp; omega
        have HE : Hid (decide (a = b) = true) := Lib.hid (by rw [HI.out, List.drop_eq_nil_of_le (by omega), List.drop_eq_nil_of_le (by have := HL.out; omega)]; rfl)
        clear HI
        go_wp2
        exact HR.out _ _ ⟨ret_bool HE.out.symm, below_drewN (Below.refl _ _) _⟩
  · have hl' : ¬ (a.length : Int) = b.length := by omega
    have HL := Lib.hid hl
    clear hl
    go_wp2_with fail
    exact HR.out _ _ ⟨ret_bool (eqLs_len HL.out).symm, Below.refl _ _⟩
end Go.Proofs.Ytmhbfoaecebobaa
end
section
namespace Go.Proofs.Ytmhbfoaecebobaa
set_option linter.unusedSimpArgs false
set_option linter.unusedVariables false
open Go.RowKit
theorem Rd.of_cells {α : Type} {size : Nat} {enc : α → List Value} {W : World} {b : Nat} {l : List α} (he : ∀ a, (enc a).length = size) (hm : l.length ≤ maxLen) (h : ∀ j u, (l.flatMap enc)[j]? = some u → W.cell? ⟨b, j, none⟩ = some u) (n : Nat) (hn : n = l.length) (hi : Nat) (hb : b < hi) :
    Rd size enc W 0 hi (.slice (some ⟨b, 0, none⟩) n n) l := by
  subst hn
  exact ⟨flatMap_len he l, _, _, rfl, Nat.le_refl _, hm, fun _ => ⟨b, 0, rfl, Nat.zero_le _, hb, fun j u hu => by rw [Nat.zero_add]; exact h j u hu⟩⟩
theorem get1 {x0 : Value} {P : Nat → Value → Prop} (h0 : P 0 x0) : ∀ j u, [x0][j]? = some u → P j u := by
  intro j u hu
  match j, hu with
  | 0, hu => simp at hu; exact hu ▸ h0
  | j + 1, hu => simp at hu
theorem rdI_one {W : World} {b hi : Nat} {x : Int} (h : W.cell? ⟨b, 0, none⟩ = some (.int .i64 x)) (hb : b < hi) : RdI W 0 hi (.slice (some ⟨b, 0, none⟩) 1 1) [x] :=
  Rd.of_cells (enc := encI) (l := [x]) (fun _ => rfl) (by simp [maxLen]) (get1 (P := fun j u => W.cell? ⟨b, j, none⟩ = some u) h) 1 rfl hi hb
theorem RdS.lit1 (W : World) (a : ByteArray) (t : TypeId) : RdS (W.alloc (.cells #[.string a] t)) 0 (W.heap.size + 1) (.slice (some ⟨W.heap.size, 0, none⟩) 1 1) [a] := Rd.lit W t [a] _ 1 rfl rfl (by decide) (fun _ => rfl)
theorem RdS.lit2 (W : World) (a b : ByteArray) (t : TypeId) : RdS (W.alloc (.cells #[.string a, .string b] t)) 0 (W.heap.size + 1) (.slice (some ⟨W.heap.size, 0, none⟩) 2 2) [a, b] := Rd.lit W t [a, b] _ 2 rfl rfl (by decide) (fun _ => rfl)
theorem get6 {x0 x1 x2 x3 x4 x5 : Value} {P : Nat → Value → Prop} (h0 : P 0 x0) (h1 : P 1 x1) (h2 : P 2 x2) (h3 : P 3 x3) (h4 : P 4 x4) (h5 : P 5 x5) : ∀ j u, [x0, x1, x2, x3, x4, x5][j]? = some u → P j u := by
  intro j u hu
  match j, hu with
  | 0, hu => simp at hu; exact hu ▸ h0
  | 1, hu => simp at hu; exact hu ▸ h1
  | 2, hu => simp at hu; exact hu ▸ h2
  | 3, hu => simp at hu; exact hu ▸ h3
  | 4, hu => simp at hu; exact hu ▸ h4
  | 5, hu => simp at hu; exact hu ▸ h5
  | j + 6, hu => simp at hu
theorem RdS.lit2E (W : World) (a b : ByteArray) (t : TypeId) (g hi : Nat) (hg : W.heap.size = g) (hh : g + 1 ≤ hi) : RdS (W.alloc (.cells #[.string a, .string b] t)) 0 hi (.slice (some ⟨g, 0, none⟩) 2 2) [a, b] := by
  subst hg
  exact (RdS.lit2 W a b t).mono (Nat.le_refl _) hh
theorem RdS.lit1E (W : World) (a : ByteArray) (t : TypeId) (g hi : Nat) (hg : W.heap.size = g) (hh : g + 1 ≤ hi) : RdS (W.alloc (.cells #[.string a] t)) 0 hi (.slice (some ⟨g, 0, none⟩) 1 1) [a] := by
  subst hg
  exact (RdS.lit1 W a t).mono (Nat.le_refl _) hh
theorem RdCn.lit1E (W : World) (a : Cnt) (t : TypeId) (g hi : Nat) (hg : W.heap.size = g) (hh : g + 1 ≤ hi) : RdCn (W.alloc (.cells #[.int .i64 a.p, .int .i64 a.c, .int .i64 a.m, .int .i64 a.r] t)) 0 hi (.slice (some ⟨g, 0, none⟩) 1 1) [a] := by
  subst hg
  exact (Rd.lit W t [a] _ 1 rfl rfl (by decide) (fun _ => rfl)).mono (Nat.le_refl _) hh
def exTr : List Tr := [⟨⟨#[97]⟩, [0], [1]⟩, ⟨⟨#[98]⟩, [1], [2]⟩]
def exNet : Net := ⟨3, exTr, 0, 2⟩
theorem ex_wf : Wf exNet := by
  have h0 : Rch exNet false 0 0 := .start
  have h1 : Rch exNet false 0 1 := .step (i := 0) (p := 0) (q := 1) (by decide) (by decide) h0 (by decide)
  have h2 : Rch exNet false 0 2 := .step (i := 1) (p := 1) (q := 2) (by decide) (by decide) h1 (by decide)
  have k2 : Rch exNet true 2 2 := .start
  have k1 : Rch exNet true 2 1 := .step (i := 1) (p := 2) (q := 1) (by decide) (by decide) k2 (by decide)
  have k0 : Rch exNet true 2 0 := .step (i := 0) (p := 1) (q := 0) (by decide) (by decide) k1 (by decide)
  refine ⟨by decide +kernel, by decide, ?_, ?_, ?_⟩
  · intro i hi
    match i, hi with
    | 0, _ => exact ⟨by decide, by decide⟩
    | 1, _ => exact ⟨by decide, by decide⟩
    | i + 2, hi => exact absurd hi (by simp [exNet, exTr])
  · intro back p hp
    match p, hp with
    | 0, _ => cases back; exact h0; exact k0
    | 1, _ => cases back; exact h1; exact k1
    | 2, _ => cases back; exact h2; exact k2
    | p + 3, hp => exact absurd hp (by simp [exNet])
  · intro back i hi
    match i, hi with
    | 0, _ => cases back; exact ⟨0, by decide, h0⟩; exact ⟨1, by decide, k1⟩
    | 1, _ => cases back; exact ⟨1, by decide, h1⟩; exact ⟨2, by decide, k2⟩
    | i + 2, hi => exact absurd hi (by simp [exNet, exTr])
theorem ex_play1 : PlayE exNet [⟨#[97]⟩, ⟨#[98]⟩] = (⟨3, 3, 0, 0⟩, [0, 1], 0) := by
  have h : endE exNet (playL exNet [⟨#[97]⟩, ⟨#[98]⟩] (pl0 exNet)) = (⟨3, 3, 0, 0⟩, [0, 1], 0) := by decide +kernel
  have ha : allN [⟨#[97]⟩, ⟨#[98]⟩] = true := by decide +kernel
  unfold PlayE
  rw [wfB_true ex_wf, ha, if_neg (by decide), if_neg (by decide), h]
theorem ex_play2 : ∃ run, PlayE exNet [⟨#[98]⟩] = (⟨2, 2, 1, 1⟩, run, 0) := by
  have h : endE exNet (playL exNet [⟨#[98]⟩] (pl0 exNet)) = (⟨2, 2, 1, 1⟩, [1], 0) := by decide +kernel
  have ha : allN [⟨#[98]⟩] = true := by decide +kernel
  refine ⟨[1], ?_⟩
  unfold PlayE
  rw [wfB_true ex_wf, ha, if_neg (by decide), if_neg (by decide), h]
theorem ex_fit : FitE [⟨2, 2, 1, 1⟩] = ⟨1, 2, 0⟩ := by
  have h : (fitF ⟨2, 2, 1, 1⟩).n = 1 ∧ (fitF ⟨2, 2, 1, 1⟩).d = 2 ∧ (fitF ⟨2, 2, 1, 1⟩).e = 0 := by decide +kernel
  have h2 : FitE [⟨2, 2, 1, 1⟩] = fitF ⟨2, 2, 1, 1⟩ := by unfold FitE; rw [if_neg (by decide)]; rfl
  rw [h2]
  obtain ⟨h1, h3, h4⟩ := h
  generalize fitF ⟨2, 2, 1, 1⟩ = x at *
  obtain ⟨a, b, c⟩ := x
  simp only at h1 h3 h4
  rw [h1, h3, h4]
theorem play_ex1 (W : World) (vt v : Value) (lo hi lo' hi' : Nat) (hv : RdT W lo hi vt exTr) (hw : RdS W lo' hi' v [⟨#[97]⟩, ⟨#[98]⟩]) (h1 : hi ≤ W.heap.size) (h2 : hi' ≤ W.heap.size) :
    Calls Try.prog 10 #[.agg #[.int .i64 3, vt, .int .i64 0, .int .i64 2], v] W fun e w' => ∃ A k, e = .returned (.tuple #[.agg #[.int .i64 3, .int .i64 3, .int .i64 0, .int .i64 0], .slice A 2 k, .int .i64 0]) ∧ RdI w' W.heap.size w'.heap.size (.slice A 2 k) [0, 1] ∧ Below W.heap.size W w' := by
  have h := Play_any exNet [⟨#[97]⟩, ⟨#[98]⟩] vt v lo hi lo' hi' W hv hw h1 h2
  rw [ex_play1] at h
  exact h
theorem play_ex2 (W : World) (vt v : Value) (lo hi lo' hi' : Nat) (hv : RdT W lo hi vt exTr) (hw : RdS W lo' hi' v [⟨#[98]⟩]) (h1 : hi ≤ W.heap.size) (h2 : hi' ≤ W.heap.size) :
    Calls Try.prog 10 #[.agg #[.int .i64 3, vt, .int .i64 0, .int .i64 2], v] W fun e w' => ∃ A n k, e = .returned (.tuple #[.agg #[.int .i64 2, .int .i64 2, .int .i64 1, .int .i64 1], .slice A n k, .int .i64 0]) ∧ Below W.heap.size W w' := by
  have h := Play_any exNet [⟨#[98]⟩] vt v lo hi lo' hi' W hv hw h1 h2
  obtain ⟨run, hr⟩ := ex_play2
  rw [hr] at h
  refine h.mono ?_
  rintro e w' ⟨A, k, h1, _, h3⟩
  exact ⟨A, run.length, k, h1, h3⟩
theorem fit_ex (W : World) (v : Value) (lo hi : Nat) (hv : RdCn W lo hi v [⟨2, 2, 1, 1⟩]) (h1 : hi ≤ W.heap.size) :
    Calls Try.prog 13 #[v] W fun e w' => e = .returned (.tuple #[.agg #[.int .i64 1, .int .i64 2], .int .i64 0]) ∧ Below W.heap.size W w' := by
  have h := Fitness_any [⟨2, 2, 1, 1⟩] lo hi v W hv h1
  rw [ex_fit] at h
  exact h
theorem exRdT {W : World} {g hi : Nat} (hi6 : g + 4 < hi)
    (h0 : W.cell? ⟨g, 0, none⟩ = some (.int .i64 0)) (h1 : W.cell? ⟨g + 1, 0, none⟩ = some (.int .i64 1)) (h2 : W.cell? ⟨g + 2, 0, none⟩ = some (.int .i64 1)) (h3 : W.cell? ⟨g + 3, 0, none⟩ = some (.int .i64 2))
    (c0 : W.cell? ⟨g + 4, 0, none⟩ = some (.string ⟨#[97]⟩)) (c1 : W.cell? ⟨g + 4, 1, none⟩ = some (.slice (some ⟨g, 0, none⟩) 1 1)) (c2 : W.cell? ⟨g + 4, 2, none⟩ = some (.slice (some ⟨g + 1, 0, none⟩) 1 1))
    (c3 : W.cell? ⟨g + 4, 3, none⟩ = some (.string ⟨#[98]⟩)) (c4 : W.cell? ⟨g + 4, 4, none⟩ = some (.slice (some ⟨g + 2, 0, none⟩) 1 1)) (c5 : W.cell? ⟨g + 4, 5, none⟩ = some (.slice (some ⟨g + 3, 0, none⟩) 1 1)) :
    RdT W 0 hi (.slice (some ⟨g + 4, 0, none⟩) 2 2) exTr := by
  refine ⟨[⟨⟨#[97]⟩, .slice (some ⟨g, 0, none⟩) 1 1, .slice (some ⟨g + 1, 0, none⟩) 1 1⟩, ⟨⟨#[98]⟩, .slice (some ⟨g + 2, 0, none⟩) 1 1, .slice (some ⟨g + 3, 0, none⟩) 1 1⟩], ?_, rfl, ?_⟩
  · exact Rd.of_cells (enc := encV) (l := [_, _]) (fun _ => rfl) (by simp [maxLen]) (get6 (P := fun j u => W.cell? ⟨g + 4, j, none⟩ = some u) c0 c1 c2 c3 c4 c5) 2 rfl hi hi6
  · intro k hk
    match k, hk with
    | 0, _ => exact ⟨rfl, rdI_one h0 (by omega), rdI_one h1 (by omega)⟩
    | 1, _ => exact ⟨rfl, rdI_one h2 (by omega), rdI_one h3 (by omega)⟩
    | k + 2, hk => exact absurd hk (by simp [exTr])
set_option maxRecDepth 100000 in
set_option maxHeartbeats 4000000 in
theorem exMem (w : World) : Mem [Loc.rdT 0 (w.heap.size + 5) (.slice (some ⟨w.heap.size + 4, 0, none⟩) 2 2) exTr, Loc.k4 (w.heap.size + 5) (.int .i64 3) (.slice (some ⟨w.heap.size + 4, 0, none⟩) 2 2) (.int .i64 0) (.int .i64 2), Loc.bl w.heap.size w]
    ((((((w.alloc (Obj.cells #[Value.int IntKind.i64 0] 3)).alloc (Obj.cells #[Value.int IntKind.i64 1] 3)).alloc
                              (Obj.cells #[Value.int IntKind.i64 1] 3)).alloc
                          (Obj.cells #[Value.int IntKind.i64 2] 3)).alloc
                  (Obj.cells
                    #[Value.string { data := #[97] }, Value.slice (some { block := w.heap.size, off := 0 }) 1 1,
                      Value.slice (some { block := w.heap.size + 1, off := 0 }) 1 1, Value.string { data := #[98] },
                      Value.slice (some { block := w.heap.size + 1 + 1, off := 0 }) 1 1,
                      Value.slice (some { block := w.heap.size + 1 + 1 + 1, off := 0 }) 1 1]
                    46)).alloc
              (Obj.cells
                #[Value.int IntKind.i64 3,
                  Value.slice (some { block := w.heap.size + 1 + 1 + 1 + 1, off := 0 }) 2 2,
                  Value.int IntKind.i64 0, Value.int IntKind.i64 2]
                24)) := by
  refine ⟨exRdT (by omega) ?_ ?_ ?_ ?_ ?_ ?_ ?_ ?_ ?_ ?_, ⟨?_, ?_, ?_, ?_, ?_⟩, ⟨?_, ?_⟩, True.intro⟩
  all_goals first
    | (simp [go_sem]; done)
    | (simp [go_sem]; omega)
    | (repeat (first | exact Below.refl _ _ | assumption | refine Below.setCell ?_ (by first | omega | (simp; done) | (simp; omega)) _ | refine Below.alloc ?_ (by first | omega | (simp; done) | (simp; omega)) _ | refine Below.drew ?_ | refine below_drewN ?_ _))
set_option maxRecDepth 100000 in
set_option maxHeartbeats 4000000 in
theorem awake_any (w : World) :
    Calls Try.prog 8 #[] w fun e w' => e = .returned (.bool true) ∧ Below w.heap.size w w' := by
  refine zax fun R hR => ?_
  have HR := Lib.hid hR
  clear hR
  go_enter Try.func8, Try.ntmps8
  have M := Lib.hid (exMem w)
  have hk4 := M.out.2.1
  go_wp2_with fail
  refine Calls.mono (play_ex1 _ _ _ 0 (w.heap.size + 5) 0 (w.heap.size + 7) (M.out.1.after ((Below.refl _ _).alloc (Nat.le_refl _) _)) (RdS.lit2E _ _ _ _ _ _ (by simp) (by omega)) (by simp only [World.size_alloc]; omega) (by simp only [World.size_alloc]; omega)) ?_
  rintro e w1 ⟨A1, k1, rfl, hr1, hb1⟩
  have M1 : Hid (Mem [Loc.rdT 0 (w.heap.size + 5) (.slice (some ⟨w.heap.size + 4, 0, none⟩) 2 2) exTr, Loc.k4 (w.heap.size + 5) (.int .i64 3) (.slice (some ⟨w.heap.size + 4, 0, none⟩) 2 2) (.int .i64 0) (.int .i64 2), Loc.bl w.heap.size w] w1) := Lib.hid ((M.out.alloc _).below hb1)
  have HR1 := Lib.hid hr1
  have hz1 := hb1.size
  simp only [World.size_alloc] at hz1
  clear M hb1 hr1
  replace hk4 := M1.out.2.1
  go_wp2_with fail
  have M2 : Hid (Mem [Loc.k4 w1.heap.size (.int .i64 3) (.int .i64 3) (.int .i64 0) (.int .i64 0), Loc.rdT 0 (w.heap.size + 5) (.slice (some ⟨w.heap.size + 4, 0, none⟩) 2 2) exTr, Loc.k4 (w.heap.size + 5) (.int .i64 3) (.slice (some ⟨w.heap.size + 4, 0, none⟩) 2 2) (.int .i64 0) (.int .i64 2), Loc.bl w.heap.size w] ((w1.alloc (.cells #[.int .i64 3, .int .i64 3, .int .i64 0, .int .i64 0] 29)).alloc (.cells #[.string ⟨#[98]⟩] 9))) := Lib.hid ⟨(Mem.alloc (l := [Loc.k4 w1.heap.size _ _ _ _]) ⟨K4.new _ _ _ _ _ _, True.intro⟩ _).1, (M1.out.alloc _).alloc _⟩
  have HR2 := Lib.hid (HR1.out.after (((Below.refl w1.heap.size w1).alloc (Nat.le_refl _) (.cells #[.int .i64 3, .int .i64 3, .int .i64 0, .int .i64 0] 29)).alloc (by simp) (.cells #[.string ⟨#[98]⟩] 9)))
  clear M1 HR1
  obtain ⟨g1, hg1⟩ : ∃ g, w1.heap.size = g := ⟨_, rfl⟩
  refine Calls.mono (play_ex2 _ _ _ 0 (w.heap.size + 5) 0 (w1.heap.size + 2) M2.out.2.1 (RdS.lit1E _ _ _ _ _ (by simp) (by omega)) (by simp only [World.size_alloc]; omega) (by simp only [World.size_alloc]; omega)) ?_
  rintro e w2 ⟨A2, n2, k2, rfl, hb2⟩
  replace M2 := Lib.hid (M2.out.below hb2)
  replace HR2 := Lib.hid (HR2.out.after hb2)
  have hz2 := hb2.size
  simp only [World.size_alloc] at hz2
  rw [hg1] at M2 hz2
  rw [hg1]
  clear hb2
  replace hk4 := M2.out.2.2.1
  have hkx := M2.out.1
  go_wp2_with fail
  have M3 : Hid (Mem [Loc.k4 w2.heap.size (.int .i64 2) (.int .i64 2) (.int .i64 1) (.int .i64 1), Loc.k4 g1 (.int .i64 3) (.int .i64 3) (.int .i64 0) (.int .i64 0), Loc.rdT 0 (w.heap.size + 5) (.slice (some ⟨w.heap.size + 4, 0, none⟩) 2 2) exTr, Loc.k4 (w.heap.size + 5) (.int .i64 3) (.slice (some ⟨w.heap.size + 4, 0, none⟩) 2 2) (.int .i64 0) (.int .i64 2), Loc.bl w.heap.size w] ((w2.alloc (.cells #[.int .i64 2, .int .i64 2, .int .i64 1, .int .i64 1] 29)).alloc (.cells #[.int .i64 2, .int .i64 2, .int .i64 1, .int .i64 1] 29))) := Lib.hid ⟨(Mem.alloc (l := [Loc.k4 w2.heap.size _ _ _ _]) ⟨K4.new _ _ _ _ _ _, True.intro⟩ _).1, (M2.out.alloc _).alloc _⟩
  have HR3 := Lib.hid (HR2.out.after (((Below.refl w2.heap.size w2).alloc (Nat.le_refl _) (.cells #[.int .i64 2, .int .i64 2, .int .i64 1, .int .i64 1] 29)).alloc (by simp) (.cells #[.int .i64 2, .int .i64 2, .int .i64 1, .int .i64 1] 29)))
  clear M2 HR2 hkx
  obtain ⟨g2, hg2⟩ : ∃ g, w2.heap.size = g := ⟨_, rfl⟩
  refine Calls.mono (fit_ex _ _ 0 (w2.heap.size + 2) (RdCn.lit1E _ ⟨2, 2, 1, 1⟩ _ _ _ (by simp) (by omega)) (by simp only [World.size_alloc]; omega)) ?_
  rintro e w3 ⟨rfl, hb3⟩
  replace M3 := Lib.hid (M3.out.below hb3)
  replace HR3 := Lib.hid (HR3.out.after hb3)
  have hz3 := hb3.size
  simp only [World.size_alloc] at hz3
  rw [hg2] at M3 hz3
  rw [hg2]
  clear hb3
  replace hk4 := M3.out.2.2.2.1
  have hkx := M3.out.2.1
  have hky := M3.out.1
  go_wp2_with fail
  have M4 : Hid (Mem [Loc.k2 w3.heap.size (.int .i64 1) (.int .i64 2), Loc.k4 g2 (.int .i64 2) (.int .i64 2) (.int .i64 1) (.int .i64 1), Loc.k4 g1 (.int .i64 3) (.int .i64 3) (.int .i64 0) (.int .i64 0), Loc.bl w.heap.size w] ((w3.alloc (.cells #[.int .i64 1, .int .i64 2] 39)).alloc (.cells #[.int .i64 0, .int .i64 1] 3))) := Lib.hid ⟨(Mem.alloc (l := [Loc.k2 w3.heap.size _ _]) ⟨K2.new _ _ _ _, True.intro⟩ _).1, (M3.out.1 |> fun h => (Mem.alloc (Mem.alloc (l := [Loc.k4 g2 _ _ _ _]) ⟨h, True.intro⟩ _) _).1), (M3.out.2.1 |> fun h => (Mem.alloc (Mem.alloc (l := [Loc.k4 g1 _ _ _ _]) ⟨h, True.intro⟩ _) _).1), (Mem.alloc (Mem.alloc (l := [Loc.bl w.heap.size w]) ⟨M3.out.2.2.2.2.1, True.intro⟩ _) _).1, True.intro⟩
  have HR4 := Lib.hid (HR3.out.after (((Below.refl w3.heap.size w3).alloc (Nat.le_refl _) (.cells #[.int .i64 1, .int .i64 2] 39)).alloc (by simp) (.cells #[.int .i64 0, .int .i64 1] 3)))
  clear M3 HR3 hkx hky hk4
  have hq : RdI ((w3.alloc (.cells #[.int .i64 1, .int .i64 2] 39)).alloc (.cells #[.int .i64 0, .int .i64 1] 3)) 0 (w3.heap.size + 2) (.slice (some ⟨w3.heap.size + 1, 0, none⟩) 2 2) [0, 1] := by
    have := Rd.lit (enc := encI) (size := 1) (w3.alloc (.cells #[.int .i64 1, .int .i64 2] 39)) 3 [0, 1] #[.int .i64 0, .int .i64 1] 2 rfl rfl (by decide) (fun _ => rfl)
    rw [World.size_alloc] at this
    exact this
  refine Calls.mono (equalI_any [0, 1] [0, 1] _ _ 0 (w3.heap.size + 2) _ _ _ HR4.out hq) ?_
  rintro e w4 ⟨rfl, hb4⟩
  replace M4 := Lib.hid (M4.out.below hb4)
  clear hb4 HR4 hq
  have hkz := M4.out.1
  have hky := M4.out.2.1
  have hkx := M4.out.2.2.1
  have hdt : decide (([0, 1] : List Int) = [0, 1]) = true := by decide
  rw [hdt]
  obtain ⟨g3, hg3⟩ : ∃ g, w3.heap.size = g := ⟨_, rfl⟩
  rw [hg3] at M4 hkz
  rw [hg3]
  go_wp2_with fail
  exact HR.out _ _ ⟨rfl, M4.out.2.2.2.1.1⟩
end Go.Proofs.Ytmhbfoaecebobaa
end
section
namespace Go.Proofs.Ytmhbfoaecebobaa
set_option linter.unusedSimpArgs false
set_option linter.unusedVariables false
open Go.RowKit
end Go.Proofs.Ytmhbfoaecebobaa
end
section
namespace Go.Proofs.Ytmhbfoaecebobaa.Aw
set_option linter.unusedSimpArgs false
set_option linter.unusedVariables false
open Go.RowKit Go.Proofs
variable {P : Program} [IsP P]
theorem newCx_st {G : Cx} {w' : World} {b o : Nat} (h1 : G.w.heap.size ≤ b) (h2 : b < w'.heap.size) : (newCx G w').St b o := .inr ⟨h1, h2⟩
theorem pure_prog {f : FuncId} {args : List AV} {r : AV} (h : Pure Try.prog f args r) : Pure P f args r := by rw [IsP.eq (P := P)]; exact h
theorem lo_I {k : Nat} {l : List Int} : Lo k (eL eI l) := zaq fun _ => .s _
theorem retI_pure {f : FuncId} {args : List AV} {r : List Int × Int} (he : Ent f) (h : ∀ (G : Cx) (vargs : Array Value), (∀ b o, G.St b o → b < G.w.heap.size) → vargs.size = args.length → (∀ (j : Nat) v x, vargs[j]? = some v → args[j]? = some x → Rep G v x) → Calls Try.prog f vargs G.w (RetI G.w r)) : Pure P f args (.tup [eL eI r.1, eI r.2]) :=
  pure_prog (pure_mk he (.tup _ (zah lo_I (zah (.s _) zap))) fun G vargs hst hsz hrep => (h G vargs hst hsz hrep).mono (by
    rintro e w' ⟨A, c, rfl, hr, hb⟩
    refine ⟨_, rfl, hb, .tup _ _ rfl (fun j v x hv hx => ?_)⟩
    match j, hv, hx with
    | 0, hv, hx => simp at hv hx; subst hv hx; exact rdI_rep (G := newCx G w') hr (fun b o h1 h2 _ => newCx_st h1 h2)
    | 1, hv, hx => simp at hv hx; subst hv hx; exact .s _
    | j + 2, hv, hx => simp at hv))
theorem retB_pure {f : FuncId} {args : List AV} {b : Bool} (he : Ent f) (h : ∀ (G : Cx) (vargs : Array Value), (∀ b o, G.St b o → b < G.w.heap.size) → vargs.size = args.length → (∀ (j : Nat) v x, vargs[j]? = some v → args[j]? = some x → Rep G v x) → Calls Try.prog f vargs G.w fun e w' => e = .returned (.bool b) ∧ Below G.w.heap.size G.w w') : Pure P f args (eB b) :=
  pure_prog (pure_mk he (.s _) fun G vargs hst hsz hrep => (h G vargs hst hsz hrep).mono (by
    rintro e w' ⟨rfl, hb⟩
    exact ⟨_, rfl, hb, .s _⟩))
theorem args3 {G : Cx} {vargs : Array Value} {n : Net} {m : List Int} {x : Value} (hst : ∀ b o, G.St b o → b < G.w.heap.size) (hsz : vargs.size = [eN n, eL eI m, .s x].length) (hrep : ∀ (j : Nat) v y, vargs[j]? = some v → [eN n, eL eI m, .s x][j]? = some y → Rep G v y) :
    ∃ vt v, vargs = #[netV n vt, v, x] ∧ RdT G.w 0 G.w.heap.size vt n.trans ∧ RdI G.w 0 G.w.heap.size v m := by
  obtain ⟨l⟩ := vargs
  match l, hsz with
  | [a, b, c], _ =>
    obtain ⟨vt, rfl, h1⟩ := rep_net (hrep 0 a _ rfl rfl) hst
    have h2 := rep_rdI (hrep 1 b _ rfl rfl) hst
    have h3 := rep_s (hrep 2 c _ rfl rfl)
    subst h3
    exact ⟨vt, b, rfl, h1, h2⟩
theorem args2 {G : Cx} {vargs : Array Value} {n : Net} {m : List Int} (hst : ∀ b o, G.St b o → b < G.w.heap.size) (hsz : vargs.size = [eN n, eL eI m].length) (hrep : ∀ (j : Nat) v y, vargs[j]? = some v → [eN n, eL eI m][j]? = some y → Rep G v y) :
    ∃ vt v, vargs = #[netV n vt, v] ∧ RdT G.w 0 G.w.heap.size vt n.trans ∧ RdI G.w 0 G.w.heap.size v m := by
  obtain ⟨l⟩ := vargs
  match l, hsz with
  | [a, b], _ =>
    obtain ⟨vt, rfl, h1⟩ := rep_net (hrep 0 a _ rfl rfl) hst
    exact ⟨vt, b, rfl, h1, rep_rdI (hrep 1 b _ rfl rfl) hst⟩
theorem args1 {G : Cx} {vargs : Array Value} {n : Net} (hst : ∀ b o, G.St b o → b < G.w.heap.size) (hsz : vargs.size = [eN n].length) (hrep : ∀ (j : Nat) v y, vargs[j]? = some v → [eN n][j]? = some y → Rep G v y) :
    ∃ vt, vargs = #[netV n vt] ∧ RdT G.w 0 G.w.heap.size vt n.trans := by
  obtain ⟨l⟩ := vargs
  match l, hsz with
  | [a], _ =>
    obtain ⟨vt, rfl, h1⟩ := rep_net (hrep 0 a _ rfl rfl) hst
    exact ⟨vt, rfl, h1⟩
theorem argsS {G : Cx} {vargs : Array Value} {l : List ByteArray} (hst : ∀ b o, G.St b o → b < G.w.heap.size) (hsz : vargs.size = [eL eS l].length) (hrep : ∀ (j : Nat) v y, vargs[j]? = some v → [eL eS l][j]? = some y → Rep G v y) :
    ∃ v, vargs = #[v] ∧ RdS G.w 0 G.w.heap.size v l := by
  obtain ⟨q⟩ := vargs
  match q, hsz with
  | [a], _ => exact ⟨a, rfl, rep_rdS (hrep 0 a _ rfl rfl) hst⟩
theorem workflow_pf (n : Net) : Pure P 27 [eN n] (eB (wfB n)) :=
  retB_pure (ent_of Try.func27 rfl rfl) fun G vargs hst hsz hrep => by
    obtain ⟨vt, rfl, h1⟩ := args1 hst hsz hrep
    exact workflow_any n vt _ _ G.w h1
theorem rvalid_pf (n : Net) : Pure P 49 [eN n] (eB (zbc n)) :=
  retB_pure (ent_of Try.func49 rfl rfl) fun G vargs hst hsz hrep => by
    obtain ⟨vt, rfl, h1⟩ := args1 hst hsz hrep
    exact rvalid_any n vt _ _ G.w h1
theorem named_pf (l : List ByteArray) : Pure P 28 [eL eS l] (eB (allN l)) :=
  retB_pure (ent_of Try.func28 rfl rfl) fun G vargs hst hsz hrep => by
    obtain ⟨v, rfl, h1⟩ := argsS hst hsz hrep
    exact named_any l _ _ v G.w h1
end Go.Proofs.Ytmhbfoaecebobaa.Aw
end
section
namespace Go.Proofs.Ytmhbfoaecebobaa
set_option linter.unusedSimpArgs false
set_option linter.unusedVariables false
open Go.RowKit
structure SlV where
  a : Option Addr
  n : Nat
  c : Nat
  deriving Inhabited
abbrev SlV.v (x : SlV) : Value := .slice x.a x.n x.c
abbrev encW (x : SlV) : List Value := [x.v]
abbrev RdW := Rd 1 encW
def RdWs (D : Nat → Prop) (w : World) (vs : List SlV) (ls : List (List Int)) : Prop :=
  vs.length = ls.length ∧ ∀ i, i < ls.length → RdB D w (gti vs i).v (gti ls i)
theorem RdWs.keep {D E : Nat → Prop} {w W : World} (hc : Chg E w W) (hd : ∀ k, D k → ¬ E k) {vs : List SlV} {ls : List (List Int)} (h : RdWs D w vs ls) : RdWs D W vs ls := ⟨h.1, fun i hi => (h.2 i hi).keep hc hd⟩
theorem RdWs.mono {D E : Nat → Prop} {w : World} {vs : List SlV} {ls : List (List Int)} (h : RdWs D w vs ls) (hd : ∀ k, D k → E k) : RdWs E w vs ls := ⟨h.1, fun i hi => (h.2 i hi).mono hd⟩
theorem RdWs.nil (D : Nat → Prop) (w : World) : RdWs D w [] [] := ⟨rfl, fun i hi => absurd hi (by simp)⟩
theorem RdWs.snoc {D : Nat → Prop} {w : World} {vs : List SlV} {ls : List (List Int)} (h : RdWs D w vs ls) {v : SlV} {x : List Int} (h1 : RdB D w v.v x) : RdWs D w (vs ++ [v]) (ls ++ [x]) := by
  refine ⟨by simp [h.1], fun i hi => ?_⟩
  by_cases hl : i < ls.length
  · rw [gti_pre hl, gti_pre (by rw [h.1]; exact hl)]
    exact h.2 i hl
  · obtain rfl : i = ls.length := by simp at hi; omega
    have e1 : gti (vs ++ [v]) ls.length = v := by rw [gti_app, if_neg (by rw [h.1]; omega), h.1, Nat.sub_self]; rfl
    have e2 : gti (ls ++ [x]) ls.length = x := by rw [gti_app, if_neg (by omega), Nat.sub_self]; rfl
    rw [e1, e2]
    exact h1
theorem RdW.at1 {w : World} {lo hi : Nat} {A : Option Addr} {c : Nat} {l : List SlV} (h : RdW w lo hi (.slice A l.length c) l) {k : Nat} (hk : k < l.length) :
    ∃ b off, A = some ⟨b, off, none⟩ ∧ lo ≤ b ∧ b < hi ∧ C1 w b (off + k) (gti l k).v := by
  obtain ⟨b, off, hA, h1, h2, hc⟩ := Rd.at_ h (fun _ => rfl) (gti_get hk)
  exact ⟨b, off, hA, h1, h2, by have := hc 0 _ rfl; rw [Nat.mul_one] at this; exact this⟩
theorem RdW.lit (W : World) (x : SlV) (t : TypeId) : RdW (W.alloc (.cells #[x.v] t)) 0 (W.heap.size + 1) (.slice (some ⟨W.heap.size, 0, none⟩) 1 1) [x] := Rd.lit W t [x] _ 1 rfl rfl (by decide) (fun _ => rfl)
end Go.Proofs.Ytmhbfoaecebobaa
end
section
namespace Go.Proofs.Ytmhbfoaecebobaa.Aw
set_option linter.unusedSimpArgs false
set_option linter.unusedVariables false
open Go.RowKit Go.Proofs
variable {P : Program} [IsP P]
abbrev eBA : ByteArray := { data := #[] }
end Go.Proofs.Ytmhbfoaecebobaa.Aw
end
section
namespace Go.Proofs.Ytmhbfoaecebobaa.Aw
set_option linter.unusedSimpArgs false
set_option linter.unusedVariables false
open Go.RowKit Go.Proofs
variable {P : Program} [IsP P]
theorem take_snoc' {l : List Int} {k : Nat} (h : k < l.length) : l.take (k + 1) = l.take k ++ [gti l k] := by
  rw [List.take_add_one, gti_get h]; rfl
end Go.Proofs.Ytmhbfoaecebobaa.Aw
end
section
namespace Go.Proofs.Ytmhbfoaecebobaa.Aw
set_option linter.unusedSimpArgs false
set_option linter.unusedVariables false
open Go.RowKit Go.Proofs
variable {P : Program} [IsP P]
theorem rone_pf (n : Net) (np kp : Nat) (hnp : n.places = (np : Int)) (h40 : np ≤ 40) (hlt : kp < np) :
    Pure P 20 [eN n, eI kp] (eL eI (oneL np kp)) := by
  have hE : ((List.replicate np (eI 0)).set kp (eI 1)) = (oneL np kp).map eI := by unfold oneL; rw [List.map_set, List.map_replicate]; rfl
  have hel : (List.replicate np (AV.s (.int .i64 0)))[kp]? = some (AV.s (.int .i64 0)) := by rw [List.getElem?_replicate, if_pos hlt]
  refine aw_fn (by rw [IsP.eq (P := P)]; exact Try.func20) rfl rfl rfl rfl rfl (by repeat' (first | exact Lo.s _ | exact Lo.emp | exact Lo.any | exact zap | exact zao | refine zah ?_ ?_ | refine zai ?_ ?_ | refine zaq ?_ | refine zan ?_ | refine Lo.cells ?_ | refine Lo.agg _ ?_ | refine Lo.ref _ ?_ | refine Lo.tup _ ?_ | refine Lo.fn _ _ ?_ | refine Lo.sl _ ?_ | intro _)) (by repeat' (first | exact Lo.s _ | exact Lo.emp | exact Lo.any | exact zap | exact zao | refine zah ?_ ?_ | refine zai ?_ ?_ | refine zaq ?_ | refine zan ?_ | refine Lo.cells ?_ | refine Lo.agg _ ?_ | refine Lo.ref _ ?_ | refine Lo.tup _ ?_ | refine Lo.fn _ _ ?_ | refine Lo.sl _ ?_ | intro _)) (by simp only [argF]; rfl) ?_
  repeat (first | refine zaf ?_ | refine zak ?_ | refine zad ?_ | refine zal ?_ | refine zac ?_)
  refine zae ?_
  refine zab rfl rfl (zaa rfl) (does_box rfl rfl rfl rfl) ?_
  refine zab rfl rfl (zaa rfl) (mv_s (.inr rfl) rfl) ?_
  refine zaj ?_
  repeat (first | refine zaf ?_ | refine zak ?_ | refine zad ?_ | refine zal ?_ | refine zac ?_)
  refine zae ?_
  refine zab rfl rfl (zaa rfl) (zat rfl tf24_0 (by decide) rfl) ?_
  refine zab rfl rfl (zaa rfl) (za3 rfl ta3 rfl rfl rfl rfl rfl) ?_
  refine zab rfl rfl (zaa rfl) (does_make rfl ts30 ti3 rfl rfl (by decide) rfl rfl hnp hnp (Nat.le_refl _) (by omega) (by omega)) ?_
  refine zab rfl rfl (zaa rfl) (mv_own (.inr rfl) rfl) ?_
  refine zaj ?_
  repeat (first | refine zaf ?_ | refine zak ?_ | refine zad ?_ | refine zal ?_ | refine zac ?_)
  refine zae ?_
  refine zab rfl rfl (zaa rfl) (mv_own (.inl rfl) rfl) ?_
  refine zab rfl rfl (zaa rfl) (mv_s (.inl rfl) rfl) ?_
  refine zab rfl rfl (zaa rfl) (does_index_own rfl ts30 ti3 rfl rfl rfl hlt) ?_
  refine ops_eff rfl (zaa rfl) (za7 rfl ti3 rfl rfl rfl hel rfl rfl (by decide) (by decide)) ?_
  refine zaj ?_
  repeat (first | refine zaf ?_ | refine zak ?_ | refine zad ?_ | refine zal ?_ | refine zac ?_)
  refine zae ?_
  refine zab rfl rfl (zaa rfl) (mv_own (.inl rfl) rfl) ?_
  refine zab rfl rfl (zaa rfl) (mv_own (.inr rfl) rfl) ?_
  refine za5 (wk_froz (id := 1) rfl) (za5 (wk_sl (d := 4) rfl rfl (by first | rfl | (simp; done) | (simp; omega))) ?_)
  refine zaj ?_
  repeat (first | refine zaf ?_ | refine zak ?_ | refine zad ?_ | refine zal ?_ | refine zac ?_)
  (refine zbd ?_; repeat (first | refine ath_r ?_ | refine abl_r ?_))
  exact post1 (.inr rfl) rfl (congrArg AV.sl hE)
end Go.Proofs.Ytmhbfoaecebobaa.Aw
end
section
namespace Go.Proofs.Ytmhbfoaecebobaa.Aw
set_option linter.unusedSimpArgs false
set_option linter.unusedVariables false
open Go.RowKit
def RnL (ρ : List Nat) (l l' : List AV) : Prop := l.length = l'.length ∧ ∀ (j : Nat) x y, l[j]? = some x → l'[j]? = some y → Rn ρ x y
theorem RnL.nil {ρ : List Nat} : RnL ρ [] [] := ⟨rfl, by simp⟩
theorem RnL.cons {ρ : List Nat} {x y : AV} {l l' : List AV} (h : Rn ρ x y) (t : RnL ρ l l') : RnL ρ (x :: l) (y :: l') := by
  refine ⟨by simp [t.1], fun j a b ha hb => ?_⟩
  cases j with
  | zero => simp at ha hb; subst ha hb; exact h
  | succ j => exact t.2 j a b (by simpa using ha) (by simpa using hb)
theorem obRn_agg {ρ : List Nat} {sz : Nat} {cs cs' : List AV} (h : RnL ρ cs cs') : ObRn ρ (.row sz [.agg cs]) (.row sz [.agg cs']) := .rowR sz _ _ (.agg cs cs' h.1 h.2) h.2 h.1
section
variable {N : Nat} {F F' : Frm} {σ σ' : List Ob}
theorem reread_rel {G : Cx} {id sz : Nat} {cs cs' : List AV} (hr : Rel G σ) (hs : σ[id]? = some (.row sz cs)) (h0 : cs = [] → cs' = []) (h : ∀ b f, RowAt G b sz cs f → RowAt G b sz cs' f) : Rel G (σ.set id (.row sz cs')) := by
  have hid : id < σ.length := (List.getElem?_eq_some_iff.1 hs).1
  refine ⟨hr.below, hr.le, hr.st, fun i ob hob => ?_, fun i j b hi hj hm hm' => ?_, fun i hi => hr.fresh i (by simpa using hi)⟩
  · by_cases hi : id = i
    · subst hi
      rw [List.getElem?_set_self hid] at hob
      cases hob
      have h1 := hr.obs id _ hs
      simp only [ObOk] at h1 ⊢
      cases hx : G.mu id with
      | none => rw [hx] at h1; exact h1
      | some x =>
        rw [hx] at h1
        cases x with
        | none => exact h0 h1
        | some b => exact ⟨h b _ h1.1, h1.2⟩
    · rw [List.getElem?_set_ne hi] at hob; exact hr.obs i ob hob
  · have old : ∀ i, alive (σ.set id (.row sz cs')) i → alive σ i := by
      rintro i ⟨sz1, cs1, hi⟩
      by_cases h2 : id = i
      · subst h2; exact ⟨sz, cs, hs⟩
      · rw [List.getElem?_set_ne h2] at hi; exact ⟨sz1, cs1, hi⟩
    exact hr.inj i j b (old i hi) (old j hj) hm hm'
theorem wk_ownC {id sz sz2 : Nat} {e e' : AV} {pre post : List AV} (hs : σ[id]? = some (.row sz [e])) (h1 : e.cells = pre ++ .s (.slice none 0 0) :: post) (h2 : e'.cells = pre ++ .own σ.length sz2 0 :: post) :
    Weak N F σ F (σ.set id (.row sz [e']) ++ [.row sz2 []]) := fun G a h => by
  have he := nil_ext h.rel
  have hr := nil_rel h.rel sz2
  have hid : id < σ.length := (List.getElem?_eq_some_iff.1 hs).1
  refine ⟨G.new σ.length G.w none, rfl, he.step, ?_, h.fr.ext he, h.df, h.nt⟩
  have hset : σ.set id (Ob.row sz [e']) ++ [Ob.row sz2 []] = (σ ++ [Ob.row sz2 []]).set id (Ob.row sz [e']) := by rw [List.set_append_left _ _ hid]
  rw [hset]
  refine reread_rel hr (by rw [List.getElem?_append_left hid]; exact hs) (fun h => by cases h) ?_
  rintro b f ⟨cur, t, fr, g1, g2, g3, g4⟩
  refine ⟨cur, t, fr, g1, g2, g3, fun k y hy => ?_⟩
  cases k with
  | succ k => simp at hy
  | zero =>
    simp at hy
    subst hy
    obtain ⟨k1, k2, k3⟩ := g4 0 e rfl
    rw [h1] at k1 k2 k3
    rw [h2]
    refine ⟨by simpa using k1, fun c hc => ?_, fun j c hc => ?_⟩
    · simp only [List.mem_append, List.mem_cons] at hc
      rcases hc with hc | rfl | hc
      · exact k2 c (by simp [hc])
      · rfl
      · exact k2 c (by simp [hc])
    · by_cases hj : j = pre.length
      · subst hj
        simp at hc
        subst hc
        obtain ⟨v, h6, h7⟩ := k3 pre.length (.s (.slice none 0 0)) (by simp)
        refine ⟨v, h6, ?_⟩
        cases h7
        exact .own0 σ.length sz2 none (fun a ha => by cases ha) (by simp [Cx.new])
      · have e : (pre ++ AV.s (.slice none 0 0) :: post)[j]? = some c := by
          rw [← hc]
          by_cases hlt : j < pre.length
          · rw [List.getElem?_append_left hlt, List.getElem?_append_left hlt]
          · rw [List.getElem?_append_right (by omega), List.getElem?_append_right (by omega)]
            obtain ⟨i, hi⟩ : ∃ i, j - pre.length = i + 1 := ⟨j - pre.length - 1, by omega⟩
            rw [hi]; rfl
        exact k3 j c e
end
section
variable {P : Program} {o : Oper} {F : Frm} {σ : List Ob}
theorem does_fin {sz n : Nat} {l : List AV} (h : Does P o F [] (.own 0 sz n) [.row sz l]) (hn : n = l.length) (hop0 : ∀ y ∈ o.op.operands, Lo 0 (F.eval y)) (hlo : Lo 0 (.sl l)) : Does P o F σ (.sl l) σ := by
  intro G a next Q hr hop hk
  obtain ⟨G0, hG0⟩ : ∃ G0 : Cx, G0 = { base := G.w.heap.size, w0 := G.w, w := G.w, mu := fun _ => none, St := G.St } := ⟨_, rfl⟩
  have hr0 : Rel G0 [] := by
    subst hG0
    exact ⟨Below.refl _ _, Nat.le_refl _, hr.st, fun id ob h => by simp at h, fun i j b hi _ _ _ => by obtain ⟨_, _, h⟩ := hi; simp at h, fun _ _ => rfl⟩
  have hw : G.w = G0.w := by subst hG0; rfl
  rw [hw]
  refine h G0 a next Q hr0 (fun y hy => (hop y hy).low (hop0 y hy) (by subst hG0; exact fun _ _ h => h) (by subst hG0; exact fun _ _ _ => rfl) (fun id y h => by omega) (fun h => by omega)) (fun v G1 he hr1 hrep => ?_)
  obtain ⟨he2, hr2⟩ := froz_ok hr1 (id := 0) (sz := sz) (cs := l) rfl
  have hrep2 := rep_fz hr2 (id := 0) (sz := sz) (cs := l) rfl hn (hrep.ext he2)
  have hb0 : G1.base = G.w.heap.size := by rw [he.base]; subst hG0; rfl
  have hw0 : (G1.froz 0).w0 = G.w := by show G1.w0 = _; rw [he.w0]; subst hG0; rfl
  have hbel : Below G.w.heap.size G.w (G1.froz 0).w := by have := hr2.below; rwa [show (G1.froz 0).base = G.w.heap.size from hb0, hw0] at this
  have hSt : G0.St = G.St := by subst hG0; rfl
  obtain ⟨h4, h5⟩ := after_call (G1 := G1.froz 0) hr rfl hbel (fun b o h => he2.st _ _ (he.st _ _ (by rw [hSt]; exact h))) (fun b o h => by
    rcases he2.stN b o h with h1 | h1
    · rcases he.stN b o h1 with h2 | h2
      · rw [hSt] at h2; exact .inl h2
      · right; have e : G0.base = G.w.heap.size := by subst hG0; rfl
        omega
    · right; omega) hr2.st
  exact hk v { G with w := (G1.froz 0).w, St := (G1.froz 0).St } h4 h5 (hrep2.low hlo (fun _ _ h => h) (fun _ _ _ => rfl) (fun id y h => by omega) (fun h => by omega))
theorem does_append0F {t e : TypeId} {s y : Operand} {z : Value} {sz bt : Nat} {x y' : AV} {l : List AV} (ho : o.op = .call { callee := .builtin .append, args := #[s, y], argTypes := #[t, t] })
    (ht : tySlice P t = some e) (hi : tyInfo P e = some (some z, sz, bt)) (hzs : z.cells.size = sz) (hsz : 0 < sz) (hx : F.eval s = x) (hx2 : x = .emp ∨ x = .s (.slice none 0 0)) (hy : F.eval y = y') (hsrc : Src [] sz y' l)
    (h63 : l.length ≤ maxLen) (hby : l.length * bt ≤ 140737488355328) (hly : Lo 0 y') (hl : Lo 0 (.sl l)) : Does P o F σ (.sl l) σ :=
  does_fin (does_append0 ho ht hi hzs hsz hx hx2 hy hsrc h63 hby) rfl (fun u hu => by
    simp [ho, Op.operands, Call.operands] at hu
    rcases hu with rfl | rfl
    · rw [hx]; rcases hx2 with rfl | rfl
      · exact .emp
      · exact .s _
    · rw [hy]; exact hly) hl
theorem lit1_sF {t e : TypeId} {y : Operand} {z : Value} {bt : Nat} {v : Value} (ho : o.op = .buildSlice t 1 #[(0, y)]) (ht : tySlice P t = some e) (hi : tyInfo P e = some (some z, 1, bt))
    (h1 : (ofValue z).cells.all AV.one = true) (hn : (ofValue z).cells.length = 1) (hy : F.eval y = .s v) (hx : (AV.s v).one = true) : Does P o F σ (.sl [.s v]) σ :=
  does_fin (lit1_s ho ht hi h1 hn hy hx) rfl (fun u hu => by simp [ho, Op.operands] at hu; subst hu; rw [hy]; exact .s _) (.sl _ (zah (.s _) zap))
theorem lit1_slF {t e : TypeId} {y : Operand} {z : Value} {bt : Nat} {l : List AV} (ho : o.op = .buildSlice t 1 #[(0, y)]) (ht : tySlice P t = some e) (hi : tyInfo P e = some (some z, 1, bt))
    (h1 : (ofValue z).cells.all AV.one = true) (hn : (ofValue z).cells.length = 1) (hy : F.eval y = .sl l) (hx : (AV.sl l).one = true) (hl : Lo 0 (.sl l)) : Does P o F σ (.sl [.sl l]) σ :=
  does_fin (lit1_sl ho ht hi h1 hn hy hx) rfl (fun u hu => by simp [ho, Op.operands] at hu; subst hu; rw [hy]; exact hl) (.sl _ (zah hl zap))
theorem does_litAF {t e : TypeId} {y : Operand} {z : Value} {n bt : Nat} {cs : List AV} (ho : o.op = .buildSlice t 1 #[(0, y)]) (ht : tySlice P t = some e) (hi : tyInfo P e = some (some z, n, bt))
    (h1 : (ofValue z).cells.all AV.one = true) (hn : (ofValue z).cells.length = n) (h2 : 2 ≤ n) (hsm : n ≤ 16777216) (hy : F.eval y = .agg cs) (hx : cs.all AV.one = true) (hl : cs.length = n) (hlo : Lo 0 (.agg cs)) : Does P o F σ (.sl [.agg cs]) σ :=
  does_fin (does_litA ho ht hi h1 hn h2 hsm hy hx hl) rfl (fun u hu => by simp [ho, Op.operands] at hu; subst hu; rw [hy]; exact hlo) (.sl _ (zah hlo zap))
end
section
variable {P : Program} {F : Frm} {σ : List Ob}
theorem post1cf {ad : Tmp} {ty : TypeId} {id sz k n bt : Nat} {z : Option Value} {ob : Ob} {cs cs1 cs2 : List AV} {e1 : AV} {e : Exit} (he : e = .normal ∨ e = .ret) (ha : tyAgg P ty = some true) (hi : tyInfo P ty = some (z, n, bt)) (hp : F.get ad = .ptr id sz k 0) (hs : σ[id]? = some ob) (ho : rowOf ob = some (sz, cs)) (hk : cs[k]? = some e1) (hc : e1.cells = cs1) (hn : cs1.length = n) (hf : FiniL σ cs1 cs2) : APost P [.cell ad ty] (.agg cs2) e F σ :=
  ⟨he, [_], .cons _ _ _ _ (.cells ad ty id sz k n bt z ob cs e1 ha hi hp hs ho hk (by rw [hc]; exact hn)) .nil, by rw [hc]; exact .agg _ _ hf.1 hf.2⟩
end
end Go.Proofs.Ytmhbfoaecebobaa.Aw
end
