/-
  Texts joined: Play3, Play4, Play5, Fr, Frac1, Ref01a. Conditions: none.
-/
import Derived.Test.YtmhbfoaecebobaaJF8
import Derived.Test.YtmhbfoaecebobaaJF1
section
namespace Go.Proofs.Ytmhbfoaecebobaa
set_option linter.unusedSimpArgs false
set_option linter.unusedVariables false
open Go.RowKit

theorem firstAt_lt {α : Type} {p : α → Bool} {l : List α} (h : 0 ≤ firstAt p l) : firstAt p l < l.length := by
  unfold firstAt at h ⊢
  split
  · rename_i i hi
    obtain ⟨hlt, _⟩ := List.findIdx?_eq_some_iff_getElem.1 hi
    first | omega | (simp only; omega) | (show (i : Int) < l.length; omega)
  · rename_i hn; rw [hn] at h; exact absurd h (by simp)
theorem Sm.mono {s : Pl} {B B' : Nat} (h : Sm s B) (hb : B ≤ B') : Sm s B' := ⟨by have := h.p; omega, by have := h.c; omega, by have := h.r; omega, by have := h.l; omega⟩
theorem runTo_rg {n : Net} : ∀ {l m m' : List Int}, runTo n m l = some m' → ∀ t ∈ l, 0 ≤ t ∧ t < n.trans.length
  | [], m, m', _, t, ht => by simp at ht
  | a :: l, m, m', h, t, ht => by
    rw [runTo] at h
    split at h
    · rename_i hc
      rcases List.mem_cons.1 ht with rfl | ht
      · exact ⟨hc.1, hc.2.1⟩
      · exact runTo_rg h t ht
    · cases h
def plUnk (s : Pl) : Pl := ⟨s.m, ⟨s.c.p + 1, s.c.c + 1, s.c.m + 1, s.c.r + 1⟩, s.run, s.big⟩
theorem PM.unk {n : Net} {s : Pl} (h : PM n s) : PM n (plUnk s) :=
  ⟨h.len, h.nn, h.ok, by have := h.c0; simp only [plUnk]; omega, by have := h.mc; simp only [plUnk]; omega, by have := h.r0; simp only [plUnk]; omega, by have := h.bal; simp only [plUnk]; omega, h.rg⟩
theorem Sm.unk {s : Pl} {B : Nat} (h : Sm s B) : Sm (plUnk s) (B + 1) :=
  ⟨by have := h.p; simp only [plUnk]; omega, by have := h.c; simp only [plUnk]; omega, by have := h.r; simp only [plUnk]; omega, by have := h.l; simp only [plUnk]; omega⟩
/-- what is true after an activity -/
theorem play_pm {n : Net} {act : ByteArray} {s : Pl} {B : Nat} (hv : validB n = true) (h : PM n s) (hb : s.big = false) (hs : Sm s B) : PM n (playE n act s) ∧ Sm (playE n act s) (B + 200) := by
  unfold playE
  cases hw : silE n (goodA n act) s.m with
  | some way =>
    obtain ⟨m', h1, h2, h3, h4⟩ := silE_some (h.ok hb) hw
    obtain ⟨a1, a2, a3, a4, a5⟩ := takeAll_run hv h hb h1
    have hg : 0 ≤ enabledAt n (takeAll n way s).m act := by rw [a2]; unfold goodA at h2; simpa using h2
    have hlt := firstAt_lt hg
    obtain ⟨k, hk⟩ : ∃ k : Nat, enabledAt n (takeAll n way s).m act = k := ⟨(enabledAt n (takeAll n way s).m act).toNat, by omega⟩
    have hkl : k < n.trans.length := by unfold enabledAt at hk; omega
    simp only
    rw [hk]
    exact ⟨a1.take hv (by omega) (by omega), ((Sm.all hv hs (runTo_rg h1)).take hv hkl).mono (by omega)⟩
  | none =>
    simp only
    split
    · rename_i hl
      have hlt := firstAt_lt hl
      obtain ⟨k, hk⟩ : ∃ k : Nat, labAt n act = k := ⟨(labAt n act).toNat, by omega⟩
      have hkl : k < n.trans.length := by unfold labAt at hk; omega
      rw [hk]
      exact ⟨h.take hv (by omega) (by omega), (hs.take hv hkl).mono (by omega)⟩
    · exact ⟨h.unk, hs.unk.mono (by omega)⟩

set_option maxRecDepth 100000 in
set_option maxHeartbeats 4000000 in
theorem play_any (n : Net) (act : ByteArray) (s : Pl) (B g gm np cm r0 r1 lo hi : Nat) (vt vr : Value) (w : World) (hv : RdT w lo hi vt n.trans) (hval : validB n = true) (hpm : PM n s) (hbig : s.big = false) (hsm : Sm s B) (hB : B ≤ 800000)
    (hnp : s.m.length = np) (hM : Mem [Loc.pb (plA n (vt) (.slice (some ⟨gm, 0, none⟩) np cm) (s).c vr (s).big) g, Loc.owI gm (gm + 1) (.slice (some ⟨gm, 0, none⟩) np cm) (s).m, Loc.owI r0 r1 vr (s).run] w) (hg : g ≠ gm) (hgr : g < r0 ∨ r1 ≤ g) (hmr : gm < r0 ∨ r1 ≤ gm) (h1 : hi ≤ g) (h2 : hi ≤ gm) (h3 : hi ≤ r0) (h4 : r1 ≤ w.heap.size) (h5 : r0 ≤ w.heap.size) :
    Calls Try.prog 30 #[.pointer (some ⟨g, 0, none⟩), .string act] w fun e w' => ∃ vr' r0' r1', e = .returned (.tuple #[]) ∧ Mem [Loc.pb (plA n (vt) (.slice (some ⟨gm, 0, none⟩) np cm) (playE n act s).c vr' (playE n act s).big) g, Loc.owI gm (gm + 1) (.slice (some ⟨gm, 0, none⟩) np cm) (playE n act s).m, Loc.owI r0' r1' vr' (playE n act s).run] w' ∧ (r0' = r0 ∧ r1' = r1 ∨ w.heap.size ≤ r0') ∧ r0' ≤ w'.heap.size ∧ r1' ≤ w'.heap.size ∧ Chg (plD g gm r0 r1) w w' := by
  have hmark := hpm.ok hbig
  have hgw : g < w.heap.size := PB.lt hM.1
  have hgmw : gm < w.heap.size := by
    have hnz := validB_places hval
    have hln := hpm.len
    obtain ⟨g', cap, hv', _, h5, h6⟩ := Own.blk hM.2.1 (by omega)
    injection hv' with hv' _ _
    injection hv' with hv'
    injection hv' with hv' _ _
    omega
  have hb0 : Below w.heap.size w ((w.alloc (.cells #[.pointer (some ⟨g, 0, none⟩)] 68)).alloc (.cells #[.string act] 9)) := ((Below.refl _ _).alloc (Nat.le_refl _) _).alloc (by simp) _
  have M : Hid (Mem [Loc.pb (plA n (vt) (.slice (some ⟨gm, 0, none⟩) np cm) (s).c vr (s).big) g, Loc.owI gm (gm + 1) (.slice (some ⟨gm, 0, none⟩) np cm) (s).m, Loc.owI r0 r1 vr (s).run, Loc.c1 w.heap.size 0 (.pointer (some ⟨g, 0, none⟩)), Loc.c1 (w.heap.size + 1) 0 (.string act), Loc.rdT lo hi vt n.trans, Loc.cg (plD g gm r0 r1) w] ((w.alloc (.cells #[.pointer (some ⟨g, 0, none⟩)] 68)).alloc (.cells #[.string act] 9))) := Lib.hid (by
    have hal := hM.below hb0
    exact ⟨hal.1, hal.2.1, hal.2.2.1, by simp [C1, go_sem], by simp [C1, go_sem], hv.after hb0, ⟨hb0.os, hb0.tape, hb0.output, hb0.size, fun k hk _ => hb0.block k hk⟩, True.intro⟩)
  have HSI : Hid (∀ W, Mem [Loc.pb (plA n (vt) (.slice (some ⟨gm, 0, none⟩) np cm) (s).c vr (s).big) g, Loc.owI gm (gm + 1) (.slice (some ⟨gm, 0, none⟩) np cm) (s).m, Loc.owI r0 r1 vr (s).run, Loc.c1 w.heap.size 0 (.pointer (some ⟨g, 0, none⟩)), Loc.c1 (w.heap.size + 1) 0 (.string act), Loc.rdT lo hi vt n.trans, Loc.cg (plD g gm r0 r1) w] W → Calls Try.prog 71 #[netV n vt, .slice (some ⟨gm, 0, none⟩) np cm, .func (.func 72) #[] #[.pointer (some ⟨w.heap.size, 0, none⟩), .pointer (some ⟨w.heap.size + 1, 0, none⟩)]] W (RetW W (silE n (goodA n act) s.m))) :=
    Lib.hid (fun W hW => silent_any n s.m vt _ lo hi gm (gm + 1) 72 ent_play1 #[.pointer (some ⟨w.heap.size, 0, none⟩), .pointer (some ⟨w.heap.size + 1, 0, none⟩)] (goodA n act) W hW.2.2.2.2.2.1 (Own.rd hW.2.1) hmark (by have := hW.2.2.2.2.2.2.1.size; omega)
      (fun x lo2 hi2 v W2 hx hb2 hr2 => play1_any n x act g _ _ lo hi lo2 hi2 vt v W2 (cell_aft hb2 hW.2.2.2.1) (cell_aft hb2 hW.2.2.2.2.1) (cell_aft hb2 (PB.k11 hW.1).2.1) (hW.2.2.2.2.2.1.after hb2) hr2 (InOk.of hval (markB_len hx).2.2)))
  have HVAL := Lib.hid hval
  have HPM := Lib.hid hpm
  have HSM := Lib.hid hsm
  have HNP := Lib.hid hnp
  have HMK := Lib.hid hmark
  have HBG := Lib.hid hbig
  obtain ⟨A, c, rfl, hc, hmm⟩ := hv.form
  clear hM hv hval hpm hsm hnp hmark hbig hb0
  refine calls_cps fun R hR => ?_
  have HR := Lib.hid hR
  clear hR
  go_enter Try.func30, Try.ntmps30
  cases hsil : silE n (goodA n act) s.m with
  | some way =>
    rw [hsil] at HSI
    have HW := Lib.hid (silE_some HMK.out hsil)
    have hk11 := PB.k11 M.out.1
    have hc1 := M.out.2.2.2.1
    have hc2 := M.out.2.2.2.2.1
    go_wp2_with fail
    go_region_held3 (fun W => C1 W w.heap.size 0 (.pointer (some ⟨g, 0, none⟩)) ∧ K11 W g (.int .i64 n.places) (.slice A n.trans.length c) (.int .i64 n.source) (.int .i64 n.sink) (.slice (some ⟨gm, 0, none⟩) np cm) (.int .i64 s.c.p) (.int .i64 s.c.c) (.int .i64 s.c.m) (.int .i64 s.c.r) vr (.bool s.big)) (exact ⟨hc1, hk11⟩) (first
      | (go_at_call 71; refine (HSI.out _ (by first | exact M.out | exact M.out.drew)).mono ?_; rintro e w6 ⟨A6, c6, rfl, hr6, hb6⟩; have HR6 := Lib.hid (hr6.mono (lo' := w.heap.size + 2) (by simp [heap_drew]) (Nat.le_refl _)); have hz6 := hb6.size; simp only [World.size_alloc, heap_drew] at hz6; replace M := Lib.hid (Mem.below (by first | exact M.out | exact M.out.drew) hb6); clear hb6 hr6; replace hk11 := PB.k11 M.out.1; replace hc1 := M.out.2.2.2.1; replace hc2 := M.out.2.2.2.2.1))
    obtain ⟨m', hr1, hr2, hr3, hr4⟩ := HW.out
    have hta := takeAll_run HVAL.out HPM.out HBG.out hr1
    have hsa := Sm.all HVAL.out HSM.out (runTo_rg hr1)
    have HRG := Lib.hid (runTo_rg hr1)
    have HPE : Hid (playE n act s = takeP n (enabledAt n (takeAll n way s).m act) (takeAll n way s)) := Lib.hid (by unfold playE; rw [hsil])
    obtain ⟨sA, hsA⟩ : ∃ y, takeAll n way s = y := ⟨_, rfl⟩
    rw [hsA] at hta hsa HPE
    have HSA := Lib.hid hsA
    have hge : 0 ≤ enabledAt n sA.m act := by rw [hta.2.1]; unfold goodA at hr2; simpa using hr2
    have hlt := firstAt_lt hge
    obtain ⟨k, hk⟩ : ∃ k : Nat, enabledAt n sA.m act = k := ⟨(enabledAt n sA.m act).toNat, by omega⟩
    have hkt : k < n.trans.length := by unfold enabledAt at hk; omega
    rw [hk] at HPE
    have HK := Lib.hid hk
    have HTA := Lib.hid hta
    have HSMA := Lib.hid hsa
    have hnpa : (sA.m.length : Int) = np := by have h1 := hta.1.len; have h2 := HPM.out.len; have h3 := HNP.out; omega
    have HNPA : Hid (sA.m.length = np) := Lib.hid (by omega)
    clear hsA hge hlt hk hta hsa hr1 hr2 hr3 hnpa
    have hr4 : way.length ≤ 200 := by omega
    go_wp2_with (first
      | (go_at_call 74; refine (takeAll_any n s way B g gm np cm r0 r1 lo hi (w.heap.size + 2) w6.heap.size _ vr _ _ M.out.2.2.2.2.2.1 HVAL.out HRG.out HPM.out HSM.out (by omega) HNP.out ⟨M.out.1, M.out.2.1, M.out.2.2.1, True.intro⟩ hg hgr hmr h1 h2 h3 (by have := M.out.2.2.2.2.2.2.1.size; omega) (by have := M.out.2.2.2.2.2.2.1.size; omega) HR6.out (by omega) (by omega) (by omega) (Nat.le_refl _)).mono ?_; rintro e w7 ⟨vr2, b0, b1, rfl, hM2, hbb, hb0, hb1, hch⟩; rw [HSA.out] at hM2; have M2 : Hid (Mem [Loc.pb (plA n (.slice A n.trans.length c) (.slice (some ⟨gm, 0, none⟩) np cm) (sA).c vr2 (sA).big) g, Loc.owI gm (gm + 1) (.slice (some ⟨gm, 0, none⟩) np cm) (sA).m, Loc.owI b0 b1 vr2 (sA).run, Loc.c1 w.heap.size 0 (.pointer (some ⟨g, 0, none⟩)), Loc.c1 (w.heap.size + 1) 0 (.string act), Loc.rdT lo hi (.slice A n.trans.length c) n.trans, Loc.cg (plD g gm r0 r1) w] w7) := Lib.hid ⟨hM2.1, hM2.2.1, hM2.2.2.1, Mem.chg hch M.out.2.2.2 (by (repeat' (first | exact True.intro | refine And.intro (fun k hk e => ?_) ?_)) <;> (first | exact e | ((try dsimp only [Loc.c1, Loc.c2, Loc.k1, Loc.k2, Loc.k3, Loc.k4, Loc.k6, Loc.fr, Loc.bl, Loc.own, Loc.sz, Loc.rd, Loc.rdI, Loc.rdS, Loc.rdM, Loc.rdT, Loc.ow, Loc.owI, Loc.owN, Loc.set, Loc.ns, Loc.cg, Loc.pb, silD, plD] at hk e) <;> omega)))⟩; have hs7 := hch.size; have hs6 := M.out.2.2.2.2.2.2.1.size; clear hM2 hch M; replace hk11 := PB.k11 M2.out.1; replace hc1 := M2.out.2.2.2.1; replace hc2 := M2.out.2.2.2.2.1))
    have hc4 := hk11.2.2.2.2.1
    go_region_held3 (fun W => C1 W w.heap.size 0 (.pointer (some ⟨g, 0, none⟩)) ∧ C1 W (w.heap.size + 1) 0 (.string act) ∧ C1 W g 4 (.slice (some ⟨gm, 0, none⟩) np cm)) (exact ⟨hc1, hc2, hc4⟩) (first
      | (go_at_call 73; refine (enabledP_any n sA.m act g lo hi gm (gm + 1) _ _ _ (by first | exact (PB.k11 M2.out.1).2.1 | exact (PB.k11 M2.out.drew.1).2.1) (by first | exact M2.out.2.2.2.2.2.1 | exact M2.out.drew.2.2.2.2.2.1) (by first | exact Own.rd M2.out.2.1 | exact Own.rd M2.out.drew.2.1) (InOk.of HVAL.out HTA.out.1.len)).mono ?_; rw [HK.out]; rintro e w8 ⟨rfl, hb8⟩; have hs8 : w7.heap.size ≤ w8.heap.size := hb8.size; replace M2 := Lib.hid (Mem.below (by first | exact M2.out | exact M2.out.drew) hb8); clear hb8; replace hc1 := M2.out.2.2.2.1; replace hc2 := M2.out.2.2.2.2.1; replace hc4 := (PB.k11 M2.out.1).2.2.2.2.1)
      | (go_at_call 75; refine (take_any n sA k g gm np cm b0 b1 lo hi _ vr2 _ (by first | exact M2.out.2.2.2.2.2.1 | exact M2.out.drew.2.2.2.2.2.1) HVAL.out hkt HTA.out.1.pt (by have := HSMA.out.p; omega) (by have := HSMA.out.c; omega) (by have := HSMA.out.l; omega) HNPA.out (by first | exact ⟨M2.out.1, M2.out.2.1, M2.out.2.2.1, True.intro⟩ | exact ⟨M2.out.drew.1, M2.out.drew.2.1, M2.out.drew.2.2.1, True.intro⟩) hg (by omega) (by omega) h1 h2 (by omega) (by first | omega | (simp; done) | (simp; omega)) (by first | omega | (simp; done) | (simp; omega))).mono ?_; rintro e w9 ⟨vr3, d0, d1, rfl, hM3, hdd, hd0, hd1, hch⟩; have M3 : Hid (Mem [Loc.pb (plA n (.slice A n.trans.length c) (.slice (some ⟨gm, 0, none⟩) np cm) (takeP n k sA).c vr3 (takeP n k sA).big) g, Loc.owI gm (gm + 1) (.slice (some ⟨gm, 0, none⟩) np cm) (takeP n k sA).m, Loc.owI d0 d1 vr3 (takeP n k sA).run, Loc.c1 w.heap.size 0 (.pointer (some ⟨g, 0, none⟩)), Loc.c1 (w.heap.size + 1) 0 (.string act), Loc.rdT lo hi (.slice A n.trans.length c) n.trans, Loc.cg (plD g gm r0 r1) w] w9) := Lib.hid ⟨hM3.1, hM3.2.1, hM3.2.2.1, Mem.chg hch (by first | exact M2.out.2.2.2 | exact M2.out.drew.2.2.2) (by (repeat' (first | exact True.intro | refine And.intro (fun k hk e => ?_) ?_)) <;> (first | exact e | ((try dsimp only [Loc.c1, Loc.c2, Loc.k1, Loc.k2, Loc.k3, Loc.k4, Loc.k6, Loc.fr, Loc.bl, Loc.own, Loc.sz, Loc.rd, Loc.rdI, Loc.rdS, Loc.rdM, Loc.rdT, Loc.ow, Loc.owI, Loc.owN, Loc.set, Loc.ns, Loc.cg, Loc.pb, silD, plD] at hk e) <;> omega)))⟩; have hs9 := hch.size; clear hM3 hch M2; replace hc1 := M3.out.2.2.2.1; replace hc2 := M3.out.2.2.2.2.1; replace hc4 := (PB.k11 M3.out.1).2.2.2.2.1))
    go_wp2_with fail
    first | go_end0 | refine bodyPost_ret (results_none rfl _ _ _) rfl ?_
    refine HR.out _ _ ⟨vr3, d0, d1, rfl, ?_, by omega, hd0, hd1, M3.out.2.2.2.2.2.2.1⟩
    rw [HPE.out]
    exact ⟨M3.out.1, M3.out.2.1, M3.out.2.2.1, True.intro⟩
  | none =>
    rw [hsil] at HSI
    have HIX : Hid (∀ W, Mem [Loc.pb (plA n (.slice A n.trans.length c) (.slice (some ⟨gm, 0, none⟩) np cm) (s).c vr (s).big) g, Loc.owI gm (gm + 1) (.slice (some ⟨gm, 0, none⟩) np cm) (s).m, Loc.owI r0 r1 vr (s).run, Loc.c1 w.heap.size 0 (.pointer (some ⟨g, 0, none⟩)), Loc.c1 (w.heap.size + 1) 0 (.string act), Loc.rdT lo hi (.slice A n.trans.length c) n.trans, Loc.cg (plD g gm r0 r1) w] W → Calls Try.prog 65 #[.slice A n.trans.length c, .func (.func 76) #[] #[.pointer (some ⟨w.heap.size + 1, 0, none⟩)]] W fun e W' => e = .returned (.int .i64 (labAt n act)) ∧ Below W.heap.size W W') :=
      Lib.hid (fun W hW => indexFT_any 76 ent_play2 #[.pointer (some ⟨w.heap.size + 1, 0, none⟩)] (labB act) n.trans lo hi _ W hW.2.2.2.2.2.1
        (fun k hk vi vo W' hW' hvi hvo => play2_any (gti n.trans k) vi vo act _ W' (cell_aft hW' hW.2.2.2.2.1) (by obtain ⟨a, b, h, _⟩ := hvi.form; exact ⟨_, _, _, h⟩) (by obtain ⟨a, b, h, _⟩ := hvo.form; exact ⟨_, _, _, h⟩)))
    have HPE : Hid (playE n act s = if 0 ≤ labAt n act then takeP n (labAt n act) s else plUnk s) := Lib.hid (by unfold playE; rw [hsil]; rfl)
    have hfl := firstAt_lt (p := labB act) (l := n.trans)
    obtain ⟨L, hL⟩ : ∃ L, labAt n act = L := ⟨_, rfl⟩
    rw [hL] at HIX HPE
    unfold labAt at hL
    rw [hL] at hfl
    clear hL hsil
    have hk11 := PB.k11 M.out.1
    have hc1 := M.out.2.2.2.1
    have hc2 := M.out.2.2.2.2.1
    go_wp2_with fail
    go_region_held3 (fun W => C1 W w.heap.size 0 (.pointer (some ⟨g, 0, none⟩)) ∧ K11 W g (.int .i64 n.places) (.slice A n.trans.length c) (.int .i64 n.source) (.int .i64 n.sink) (.slice (some ⟨gm, 0, none⟩) np cm) (.int .i64 s.c.p) (.int .i64 s.c.c) (.int .i64 s.c.m) (.int .i64 s.c.r) vr (.bool s.big)) (exact ⟨hc1, hk11⟩) (first
      | (go_at_call 71; refine (HSI.out _ (by first | exact M.out | exact M.out.drew)).mono ?_; rintro e w6 ⟨A6, c6, rfl, hr6, hb6⟩; have HR6 := Lib.hid (hr6.mono (lo' := w.heap.size + 2) (by simp [heap_drew]) (Nat.le_refl _)); have hz6 := hb6.size; simp only [World.size_alloc, heap_drew] at hz6; replace M := Lib.hid (Mem.below (by first | exact M.out | exact M.out.drew) hb6); clear hb6 hr6; replace hk11 := PB.k11 M.out.1; replace hc1 := M.out.2.2.2.1; replace hc2 := M.out.2.2.2.2.1))
    by_cases hlab : 0 ≤ L
    · obtain ⟨k, rfl⟩ : ∃ k : Nat, L = k := ⟨L.toNat, by omega⟩
      have hkt : k < n.trans.length := by have := hfl hlab; omega
      rw [if_pos hlab] at HPE
      clear hlab hfl
      go_wp2_with (first
        | (go_at_call 65; refine (HIX.out _ M.out).mono ?_; rintro e w7 ⟨rfl, hb7⟩; have hs7 := hb7.size; replace M := Lib.hid (M.out.below hb7); clear hb7; replace hk11 := PB.k11 M.out.1; replace hc1 := M.out.2.2.2.1; replace hc2 := M.out.2.2.2.2.1)
        | (go_at_call 75; refine (take_any n s k g gm np cm r0 r1 lo hi _ vr _ M.out.2.2.2.2.2.1 HVAL.out hkt HPM.out.pt (by have := HSM.out.p; omega) (by have := HSM.out.c; omega) (by have := HSM.out.l; omega) HNP.out ⟨M.out.1, M.out.2.1, M.out.2.2.1, True.intro⟩ hg hgr hmr h1 h2 h3 (by have := M.out.2.2.2.2.2.2.1.size; omega) (by have := M.out.2.2.2.2.2.2.1.size; omega)).mono ?_; rintro e w9 ⟨vr3, d0, d1, rfl, hM3, hdd, hd0, hd1, hch⟩; have hs8 := M.out.2.2.2.2.2.2.1.size; have M3 : Hid (Mem [Loc.pb (plA n (.slice A n.trans.length c) (.slice (some ⟨gm, 0, none⟩) np cm) (takeP n k s).c vr3 (takeP n k s).big) g, Loc.owI gm (gm + 1) (.slice (some ⟨gm, 0, none⟩) np cm) (takeP n k s).m, Loc.owI d0 d1 vr3 (takeP n k s).run, Loc.c1 w.heap.size 0 (.pointer (some ⟨g, 0, none⟩)), Loc.c1 (w.heap.size + 1) 0 (.string act), Loc.rdT lo hi (.slice A n.trans.length c) n.trans, Loc.cg (plD g gm r0 r1) w] w9) := Lib.hid ⟨hM3.1, hM3.2.1, hM3.2.2.1, Mem.chg hch M.out.2.2.2 (by (repeat' (first | exact True.intro | refine And.intro (fun k hk e => ?_) ?_)) <;> (first | exact e | ((try dsimp only [Loc.c1, Loc.c2, Loc.k1, Loc.k2, Loc.k3, Loc.k4, Loc.k6, Loc.fr, Loc.bl, Loc.own, Loc.sz, Loc.rd, Loc.rdI, Loc.rdS, Loc.rdM, Loc.rdT, Loc.ow, Loc.owI, Loc.owN, Loc.set, Loc.ns, Loc.cg, Loc.pb, silD, plD] at hk e) <;> omega)))⟩; have hs9 := hch.size; clear hM3 hch M))
      first | go_end0 | refine bodyPost_ret (results_none rfl _ _ _) rfl ?_
      refine HR.out _ _ ⟨vr3, d0, d1, rfl, ?_, by omega, hd0, hd1, M3.out.2.2.2.2.2.2.1⟩
      rw [HPE.out]
      exact ⟨M3.out.1, M3.out.2.1, M3.out.2.2.1, True.intro⟩
    · rw [if_neg hlab] at HPE
      clear hfl
      have hp0 := HPM.out.c_ge
      have hr0 := HPM.out.r0
      have hmc := HPM.out.mc
      have hbp := HSM.out.p
      have hbc := HSM.out.c
      have hbr := HSM.out.r
      have hq : 0 ≤ s.c.p ∧ s.c.p ≤ 1000000000 ∧ 0 ≤ s.c.c ∧ s.c.c ≤ 1000000000 ∧ 0 ≤ s.c.m ∧ s.c.m ≤ 1000000000 ∧ 0 ≤ s.c.r ∧ s.c.r ≤ 1000000000 := by omega
      clear hp0 hr0 hmc hbp hbc hbr
      obtain ⟨e1, e2, e3, e4, e5, e6, e7, e8⟩ := hq
      go_wp2_with (first
        | (go_at_call 65; refine (HIX.out _ M.out).mono ?_; rintro e w7 ⟨rfl, hb7⟩; have hs7 := hb7.size; replace M := Lib.hid (M.out.below hb7); clear hb7; replace hk11 := PB.k11 M.out.1; replace hc1 := M.out.2.2.2.1; replace hc2 := M.out.2.2.2.2.1))
      have M1 := Mem.step (a' := Loc.pb (plA n (.slice A n.trans.length c) (.slice (some ⟨gm, 0, none⟩) np cm) ⟨s.c.p + 1, s.c.c, s.c.m, s.c.r⟩ vr s.big) g) M.out (PB.set M.out.1 5 (.int .i64 (s.c.p + 1)) rfl) (Chg.set _ g 5 _) (by (repeat' (first | exact True.intro | refine And.intro (fun k hk e => ?_) ?_)) <;> (first | exact e | ((try dsimp only [Loc.c1, Loc.c2, Loc.k1, Loc.k2, Loc.k3, Loc.k4, Loc.k6, Loc.fr, Loc.bl, Loc.own, Loc.sz, Loc.rd, Loc.rdI, Loc.rdS, Loc.rdM, Loc.rdT, Loc.ow, Loc.owI, Loc.owN, Loc.set, Loc.ns, Loc.cg, Loc.pb, silD, plD] at hk e) <;> omega)))
      have M2 := Mem.step (a' := Loc.pb (plA n (.slice A n.trans.length c) (.slice (some ⟨gm, 0, none⟩) np cm) ⟨s.c.p + 1, s.c.c + 1, s.c.m, s.c.r⟩ vr s.big) g) M1 (PB.set M1.1 6 (.int .i64 (s.c.c + 1)) rfl) (Chg.set _ g 6 _) (by (repeat' (first | exact True.intro | refine And.intro (fun k hk e => ?_) ?_)) <;> (first | exact e | ((try dsimp only [Loc.c1, Loc.c2, Loc.k1, Loc.k2, Loc.k3, Loc.k4, Loc.k6, Loc.fr, Loc.bl, Loc.own, Loc.sz, Loc.rd, Loc.rdI, Loc.rdS, Loc.rdM, Loc.rdT, Loc.ow, Loc.owI, Loc.owN, Loc.set, Loc.ns, Loc.cg, Loc.pb, silD, plD] at hk e) <;> omega)))
      have M3 := Mem.step (a' := Loc.pb (plA n (.slice A n.trans.length c) (.slice (some ⟨gm, 0, none⟩) np cm) ⟨s.c.p + 1, s.c.c + 1, s.c.m + 1, s.c.r⟩ vr s.big) g) M2 (PB.set M2.1 7 (.int .i64 (s.c.m + 1)) rfl) (Chg.set _ g 7 _) (by (repeat' (first | exact True.intro | refine And.intro (fun k hk e => ?_) ?_)) <;> (first | exact e | ((try dsimp only [Loc.c1, Loc.c2, Loc.k1, Loc.k2, Loc.k3, Loc.k4, Loc.k6, Loc.fr, Loc.bl, Loc.own, Loc.sz, Loc.rd, Loc.rdI, Loc.rdS, Loc.rdM, Loc.rdT, Loc.ow, Loc.owI, Loc.owN, Loc.set, Loc.ns, Loc.cg, Loc.pb, silD, plD] at hk e) <;> omega)))
      have M4 := Mem.step (a' := Loc.pb (plA n (.slice A n.trans.length c) (.slice (some ⟨gm, 0, none⟩) np cm) ⟨s.c.p + 1, s.c.c + 1, s.c.m + 1, s.c.r + 1⟩ vr s.big) g) M3 (PB.set M3.1 8 (.int .i64 (s.c.r + 1)) rfl) (Chg.set _ g 8 _) (by (repeat' (first | exact True.intro | refine And.intro (fun k hk e => ?_) ?_)) <;> (first | exact e | ((try dsimp only [Loc.c1, Loc.c2, Loc.k1, Loc.k2, Loc.k3, Loc.k4, Loc.k6, Loc.fr, Loc.bl, Loc.own, Loc.sz, Loc.rd, Loc.rdI, Loc.rdS, Loc.rdM, Loc.rdT, Loc.ow, Loc.owI, Loc.owN, Loc.set, Loc.ns, Loc.cg, Loc.pb, silD, plD] at hk e) <;> omega)))
      first | go_end0 | refine bodyPost_ret (results_none rfl _ _ _) rfl ?_
      refine HR.out _ _ ⟨vr, r0, r1, rfl, ?_, .inl ⟨rfl, rfl⟩, ?_, ?_, M4.2.2.2.2.2.2.1⟩
      · rw [HPE.out]
        exact ⟨M4.1, M4.2.1, M4.2.2.1, True.intro⟩
      · have := M4.2.2.2.2.2.2.1.size; omega
      · have := M4.2.2.2.2.2.2.1.size; omega
end Go.Proofs.Ytmhbfoaecebobaa
end
section
namespace Go.Proofs.Ytmhbfoaecebobaa
set_option linter.unusedSimpArgs false
set_option linter.unusedVariables false
open Go.RowKit

theorem finA_pm {n : Net} {s : Pl} {B : Nat} (hv : validB n = true) (h : PM n s) (hb : s.big = false) (hs : Sm s B) : PM n (finA n s) ∧ Sm (finA n s) (B + 200) ∧ (finA n s).big = false := by
  unfold finA
  cases hw : silE n (goodF n) s.m with
  | some way =>
    obtain ⟨m', h1, h2, h3, h4⟩ := silE_some (h.ok hb) hw
    obtain ⟨a1, a2, a3, a4, a5⟩ := takeAll_run hv h hb h1
    exact ⟨a1, (Sm.all hv hs (runTo_rg h1)).mono (by omega), a3⟩
  | none => exact ⟨h, hs.mono (by omega), hb⟩
theorem sumI_take : ∀ (l : List Int) (k : Nat), k < l.length → sumI (l.take (k + 1)) = sumI (l.take k) + gti l k
  | [], k, h => by simp at h
  | x :: l, 0, h => by simp [sumI, gti]
  | x :: l, k + 1, h => by
    have := sumI_take l k (by simpa using h)
    have e : gti (x :: l) (k + 1) = gti l k := by simp [gti]
    rw [List.take_succ_cons, List.take_succ_cons, sumI, sumI, this, e]
    omega
theorem sumI_tk : ∀ (l : List Int) (j : Nat), (∀ i, 0 ≤ gti l i) → 0 ≤ sumI (l.take j) ∧ sumI (l.take j) ≤ sumI l
  | [], j, _ => by simp [sumI]
  | x :: l, 0, h => by
    have := sumI_ge (x :: l) h
    simp only [List.take_zero, sumI] at this ⊢
    omega
  | x :: l, j + 1, h => by
    have h0 := h 0
    have e : gti (x :: l) 0 = x := by simp [gti]
    rw [e] at h0
    have := sumI_tk l j (fun i => by have := h (i + 1); have e : gti (x :: l) (i + 1) = gti l i := by simp [gti]
                                     rwa [e] at this)
    rw [List.take_succ_cons, sumI, sumI]
    omega

set_option maxRecDepth 100000 in
set_option maxHeartbeats 4000000 in
theorem finish_any (n : Net) (s : Pl) (B g gm np cm r0 r1 lo hi : Nat) (vt vr : Value) (w : World) (hv : RdT w lo hi vt n.trans) (hval : validB n = true) (hpm : PM n s) (hbig : s.big = false) (hsm : Sm s B) (hB : B ≤ 800000)
    (hnp : s.m.length = np) (hM : Mem [Loc.pb (plA n (vt) (.slice (some ⟨gm, 0, none⟩) np cm) (s).c vr (s).big) g, Loc.owI gm (gm + 1) (.slice (some ⟨gm, 0, none⟩) np cm) (s).m, Loc.owI r0 r1 vr (s).run] w) (hg : g ≠ gm) (hgr : g < r0 ∨ r1 ≤ g) (hmr : gm < r0 ∨ r1 ≤ gm) (h1 : hi ≤ g) (h2 : hi ≤ gm) (h3 : hi ≤ r0) (h4 : r1 ≤ w.heap.size) (h5 : r0 ≤ w.heap.size) :
    Calls Try.prog 31 #[.pointer (some ⟨g, 0, none⟩)] w fun e w' => ∃ vr' r0' r1', e = .returned (.tuple #[]) ∧ Mem [Loc.pb (plA n (vt) (.slice (some ⟨gm, 0, none⟩) np cm) (finE n s).c vr' (finE n s).big) g, Loc.owI gm (gm + 1) (.slice (some ⟨gm, 0, none⟩) np cm) (finE n s).m, Loc.owI r0' r1' vr' (finE n s).run] w' ∧ (r0' = r0 ∧ r1' = r1 ∨ w.heap.size ≤ r0') ∧ r0' ≤ w'.heap.size ∧ r1' ≤ w'.heap.size ∧ Chg (plD g gm r0 r1) w w' := by
  have hmark := hpm.ok hbig
  have hgw : g < w.heap.size := PB.lt hM.1
  have hgmw : gm < w.heap.size := by
    have hnz := validB_places hval
    have hln := hpm.len
    obtain ⟨g', cap, hv', _, h5, h6⟩ := Own.blk hM.2.1 (by omega)
    injection hv' with hv' _ _
    injection hv' with hv'
    injection hv' with hv' _ _
    omega
  obtain ⟨ks, hks⟩ : ∃ k : Nat, n.sink = k := ⟨n.sink.toNat, by have := (validB_ends hval).2; omega⟩
  have hksn : ks < np := by have := (validB_ends hval).2; have := hpm.len; omega
  have hnp40 : np ≤ 40 := by have := (validB_places hval).2.1; have := hpm.len; omega
  have hb0 : Below w.heap.size w (w.alloc (.cells #[.pointer (some ⟨g, 0, none⟩)] 68)) := (Below.refl _ _).alloc (Nat.le_refl _) _
  have M : Hid (Mem [Loc.pb (plA n (vt) (.slice (some ⟨gm, 0, none⟩) np cm) (s).c vr (s).big) g, Loc.owI gm (gm + 1) (.slice (some ⟨gm, 0, none⟩) np cm) (s).m, Loc.owI r0 r1 vr (s).run, Loc.c1 w.heap.size 0 (.pointer (some ⟨g, 0, none⟩)), Loc.rdT lo hi vt n.trans, Loc.cg (plD g gm r0 r1) w] (w.alloc (.cells #[.pointer (some ⟨g, 0, none⟩)] 68))) := Lib.hid (by
    have hal := hM.below hb0
    exact ⟨hal.1, hal.2.1, hal.2.2.1, by simp [C1, go_sem], hv.after hb0, ⟨hb0.os, hb0.tape, hb0.output, hb0.size, fun k hk _ => hb0.block k hk⟩, True.intro⟩)
  have HSI : Hid (∀ W, Mem [Loc.pb (plA n (vt) (.slice (some ⟨gm, 0, none⟩) np cm) (s).c vr (s).big) g, Loc.owI gm (gm + 1) (.slice (some ⟨gm, 0, none⟩) np cm) (s).m, Loc.owI r0 r1 vr (s).run, Loc.c1 w.heap.size 0 (.pointer (some ⟨g, 0, none⟩)), Loc.rdT lo hi vt n.trans, Loc.cg (plD g gm r0 r1) w] W → Calls Try.prog 71 #[netV n vt, .slice (some ⟨gm, 0, none⟩) np cm, .func (.func 77) #[] #[.pointer (some ⟨w.heap.size, 0, none⟩)]] W (RetW W (silE n (goodF n) s.m))) :=
    Lib.hid (fun W hW => silent_any n s.m vt _ lo hi gm (gm + 1) 77 ent_fin1 #[.pointer (some ⟨w.heap.size, 0, none⟩)] (goodF n) W hW.2.2.2.2.1 (Own.rd hW.2.1) hmark (by have := hW.2.2.2.2.2.1.size; omega)
      (fun x lo2 hi2 v W2 hx hb2 hr2 => fin1_any n x g _ lo2 hi2 ks v W2 (cell_aft hb2 hW.2.2.2.1) hks (cell_aft hb2 (PB.k11 hW.1).2.2.2.1) hr2 (by have := (markB_len hx).2.2; have := hpm.len; omega)))
  have HVAL := Lib.hid hval
  have HPM := Lib.hid hpm
  have HSM := Lib.hid hsm
  have HNP := Lib.hid hnp
  have HMK := Lib.hid hmark
  have HBG := Lib.hid hbig
  have HKS := Lib.hid hks
  have HFA := Lib.hid (finA_pm hval hpm hbig hsm)
  have HFE : Hid (finE n s = ⟨(takeIn1 (finA n s) ks).m, ⟨(takeIn1 (finA n s) ks).c.p, (takeIn1 (finA n s) ks).c.c, (takeIn1 (finA n s) ks).c.m, (takeIn1 (finA n s) ks).c.r + sumI (takeIn1 (finA n s) ks).m⟩, (finA n s).run, (finA n s).big⟩) := Lib.hid (by unfold finE; rw [hks])
  have HFS : Hid (finA n s = match silE n (goodF n) s.m with | some way => takeAll n way s | none => s) := Lib.hid rfl
  obtain ⟨A, c, rfl, hc, hmm⟩ := hv.form
  clear hM hv hval hpm hsm hnp hmark hbig hb0
  obtain ⟨sA, hsA⟩ : ∃ y, finA n s = y := ⟨_, rfl⟩
  rw [hsA] at HFA HFE HFS
  clear hsA
  clear hks
  refine calls_cps fun R hR => ?_
  have HR := Lib.hid hR
  clear hR
  go_enter Try.func31, Try.ntmps31
  obtain ⟨rs, hrs⟩ : ∃ r, silE n (goodF n) s.m = r := ⟨_, rfl⟩
  rw [hrs] at HSI HFS
  have hk11 := PB.k11 M.out.1
  have hc1 := M.out.2.2.2.1
  go_wp2_with fail
  go_region_held3 (fun W => C1 W w.heap.size 0 (.pointer (some ⟨g, 0, none⟩)) ∧ K11 W g (.int .i64 n.places) (.slice A n.trans.length c) (.int .i64 n.source) (.int .i64 n.sink) (.slice (some ⟨gm, 0, none⟩) np cm) (.int .i64 s.c.p) (.int .i64 s.c.c) (.int .i64 s.c.m) (.int .i64 s.c.r) vr (.bool s.big)) (exact ⟨hc1, hk11⟩) (first
    | (go_at_call 71; refine (HSI.out _ (by first | exact M.out | exact M.out.drew)).mono ?_; rintro e w6 ⟨A6, c6, rfl, hr6, hb6⟩; have HR6 := Lib.hid (hr6.mono (lo' := w.heap.size + 1) (by simp [heap_drew]) (Nat.le_refl _)); have hz6 := hb6.size; simp only [World.size_alloc, heap_drew] at hz6; replace M := Lib.hid (Mem.below (by first | exact M.out | exact M.out.drew) hb6); clear hb6 hr6; replace hk11 := PB.k11 M.out.1; replace hc1 := M.out.2.2.2.1))
  go_upto_if 19 with (fail)
  go_cut [] (fun wx => ∃ (vr2 : Value) (b0 b1 : Nat), (b0 = r0 ∧ b1 = r1 ∨ w.heap.size ≤ b0) ∧ w.heap.size + 1 ≤ wx.heap.size ∧ b0 ≤ wx.heap.size ∧ b1 ≤ wx.heap.size ∧ (w.heap.size < b0 ∨ b1 ≤ w.heap.size) ∧ Hid (Mem [Loc.pb (plA n (.slice A n.trans.length c) (.slice (some ⟨gm, 0, none⟩) np cm) (sA).c vr2 (sA).big) g, Loc.owI gm (gm + 1) (.slice (some ⟨gm, 0, none⟩) np cm) (sA).m, Loc.owI b0 b1 vr2 (sA).run, Loc.c1 w.heap.size 0 (.pointer (some ⟨g, 0, none⟩)), Loc.rdT lo hi (.slice A n.trans.length c) n.trans, Loc.cg (plD g gm r0 r1) w] wx))
  case first =>
    cases rs with
    | some way =>
      obtain ⟨m', hr1, hr2, hr3, hr4⟩ := silE_some HMK.out hrs
      have HRG := Lib.hid (runTo_rg hr1)
      have hr5 : way.length ≤ 200 := by omega
      have HSA : Hid (takeAll n way s = sA) := Lib.hid HFS.out.symm
      clear hr1 hr2 hr3 hr4 hrs
      go_wp2_with (first
        | (go_at_call 74; refine (takeAll_any n s way B g gm np cm r0 r1 lo hi (w.heap.size + 1) w6.heap.size _ vr _ _ M.out.2.2.2.2.1 HVAL.out HRG.out HPM.out HSM.out (by omega) HNP.out ⟨M.out.1, M.out.2.1, M.out.2.2.1, True.intro⟩ hg hgr hmr h1 h2 h3 (by have := M.out.2.2.2.2.2.1.size; omega) (by have := M.out.2.2.2.2.2.1.size; omega) HR6.out (by omega) (by omega) (by omega) (Nat.le_refl _)).mono ?_; rintro e w7 ⟨vr2, b0, b1, rfl, hM2, hbb, hb0, hb1, hch⟩; rw [HSA.out] at hM2; have M2 : Hid (Mem [Loc.pb (plA n (.slice A n.trans.length c) (.slice (some ⟨gm, 0, none⟩) np cm) (sA).c vr2 (sA).big) g, Loc.owI gm (gm + 1) (.slice (some ⟨gm, 0, none⟩) np cm) (sA).m, Loc.owI b0 b1 vr2 (sA).run, Loc.c1 w.heap.size 0 (.pointer (some ⟨g, 0, none⟩)), Loc.rdT lo hi (.slice A n.trans.length c) n.trans, Loc.cg (plD g gm r0 r1) w] w7) := Lib.hid ⟨hM2.1, hM2.2.1, hM2.2.2.1, Mem.chg hch M.out.2.2.2 (by (repeat' (first | exact True.intro | refine And.intro (fun k hk e => ?_) ?_)) <;> (first | exact e | ((try dsimp only [Loc.c1, Loc.c2, Loc.k1, Loc.k2, Loc.k3, Loc.k4, Loc.k6, Loc.fr, Loc.bl, Loc.own, Loc.sz, Loc.rd, Loc.rdI, Loc.rdS, Loc.rdM, Loc.rdT, Loc.ow, Loc.owI, Loc.owN, Loc.set, Loc.ns, Loc.cg, Loc.pb, silD, plD] at hk e) <;> omega)))⟩; have hs7 := hch.size; have hs6 := M.out.2.2.2.2.2.1.size; clear hM2 hch M))
      go_meet
      exact ⟨vr2, b0, b1, by omega, by omega, hb0, hb1, by omega, M2⟩
    | none =>
      have HSA : Hid (s = sA) := Lib.hid HFS.out.symm
      rw [HSA.out] at M
      clear hrs
      go_wp2_with fail
      go_meet
      exact ⟨vr, r0, r1, .inl ⟨rfl, rfl⟩, by omega, by omega, by omega, .inr h4, M⟩
  case rest =>
    clear M hk11 hc1 HR6 hz6 HSI HFS hrs
    obtain ⟨vr2, b0, b1, hbb, hbs, hb0, hb1, hbw, M⟩ := hcut
    have hk11 := PB.k11 M.out.1
    rw [HKS.out] at hk11
    have hc1 := M.out.2.2.2.1
    have hq := HFA.out.1.c_ge
    have hqc := HFA.out.2.1.c
    have hqm := HFA.out.1.mc
    have hqt := (HFA.out.1.small.2.2 ks)
    have hqp := HFA.out.2.1.p
    have hlnA : (sA.m.length : Int) = np := by have a1 := HFA.out.1.len; have a2 := HPM.out.len; have a3 := HNP.out; omega
    have hkl : ks < sA.m.length := by omega
    have hat := OwnI.at1 M.out.2.1 (k := ks) hkl
    have hqq : 0 ≤ sA.c.c ∧ sA.c.c ≤ 1000000000 ∧ 0 ≤ sA.c.m ∧ sA.c.m ≤ 1000000000 ∧ 0 ≤ gti sA.m ks ∧ gti sA.m ks ≤ 1000000000 := by omega
    clear hq hqc hqm hqt hqp hlnA
    obtain ⟨e1, e2, e3, e4, e5, e6⟩ := hqq
    have M1 := Lib.hid (Mem.step (a' := Loc.pb (plA n (.slice A n.trans.length c) (.slice (some ⟨gm, 0, none⟩) np cm) ⟨sA.c.p, sA.c.c + 1, sA.c.m, sA.c.r⟩ vr2 sA.big) g) M.out (PB.set M.out.1 6 (.int .i64 (sA.c.c + 1)) rfl) (Chg.set _ g 6 _) (by (repeat' (first | exact True.intro | refine And.intro (fun k hk e => ?_) ?_)) <;> (first | exact e | ((try dsimp only [Loc.c1, Loc.c2, Loc.k1, Loc.k2, Loc.k3, Loc.k4, Loc.k6, Loc.fr, Loc.bl, Loc.own, Loc.sz, Loc.rd, Loc.rdI, Loc.rdS, Loc.rdM, Loc.rdT, Loc.ow, Loc.owI, Loc.owN, Loc.set, Loc.ns, Loc.cg, Loc.pb, silD, plD] at hk e) <;> omega))))
    go_upto_region 5 with (fail)
    go_quiet (fail)
    go_upto_if 43 with (fail)
    go_cut [] (fun wx => w.heap.size + 1 ≤ wx.heap.size ∧ b0 ≤ wx.heap.size ∧ b1 ≤ wx.heap.size ∧ Hid (Mem [Loc.pb (plA n (.slice A n.trans.length c) (.slice (some ⟨gm, 0, none⟩) np cm) ((takeIn1 sA ks)).c vr2 ((takeIn1 sA ks)).big) g, Loc.owI gm (gm + 1) (.slice (some ⟨gm, 0, none⟩) np cm) ((takeIn1 sA ks)).m, Loc.owI b0 b1 vr2 ((takeIn1 sA ks)).run, Loc.c1 w.heap.size 0 (.pointer (some ⟨g, 0, none⟩)), Loc.rdT lo hi (.slice A n.trans.length c) n.trans, Loc.cg (plD g gm r0 r1) w] wx))
    case first =>
      have M2 := Lib.hid (M1.out.drewN nq)
      have hs0 : w.heap.size + 1 ≤ ((wc.setCell ⟨g, 6, none⟩ (.int .i64 (sA.c.c + 1))).drewN nq).heap.size := by show _ ≤ (wc.setCell _ _).heap.size; rw [size_setCell]; exact hbs
      have hs1 : b0 ≤ ((wc.setCell ⟨g, 6, none⟩ (.int .i64 (sA.c.c + 1))).drewN nq).heap.size := by show _ ≤ (wc.setCell _ _).heap.size; rw [size_setCell]; exact hb0
      have hs2 : b1 ≤ ((wc.setCell ⟨g, 6, none⟩ (.int .i64 (sA.c.c + 1))).drewN nq).heap.size := by show _ ≤ (wc.setCell _ _).heap.size; rw [size_setCell]; exact hb1
      clear hk11 hc1 hat M M1 hbs hb0 hb1
      generalize (wc.setCell ⟨g, 6, none⟩ (.int .i64 (sA.c.c + 1))).drewN nq = W1 at *
      have hk11 := PB.k11 M2.out.1
      rw [HKS.out] at hk11
      have hc1 := M2.out.2.2.2.1
      have hat := OwnI.at1 M2.out.2.1 (k := ks) hkl
      by_cases hpos : 0 < gti sA.m ks
      · have HE : Hid (takeIn1 sA ks = ⟨sA.m.set ks (gti sA.m ks - 1), ⟨sA.c.p, sA.c.c + 1, sA.c.m, sA.c.r⟩, sA.run, sA.big⟩) := Lib.hid (by unfold takeIn1; simp only [Int.toNat_natCast]; rw [if_pos hpos])
        have hd1 : decide ((0 : Int) < gti sA.m ks) = true := by simpa using hpos
        go_wp2_with fail
        go_still_tail 13, (by kernel_rfl)
        change wpList _ _ _ _ _ W1.drew
        have M3 := M2.out.drew
        go_wp2_with fail
        go_meet
        have M4 := Mem.step2 (b' := Loc.owI gm (gm + 1) (.slice (some ⟨gm, 0, none⟩) np cm) (sA.m.set ks (gti sA.m ks - 1))) M3 (OwnI.set M3.2.1 ks (gti sA.m ks - 1)) (Chg.set _ gm ks _) (by (repeat' (first | exact True.intro | refine And.intro (fun k hk e => ?_) ?_)) <;> (first | exact e | ((try dsimp only [Loc.c1, Loc.c2, Loc.k1, Loc.k2, Loc.k3, Loc.k4, Loc.k6, Loc.fr, Loc.bl, Loc.own, Loc.sz, Loc.rd, Loc.rdI, Loc.rdS, Loc.rdM, Loc.rdT, Loc.ow, Loc.owI, Loc.owN, Loc.set, Loc.ns, Loc.cg, Loc.pb, silD, plD] at hk e) <;> omega)))
        exact ⟨by simp only [heap_drew, size_setCell]; exact hs0, by simp only [heap_drew, size_setCell]; exact hs1, by simp only [heap_drew, size_setCell]; exact hs2, Lib.hid (by rw [HE.out]; exact M4)⟩
      · have HE : Hid (takeIn1 sA ks = ⟨sA.m, ⟨sA.c.p, sA.c.c + 1, sA.c.m + 1, sA.c.r⟩, sA.run, sA.big⟩) := Lib.hid (by unfold takeIn1; simp only [Int.toNat_natCast]; rw [if_neg hpos])
        have hd1 : decide ((0 : Int) < gti sA.m ks) = false := by simpa using hpos
        go_wp2_with fail
        go_meet
        have M3 := Mem.step (a' := Loc.pb (plA n (.slice A n.trans.length c) (.slice (some ⟨gm, 0, none⟩) np cm) ⟨sA.c.p, sA.c.c + 1, sA.c.m + 1, sA.c.r⟩ vr2 sA.big) g) M2.out (PB.set M2.out.1 7 (.int .i64 (sA.c.m + 1)) rfl) (Chg.set _ g 7 _) (by (repeat' (first | exact True.intro | refine And.intro (fun k hk e => ?_) ?_)) <;> (first | exact e | ((try dsimp only [Loc.c1, Loc.c2, Loc.k1, Loc.k2, Loc.k3, Loc.k4, Loc.k6, Loc.fr, Loc.bl, Loc.own, Loc.sz, Loc.rd, Loc.rdI, Loc.rdS, Loc.rdM, Loc.rdT, Loc.ow, Loc.owI, Loc.owN, Loc.set, Loc.ns, Loc.cg, Loc.pb, silD, plD] at hk e) <;> omega)))
        exact ⟨by rw [size_setCell]; exact hs0, by rw [size_setCell]; exact hs1, by rw [size_setCell]; exact hs2, Lib.hid (by rw [HE.out]; exact M3)⟩
    case rest =>
      clear M M1 hk11 hc1 hat hbs hb0 hb1
      obtain ⟨hbs, hb0, hb1, M⟩ := hcut
      have HPT1 := Lib.hid (HFA.out.1.pt.in1 (k := (ks : Int)) (by omega) (by have := HKS.out; have := (validB_ends HVAL.out).2; omega))
      have HC1 : Hid ((takeIn1 sA ks).c.p = sA.c.p ∧ (takeIn1 sA ks).c.r = sA.c.r ∧ (takeIn1 sA ks).run = sA.run ∧ (takeIn1 sA ks).big = sA.big) := Lib.hid (by unfold takeIn1; split <;> exact ⟨rfl, rfl, rfl, rfl⟩)
      obtain ⟨s1, hs1⟩ : ∃ y, takeIn1 sA ks = y := ⟨_, rfl⟩
      rw [hs1] at HPT1 HC1 HFE M
      clear hs1
      have hk11 := PB.k11 M.out.1
      have hc1 := M.out.2.2.2.1
      have hr0 := HPT1.out.r0
      have hpm2 := HPT1.out.small
      have hbal := HPT1.out.bal
      have hc0 := HPT1.out.c0
      have hmc := HPT1.out.mc
      have hsp := HFA.out.2.1.p
      have hsr := HFA.out.2.1.r
      have hc2 := HC1.out
      have hqq : 0 ≤ s1.c.r ∧ s1.c.r ≤ 1000000000 ∧ sumI s1.m ≤ 1000000000 := by have := hc2.1; have := hc2.2.1; have := hpm2.2.1; omega
      have HTK : Hid (∀ j, 0 ≤ sumI (s1.m.take j) ∧ sumI (s1.m.take j) ≤ sumI s1.m) := Lib.hid (fun j => sumI_tk s1.m j HPT1.out.nn)
      have hlnA : s1.m.length = np := by have a1 := HPT1.out.len; have a2 := HPM.out.len; have a3 := HNP.out; omega
      have HLN := Lib.hid hlnA
      have HGN : Hid (∀ j, 0 ≤ gti s1.m j ∧ gti s1.m j ≤ 1000000000) := Lib.hid (fun j => by have := hpm2.2.2 j; have := hc2.1; omega)
      clear hr0 hpm2 hbal hc0 hmc hsp hsr hc2 hlnA
      obtain ⟨e1, e2, e3⟩ := hqq
      go_wp2_with fail
      have M0 : Hid (Mem [Loc.pb (plA n (.slice A n.trans.length c) (.slice (some ⟨gm, 0, none⟩) np cm) ⟨s1.c.p, s1.c.c, s1.c.m, s1.c.r + sumI (s1.m.take 0)⟩ vr2 s1.big) g, Loc.owI gm (gm + 1) (.slice (some ⟨gm, 0, none⟩) np cm) s1.m, Loc.owI b0 b1 vr2 s1.run, Loc.c1 w.heap.size 0 (.pointer (some ⟨g, 0, none⟩)), Loc.rdT lo hi (.slice A n.trans.length c) n.trans, Loc.cg (plD g gm r0 r1) w] wc) := Lib.hid (by
        rw [List.take_zero]
        simp only [sumI, Int.add_zero]
        exact M.out)
      go_loopw [71, 5] (fun v71 _ wr => ∃ j : Nat, j ≤ np ∧ v71 = .int .i64 j ∧ b0 ≤ wr.heap.size ∧ b1 ≤ wr.heap.size ∧ Hid (Mem [Loc.pb (plA n (.slice A n.trans.length c) (.slice (some ⟨gm, 0, none⟩) np cm) ⟨s1.c.p, s1.c.c, s1.c.m, s1.c.r + sumI (s1.m.take j)⟩ vr2 s1.big) g, Loc.owI gm (gm + 1) (.slice (some ⟨gm, 0, none⟩) np cm) s1.m, Loc.owI b0 b1 vr2 s1.run, Loc.c1 w.heap.size 0 (.pointer (some ⟨g, 0, none⟩)), Loc.rdT lo hi (.slice A n.trans.length c) n.trans, Loc.cg (plD g gm r0 r1) w] wr)) (fun v71 _ _ => np - (intOf v71).toNat)
      case atStart => exact ⟨0, Nat.zero_le _, rfl, hb0, hb1, M0⟩
      case round =>
        clear M M0 hk11 hc1 hb0 hb1 hbs
        obtain ⟨j, hj, rfl, hb0, hb1, M⟩ := hrel
        have hk11 := PB.k11 M.out.1
        have hc1 := M.out.2.2.2.1
        have htk := HTK.out j
        by_cases hlt : j < np
        · have hat := OwnI.at1 M.out.2.1 (k := j) (by have := HLN.out; omega)
          have HSU : Hid (sumI (s1.m.take (j + 1)) = sumI (s1.m.take j) + gti s1.m j) := Lib.hid (sumI_take _ _ (by have := HLN.out; omega))
          have hgn := HGN.out j
          obtain ⟨q1, q2⟩ := htk
          obtain ⟨q3, q4⟩ := hgn
          generalize sumI (s1.m.take j) = S at *
          generalize gti s1.m j = X at *
          go_wp2_with fail
          have M1 := Lib.hid (Mem.step (a' := Loc.pb (plA n (.slice A n.trans.length c) (.slice (some ⟨gm, 0, none⟩) np cm) ⟨s1.c.p, s1.c.c, s1.c.m, s1.c.r + S + X⟩ vr2 s1.big) g) M.out (PB.set M.out.1 8 (.int .i64 (s1.c.r + S + X)) rfl) (Chg.set _ g 8 _) (by (repeat' (first | exact True.intro | refine And.intro (fun k hk e => ?_) ?_)) <;> (first | exact e | ((try dsimp only [Loc.c1, Loc.c2, Loc.k1, Loc.k2, Loc.k3, Loc.k4, Loc.k6, Loc.fr, Loc.bl, Loc.own, Loc.sz, Loc.rd, Loc.rdI, Loc.rdS, Loc.rdM, Loc.rdT, Loc.ow, Loc.owI, Loc.owN, Loc.set, Loc.ns, Loc.cg, Loc.pb, silD, plD] at hk e) <;> omega))))
          exact ⟨⟨j + 1, by omega, by go_num, by simp only [size_setCell]; exact hb0, by simp only [size_setCell]; exact hb1, Lib.hid (by rw [HSU.out, ← Int.add_assoc]; exact M1.out)⟩, by simp [intOf]; omega⟩
        · obtain rfl : j = np := by omega
          go_wp2_with fail
          go_end0
          refine HR.out _ _ ⟨vr2, b0, b1, rfl, ?_, hbb, hb0, hb1, M.out.2.2.2.2.2.1⟩
          rw [HFE.out, ← HC1.out.2.2.1, ← HC1.out.2.2.2]
          have hM := M.out
          rw [List.take_of_length_le (by rw [HLN.out]; exact Nat.le_refl _)] at hM
          exact ⟨hM.1, hM.2.1, hM.2.2.1, True.intro⟩
end Go.Proofs.Ytmhbfoaecebobaa
end
section
namespace Go.Proofs.Ytmhbfoaecebobaa
set_option linter.unusedSimpArgs false
set_option linter.unusedVariables false
open Go.RowKit

abbrev cntV (c : Cnt) : Value := .agg #[.int .i64 c.p, .int .i64 c.c, .int .i64 c.m, .int .i64 c.r]
/-- a block of four cells of the call's own -/
abbrev K4f (w : World) (g : Nat) (a b c d : Value) : Prop := w.cell? ⟨g, 0, none⟩ = some a ∧ w.cell? ⟨g, 1, none⟩ = some b ∧ w.cell? ⟨g, 2, none⟩ = some c ∧ w.cell? ⟨g, 3, none⟩ = some d ∧ w.frozen? ⟨g, 0, none⟩ = false ∧ w.frozen? ⟨g, 1, none⟩ = false ∧ w.frozen? ⟨g, 2, none⟩ = false ∧ w.frozen? ⟨g, 3, none⟩ = false ∧ g < w.heap.size
theorem K4f.of_block {W W' : World} {g : Nat} {a b c d : Value} (h : K4f W g a b c d) (he : W'.heap[g]? = W.heap[g]?) (hs : W.heap.size ≤ W'.heap.size) : K4f W' g a b c d := by
  obtain ⟨h1, h2, h3, h4, f1, f2, f3, f4, h7⟩ := h
  exact ⟨(World.cell?_of_block (w := W) he).trans h1, (World.cell?_of_block (w := W) he).trans h2, (World.cell?_of_block (w := W) he).trans h3, (World.cell?_of_block (w := W) he).trans h4, (World.frozen?_of_block (w := W) he).trans f1, (World.frozen?_of_block (w := W) he).trans f2, (World.frozen?_of_block (w := W) he).trans f3, (World.frozen?_of_block (w := W) he).trans f4, Nat.lt_of_lt_of_le h7 hs⟩
theorem K4f.new (W : World) (a b c d : Value) (t : TypeId) : K4f (W.alloc (.cells #[a, b, c, d] t)) W.heap.size a b c d := by simp [K4f, go_sem]
abbrev Loc.k4f (g : Nat) (a b c d : Value) : Loc := ⟨fun w => K4f w g a b c d, fun k => k = g, fun h hd hp => K4f.of_block hp (h.block g hp.2.2.2.2.2.2.2.2 (hd g rfl)) h.size⟩
theorem K4f.set {W : World} {g : Nat} {a b c d : Value} (h : K4f W g a b c d) (x y z u : Value) : K4f ((((W.setCell ⟨g, 0, none⟩ x).setCell ⟨g, 1, none⟩ y).setCell ⟨g, 2, none⟩ z).setCell ⟨g, 3, none⟩ u) g x y z u := by
  obtain ⟨h1, h2, h3, h4, f1, f2, f3, f4, h7⟩ := h
  refine ⟨by simp [go_sem, h1], by simp [go_sem, h2], by simp [go_sem, h3], by simp [go_sem, h4], by simp [go_sem, f1], by simp [go_sem, f2], by simp [go_sem, f3], by simp [go_sem, f4], by simpa using h7⟩
theorem Chg.set4 (w : World) (g : Nat) (x y z u : Value) : Chg (fun k => k = g) w ((((w.setCell ⟨g, 0, none⟩ x).setCell ⟨g, 1, none⟩ y).setCell ⟨g, 2, none⟩ z).setCell ⟨g, 3, none⟩ u) :=
  ⟨rfl, rfl, rfl, by simp [World.setCell], fun k hk hc => (Below.heap_setCell _ _ _ _ hc).trans ((Below.heap_setCell _ _ _ _ hc).trans ((Below.heap_setCell _ _ _ _ hc).trans (Below.heap_setCell _ _ _ _ hc)))⟩
/-- a struct of four cells and two slots as the three results -/
theorem ret_B4_tmp2 {fn : Func} {R : Ending → World → Prop} {a : Act} {w : World} {t u v : Tmp} {g : Nat} {x1 x2 x3 x4 y z : Value} (hres : fn.results = #[.cell t 29, .tmp u, .tmp v]) (hd : a.defers = [])
    (ht : a.tmps.getD t undef = .pointer (some ⟨g, 0, none⟩)) (hu : a.tmps.getD u undef = y) (hv : a.tmps.getD v undef = z) (hB : K4f w g x1 x2 x3 x4) (hR : R (.returned (.tuple #[.agg #[x1, x2, x3, x4], y, z])) w) : bodyPost Try.prog fn R .ret a w := by
  obtain ⟨h1, h2, h3, h4, _⟩ := hB
  rw [Array.getD_eq_getD_getElem?] at ht hu hv
  exact bodyPost_ret (by simp only [results, hres]; simp [go_sem, ht, hu, hv, h1, h2, h3, h4]) hd hR
/-- what a replay returns -/
def RetPl (w : World) (r : Cnt × List Int × Int) (e : Ending) (w' : World) : Prop :=
  ∃ A k, e = .returned (.tuple #[cntV r.1, .slice A r.2.1.length k, .int .i64 r.2.2]) ∧ RdI w' w.heap.size w'.heap.size (.slice A r.2.1.length k) r.2.1 ∧ Below w.heap.size w w'
theorem RetPl.err {w w' : World} {r : Cnt × List Int × Int} {e : Int} (h : r = (⟨0, 0, 0, 0⟩, [], e)) (hb : Below w.heap.size w w') : RetPl w r (.returned (.tuple #[.agg #[.int .i64 0, .int .i64 0, .int .i64 0, .int .i64 0], .slice none 0 0, .int .i64 e])) w' := by
  subst h
  exact ⟨none, 0, rfl, Rd.nil _ _ _, hb⟩
theorem wfB_valid {n : Net} (h : wfB n = true) : validB n = true := (wfB_wf h).valid

set_option maxHeartbeats 1000000 in
theorem initial_own (n : Net) (np : Nat) (vt : Value) (lo hi : Nat) (w : World) (hv : RdT w lo hi vt n.trans) (hval : validB n = true) (hnp : n.places = np) :
    Calls Try.prog 29 #[netV n vt] w fun e w' => ∃ gm, e = .returned (.tuple #[.slice (some ⟨gm, 0, none⟩) np np, .int .i64 0]) ∧ w.heap.size ≤ gm ∧ OwnI w' gm (gm + 1) (.slice (some ⟨gm, 0, none⟩) np np) (oneL np n.source) ∧ Below w.heap.size w w' := by
  have hone : ∀ W, Below w.heap.size w W → Calls Try.prog 70 #[netV n vt, .int .i64 n.source] W fun e w' => ∃ gm, e = .returned (.tuple #[.slice (some ⟨gm, 0, none⟩) np np, .int .i64 0]) ∧ W.heap.size ≤ gm ∧ OwnI w' gm (gm + 1) (.slice (some ⟨gm, 0, none⟩) np np) (oneL np n.source) ∧ Below W.heap.size W w' := by
    intro W hW
    obtain ⟨A, c, rfl, hc, hm⟩ := hv.form
    have HV := Lib.hid (hv.after hW)
    clear hv hW w
    have HVB := Lib.hid hval
    have hpl := validB_places hval
    have hpp := (validB_ends hval).1
    clear hval
    generalize hps : n.source = p at *
    obtain ⟨kp, rfl⟩ : ∃ k : Nat, p = k := ⟨p.toNat, by omega⟩
    have hlt : kp < np := by omega
    have hmk := mk_int hnp (by omega)
    have HNP := Lib.hid hnp
    have hn40 : np ≤ 40 := by omega
    have HPS := Lib.hid hps
    clear hnp hpl hpp hps
    obtain ⟨w, hw⟩ : ∃ w, w = W := ⟨_, rfl⟩
    subst hw
    refine calls_cps fun R hR => ?_
    have HR := Lib.hid hR
    clear hR
    go_enter Try.func70, Try.ntmps70
    have M : Hid (Mem [Loc.k4 w.heap.size (.int .i64 n.places) (.slice A n.trans.length c) (.int .i64 n.source) (.int .i64 n.sink), Loc.bl w.heap.size w] (w.alloc (.cells #[.int .i64 n.places, .slice A n.trans.length c, .int .i64 n.source, .int .i64 n.sink] 24))) := Lib.hid ⟨K4.new w _ _ _ _ _, ⟨(Below.refl _ _).alloc (Nat.le_refl _) _, by simp⟩, True.intro⟩
    have hk4 := M.out.1
    go_wp2_with (first
      | (go_at_call 54; refine (valid_is HVB.out _ lo hi _ (HV.out.after M.out.2.1.1)).mono ?_; rintro e w1 ⟨rfl, hb1⟩; replace M := Lib.hid (M.out.below hb1); clear hb1; replace hk4 := M.out.1; have HO := Lib.hid (OwnI.made w1 np (by omega)); have hat := OwnI.at1 HO.out (k := kp) (by simp; omega)))
    refine HR.out _ _ ⟨w1.heap.size, rfl, M.out.2.1.2, ?_, ?_⟩
    · have := (set_new w1 (madeCells #[.int .i64 0] np) 3 kp (.int .i64 1)) ▸ OwnI.set HO.out kp 1
      simpa [oneL] using this
    · exact (M.out.2.1.1).alloc M.out.2.1.2 _
  have HONE := Lib.hid hone
  obtain ⟨A, c, rfl, hc, hm⟩ := hv.form
  clear hv hone hnp
  refine calls_cps fun R hR => ?_
  have HR := Lib.hid hR
  clear hR
  go_enter Try.func29, Try.ntmps29
  have M : Hid (Mem [Loc.k4 w.heap.size (.int .i64 n.places) (.slice A n.trans.length c) (.int .i64 n.source) (.int .i64 n.sink), Loc.bl w.heap.size w] (w.alloc (.cells #[.int .i64 n.places, .slice A n.trans.length c, .int .i64 n.source, .int .i64 n.sink] 24))) := Lib.hid ⟨K4.new w _ _ _ _ _, ⟨(Below.refl _ _).alloc (Nat.le_refl _) _, by simp⟩, True.intro⟩
  have hk4 := M.out.1
  go_wp2_with (go_at_call 70; refine (HONE.out _ M.out.2.1.1).mono ?_; rintro e w1 ⟨gm, rfl, hg1, ho1, hb1⟩; have HO1 := Lib.hid ho1; have HG1 : Hid (w.heap.size ≤ gm) := Lib.hid (by simp only [World.size_alloc] at hg1; omega); replace M := Lib.hid (M.out.below hb1); clear hb1 ho1 hg1)
  exact HR.out _ _ ⟨gm, rfl, HG1.out, HO1.out, M.out.2.1.1⟩

theorem named_is {l : List ByteArray} {b : Bool} (hb : allN l = b) (lo hi : Nat) (v : Value) (w : World) (hv : RdS w lo hi v l) :
    Calls Try.prog 28 #[v] w fun e w' => e = .returned (.bool b) ∧ Below w.heap.size w w' := hb ▸ named_any l lo hi v w hv
theorem workflow_is {n : Net} {b : Bool} (hb : wfB n = b) (vt : Value) (lo hi : Nat) (w : World) (hv : RdT w lo hi vt n.trans) :
    Calls Try.prog 27 #[netV n vt] w fun e w' => e = .returned (.bool b) ∧ Below w.heap.size w w' := hb ▸ workflow_any n vt lo hi w hv
theorem oneL_at (k : Nat) (p : Int) (i : Nat) : gti (oneL k p) i = if p.toNat = i ∧ i < k then 1 else 0 := by
  unfold oneL
  rw [gti_set]
  simp only [List.length_replicate]
  split
  · rfl
  · unfold gti
    rw [List.getElem?_replicate]
    split <;> rfl
theorem sumI_zero : ∀ k : Nat, sumI (List.replicate k 0) = 0
  | 0 => rfl
  | k + 1 => by rw [List.replicate_succ, sumI, sumI_zero k]; rfl
theorem pl0_pm {n : Net} (hv : validB n = true) : PM n (pl0 n) ∧ Sm (pl0 n) 1 ∧ (pl0 n).big = false := by
  have h1 := validB_places hv
  have h2 := (validB_ends hv).1
  have hs : sumI (oneL n.places.toNat n.source) = 1 := by
    unfold oneL
    rw [sumI_set _ _ _ (by simp; omega), sumI_zero]
    unfold gti
    rw [List.getElem?_replicate]
    split <;> rfl
  have hat : ∀ i, 0 ≤ gti (oneL n.places.toNat n.source) i ∧ gti (oneL n.places.toNat n.source) i ≤ 100 := fun i => by
    rw [oneL_at]
    split <;> omega
  refine ⟨⟨?_, fun i => (hat i).1, fun _ => ?_, ?_, ?_, ?_, ?_, ?_⟩, ⟨?_, ?_, ?_, ?_⟩, rfl⟩
  · simp [pl0, oneL]; omega
  · unfold markB mark2B
    rw [hv, if_neg (by simp [pl0, oneL]; omega), all01_intro (m := (pl0 n).m) hat]
    rfl
  · simp [pl0]
  · simp [pl0]
  · simp [pl0]
  · simp only [pl0, hs]; decide
  · intro t ht; simp [pl0] at ht
  · simp [pl0]
  · simp [pl0]
  · simp [pl0]
  · simp [pl0]

set_option maxRecDepth 100000 in
set_option maxHeartbeats 4000000 in
theorem Play_any (n : Net) (l : List ByteArray) (vt v : Value) (lo hi lo' hi' : Nat) (w : World) (hv : RdT w lo hi vt n.trans) (hw : RdS w lo' hi' v l) (hhi : hi ≤ w.heap.size) (hhi2 : hi' ≤ w.heap.size) :
    Calls Try.prog 10 #[netV n vt, v] w (RetPl w (PlayE n l)) := by
  obtain ⟨A, c, rfl, hc, hmm⟩ := hv.form
  obtain ⟨A2, c2, rfl, hc2, hmm2⟩ := hw.form
  have HV := Lib.hid hv
  have HW := Lib.hid hw
  clear hv hw
  obtain ⟨zw, hzw⟩ : ∃ z, wfB n = z := ⟨_, rfl⟩
  obtain ⟨zn, hzn⟩ : ∃ z, allN l = z := ⟨_, rfl⟩
  have HP : Hid (PlayE n l = if (zw && zn) = false then (⟨0, 0, 0, 0⟩, [], 1) else if 200 < l.length then (⟨0, 0, 0, 0⟩, [], 5) else endE n (playL n l (pl0 n))) := Lib.hid (by unfold PlayE; rw [hzw, hzn])
  have HZW := Lib.hid hzw
  have HZN := Lib.hid hzn
  clear hzw hzn
  refine calls_cps fun R hR => ?_
  have HR := Lib.hid hR
  clear hR
  go_enter Try.func10, Try.ntmps10
  have M : Hid (Mem [Loc.k4 w.heap.size (.int .i64 n.places) (.slice A n.trans.length c) (.int .i64 n.source) (.int .i64 n.sink), Loc.bl w.heap.size w] (w.alloc (.cells #[.int .i64 n.places, .slice A n.trans.length c, .int .i64 n.source, .int .i64 n.sink] 24))) := Lib.hid ⟨K4.new w _ _ _ _ _, ⟨(Below.refl _ _).alloc (Nat.le_refl _) _, by simp⟩, True.intro⟩
  have hk4 := M.out.1
  have M1 : Hid (Mem [Loc.k4f (w.heap.size + 1) (.int .i64 0) (.int .i64 0) (.int .i64 0) (.int .i64 0), Loc.k4 w.heap.size (.int .i64 n.places) (.slice A n.trans.length c) (.int .i64 n.source) (.int .i64 n.sink), Loc.bl w.heap.size w] ((w.alloc (.cells #[.int .i64 n.places, .slice A n.trans.length c, .int .i64 n.source, .int .i64 n.sink] 24)).alloc (.cells #[.int .i64 0, .int .i64 0, .int .i64 0, .int .i64 0] 29))) := Lib.hid ⟨by have := K4f.new (w.alloc (.cells #[.int .i64 n.places, .slice A n.trans.length c, .int .i64 n.source, .int .i64 n.sink] 24)) (.int .i64 0) (.int .i64 0) (.int .i64 0) (.int .i64 0) 29; rw [World.size_alloc] at this; exact this, M.out.alloc _⟩
  clear M
  have M := M1
  clear M1
  have hkr := M.out.1
  replace hk4 := M.out.2.1
  cases zw with
  | false =>
    go_wp2_with (go_at_call 27; refine (workflow_is HZW.out _ lo hi _ (HV.out.after M.out.2.2.1.1)).mono ?_; rintro e w1 ⟨rfl, hb1⟩; replace M := Lib.hid (M.out.below hb1); clear hb1; replace hkr := M.out.1; replace hk4 := M.out.2.1)
    refine ret_B4_tmp2 rfl rfl rfl rfl rfl (K4f.set M.out.1 _ _ _ _) (HR.out _ _ (RetPl.err (by rw [HP.out]; rfl) (Mem.step (a' := Loc.k4f (w.heap.size + 1) (.int .i64 0) (.int .i64 0) (.int .i64 0) (.int .i64 0)) M.out (K4f.set M.out.1 _ _ _ _) (Chg.set4 _ (w.heap.size + 1) _ _ _ _) (by (repeat' (first | exact True.intro | refine And.intro (fun k hk e => ?_) ?_)) <;> (first | exact e | ((try dsimp only [Loc.c1, Loc.c2, Loc.k1, Loc.k2, Loc.k3, Loc.k4, Loc.k6, Loc.fr, Loc.bl, Loc.own, Loc.sz, Loc.rd, Loc.rdI, Loc.rdS, Loc.rdM, Loc.rdT, Loc.ow, Loc.owI, Loc.owN, Loc.set, Loc.ns, Loc.cg, Loc.pb, silD, plD] at hk e) <;> omega)))).2.2.1.1))
  | true =>
    cases zn with
    | false =>
      go_wp2_with (first
        | (go_at_call 27; refine (workflow_is HZW.out _ lo hi _ (HV.out.after M.out.2.2.1.1)).mono ?_; rintro e w1 ⟨rfl, hb1⟩; replace M := Lib.hid (M.out.below hb1); clear hb1; replace hkr := M.out.1; replace hk4 := M.out.2.1)
        | (go_at_call 28; refine (named_is HZN.out lo' hi' _ _ (HW.out.after M.out.2.2.1.1)).mono ?_; rintro e w1 ⟨rfl, hb1⟩; replace M := Lib.hid (M.out.below hb1); clear hb1; replace hkr := M.out.1; replace hk4 := M.out.2.1))
      refine ret_B4_tmp2 rfl rfl rfl rfl rfl (K4f.set M.out.1 _ _ _ _) (HR.out _ _ (RetPl.err (by rw [HP.out]; rfl) (Mem.step (a' := Loc.k4f (w.heap.size + 1) (.int .i64 0) (.int .i64 0) (.int .i64 0) (.int .i64 0)) M.out (K4f.set M.out.1 _ _ _ _) (Chg.set4 _ (w.heap.size + 1) _ _ _ _) (by (repeat' (first | exact True.intro | refine And.intro (fun k hk e => ?_) ?_)) <;> (first | exact e | ((try dsimp only [Loc.c1, Loc.c2, Loc.k1, Loc.k2, Loc.k3, Loc.k4, Loc.k6, Loc.fr, Loc.bl, Loc.own, Loc.sz, Loc.rd, Loc.rdI, Loc.rdS, Loc.rdM, Loc.rdT, Loc.ow, Loc.owI, Loc.owN, Loc.set, Loc.ns, Loc.cg, Loc.pb, silD, plD] at hk e) <;> omega)))).2.2.1.1))
    | true =>
      rw [if_neg (by simp)] at HP
      by_cases h200 : 200 < l.length
      · rw [if_pos h200] at HP
        have hd : decide ((200 : Int) < l.length) = true := by simp; omega
        go_wp2_with (first
          | (go_at_call 27; refine (workflow_is HZW.out _ lo hi _ (HV.out.after M.out.2.2.1.1)).mono ?_; rintro e w1 ⟨rfl, hb1⟩; replace M := Lib.hid (M.out.below hb1); clear hb1; replace hkr := M.out.1; replace hk4 := M.out.2.1)
          | (go_at_call 28; refine (named_is HZN.out lo' hi' _ _ (HW.out.after M.out.2.2.1.1)).mono ?_; rintro e w1 ⟨rfl, hb1⟩; replace M := Lib.hid (M.out.below hb1); clear hb1; replace hkr := M.out.1; replace hk4 := M.out.2.1))
        refine ret_B4_tmp2 rfl rfl rfl rfl rfl (K4f.set M.out.1 _ _ _ _) (HR.out _ _ (RetPl.err (by rw [HP.out]) (Mem.step (a' := Loc.k4f (w.heap.size + 1) (.int .i64 0) (.int .i64 0) (.int .i64 0) (.int .i64 0)) M.out (K4f.set M.out.1 _ _ _ _) (Chg.set4 _ (w.heap.size + 1) _ _ _ _) (by (repeat' (first | exact True.intro | refine And.intro (fun k hk e => ?_) ?_)) <;> (first | exact e | ((try dsimp only [Loc.c1, Loc.c2, Loc.k1, Loc.k2, Loc.k3, Loc.k4, Loc.k6, Loc.fr, Loc.bl, Loc.own, Loc.sz, Loc.rd, Loc.rdI, Loc.rdS, Loc.rdM, Loc.rdT, Loc.ow, Loc.owI, Loc.owN, Loc.set, Loc.ns, Loc.cg, Loc.pb, silD, plD] at hk e) <;> omega)))).2.2.1.1))
      · rw [if_neg h200] at HP
        have hd : decide ((200 : Int) < l.length) = false := by simp; omega
        have hval := wfB_valid HZW.out
        have hpl := validB_places hval
        obtain ⟨np, hnp⟩ : ∃ k : Nat, n.places = k := ⟨n.places.toNat, by omega⟩
        have HVAL := Lib.hid hval
        have HNP := Lib.hid hnp
        have hnp1 : 1 ≤ np ∧ np ≤ 40 := by omega
        have HP0 := Lib.hid (pl0_pm hval)
        clear hval hpl hnp
        go_wp2_with (first
          | (go_at_call 27; refine (workflow_is HZW.out _ lo hi _ (HV.out.after M.out.2.2.1.1)).mono ?_; rintro e w1 ⟨rfl, hb1⟩; replace M := Lib.hid (M.out.below hb1); clear hb1; replace hkr := M.out.1; replace hk4 := M.out.2.1)
          | (go_at_call 28; refine (named_is HZN.out lo' hi' _ _ (HW.out.after M.out.2.2.1.1)).mono ?_; rintro e w1 ⟨rfl, hb1⟩; replace M := Lib.hid (M.out.below hb1); clear hb1; replace hkr := M.out.1; replace hk4 := M.out.2.1)
          | (go_at_call 29; have hz4 := M.out.2.2.1.1.size; have hz5 := M.out.2.1.2.2.2.2; have hz6 := M.out.1.2.2.2.2.2.2.2.2; refine (initial_own n np _ lo hi _ (HV.out.after M.out.2.2.1.1) HVAL.out HNP.out).mono ?_; rintro e w5 ⟨gm, rfl, hg5, ho5, hb5⟩; have HO5 := Lib.hid ho5; have hs5 := hb5.size; replace M := Lib.hid (M.out.below hb5); replace hkr := M.out.1; replace hk4 := M.out.2.1; clear ho5 hb5))
        obtain ⟨g, hgd⟩ : ∃ g, g = w5.heap.size := ⟨_, rfl⟩
        have hg1 : w.heap.size + 1 < gm := by omega
        have hgm5 : gm < w5.heap.size := by
          obtain ⟨g', cap, hv', _, h5, h6⟩ := Own.blk HO5.out (by simp [oneL]; omega)
          injection hv' with hv' _ _
          injection hv' with hv'
          injection hv' with hv' _ _
          omega
        have hg2 : gm < g := by omega
        have MP : Hid (Mem [Loc.pb (plA n (.slice A n.trans.length c) (.slice (some ⟨gm, 0, none⟩) np np) ((pl0 n)).c (.slice none 0 0) ((pl0 n)).big) g, Loc.owI gm (gm + 1) (.slice (some ⟨gm, 0, none⟩) np np) ((pl0 n)).m, Loc.owI w.heap.size w.heap.size (.slice none 0 0) ((pl0 n)).run, Loc.k4f (w.heap.size + 1) (.int .i64 0) (.int .i64 0) (.int .i64 0) (.int .i64 0), Loc.k4 w.heap.size (.int .i64 n.places) (.slice A n.trans.length c) (.int .i64 n.source) (.int .i64 n.sink), Loc.rdT lo hi (.slice A n.trans.length c) n.trans, Loc.bl w.heap.size w] (w5.alloc (.cells (plA n (.slice A n.trans.length c) (.slice (some ⟨gm, 0, none⟩) np np) (pl0 n).c (.slice none 0 0) (pl0 n).big) 70))) := Lib.hid (by
          have hal := M.out.alloc (.cells (plA n (.slice A n.trans.length c) (.slice (some ⟨gm, 0, none⟩) np np) (pl0 n).c (.slice none 0 0) (pl0 n).big) 70)
          refine ⟨by rw [hgd]; exact heap_new rfl, ?_, Own.nil _ _ _, hal.1, hal.2.1, HV.out.after hal.2.2.1.1, hal.2.2⟩
          have e : (pl0 n).m = oneL np n.source := by unfold pl0; rw [HNP.out]; rfl
          rw [e]
          exact HO5.out.alloc _)
        have HL0 : Hid ((pl0 n).m.length = np) := Lib.hid (by simp [pl0, oneL, HNP.out])
        have hgs : g < w5.heap.size + 1 := by omega
        have HGD := Lib.hid hgd
        clear hgd hz4 hz5 hz6 hg5 hs5
        go_wp2_with fail
        rw [← HGD.out]
        go_loopw [39, 11] (fun v39 _ wr => ∃ (j : Nat) (sj : Pl) (vr : Value) (a0 a1 : Nat), j ≤ l.length ∧ v39 = .int .i64 j ∧ Hid (playL n (l.drop j) sj = playL n l (pl0 n)) ∧ Hid (PM n sj) ∧ Hid (sj.big = false) ∧ Hid (Sm sj (1 + 200 * j)) ∧ Hid (sj.m.length = np) ∧ w.heap.size ≤ a0 ∧ a0 ≤ wr.heap.size ∧ a1 ≤ wr.heap.size ∧ (a1 ≤ w.heap.size ∨ g < a0) ∧ Hid (Mem [Loc.pb (plA n (.slice A n.trans.length c) (.slice (some ⟨gm, 0, none⟩) np np) (sj).c vr (sj).big) g, Loc.owI gm (gm + 1) (.slice (some ⟨gm, 0, none⟩) np np) (sj).m, Loc.owI a0 a1 vr (sj).run, Loc.k4f (w.heap.size + 1) (.int .i64 0) (.int .i64 0) (.int .i64 0) (.int .i64 0), Loc.k4 w.heap.size (.int .i64 n.places) (.slice A n.trans.length c) (.int .i64 n.source) (.int .i64 n.sink), Loc.rdT lo hi (.slice A n.trans.length c) n.trans, Loc.bl w.heap.size w] wr)) (fun v39 _ _ => l.length - (intOf v39).toNat)
        case atStart => exact ⟨0, pl0 n, .slice none 0 0, w.heap.size, w.heap.size, Nat.zero_le _, rfl, Lib.hid rfl, Lib.hid HP0.out.1, Lib.hid HP0.out.2.2, Lib.hid HP0.out.2.1, HL0, Nat.le_refl _, by simp only [World.size_alloc]; omega, by simp only [World.size_alloc]; omega, .inl (Nat.le_refl _), MP⟩
        case round =>
          clear M MP HP0 HL0 HO5 hk4 hkr hgm5 hgs HGD
          obtain ⟨j, sj, vr, a0, a1, hj, rfl, HT, HPM, HBG, HSM, HLN, ha2, ha0, ha1, haw, M⟩ := hrel
          have hk11 := PB.k11 M.out.1
          have hkr := M.out.2.2.2.1
          have hk4 := M.out.2.2.2.2.1
          have hgwr := PB.lt M.out.1
          by_cases hlt : j < l.length
          · obtain ⟨bi, oi, rfl, _, _, hci2⟩ := RdS.at1 (HW.out.after M.out.2.2.2.2.2.2.1.1) hlt
            have HD : Hid (playL n (l.drop j) sj = if (playE n (gti l j) sj).big then none else playL n (l.drop (j + 1)) (playE n (gti l j) sj)) := Lib.hid (by rw [drop_gti hlt]; rfl)
            generalize gti l j = x at *
            have HPY := Lib.hid (play_any n x sj (1 + 200 * j) g gm np np a0 a1 lo hi _ vr wr M.out.2.2.2.2.2.1 HVAL.out HPM.out HBG.out HSM.out (by omega) HLN.out ⟨M.out.1, M.out.2.1, M.out.2.2.1, True.intro⟩ (by omega) (by omega) (by omega) (by omega) (by omega) (by omega) ha1 ha0)
            have HPN := Lib.hid (play_pm (act := x) HVAL.out HPM.out HBG.out HSM.out)
            obtain ⟨sn, hsn⟩ : ∃ y, playE n x sj = y := ⟨_, rfl⟩
            rw [hsn] at HD HPY HPN
            clear hsn
            obtain ⟨zb, hzb⟩ : ∃ z, sn.big = z := ⟨_, rfl⟩
            have HZB := Lib.hid hzb
            rw [hzb] at HD HPY
            clear hzb
            cases zb with
            | true =>
              have HPL : Hid (playL n l (pl0 n) = none) := Lib.hid (by rw [← HT.out, HD.out]; rfl)
              go_wp2_with (go_at_call 30; refine HPY.out.mono ?_; rintro e w6 ⟨vr2, b0, b1, rfl, hM2, hbb, hb0, hb1, hch⟩; replace M : Hid (Mem [Loc.pb _ g, Loc.owI gm (gm + 1) _ sn.m, Loc.owI b0 b1 vr2 sn.run, Loc.k4f (w.heap.size + 1) (.int .i64 0) (.int .i64 0) (.int .i64 0) (.int .i64 0), Loc.k4 w.heap.size (.int .i64 n.places) (.slice A n.trans.length c) (.int .i64 n.source) (.int .i64 n.sink), Loc.rdT lo hi (.slice A n.trans.length c) n.trans, Loc.bl w.heap.size w] w6) := Lib.hid ⟨hM2.1, hM2.2.1, hM2.2.2.1, Mem.chg hch M.out.2.2.2 (by (repeat' (first | exact True.intro | refine And.intro (fun k hk e => ?_) ?_)) <;> (first | exact e | ((try dsimp only [Loc.c1, Loc.c2, Loc.k1, Loc.k2, Loc.k3, Loc.k4, Loc.k6, Loc.fr, Loc.bl, Loc.own, Loc.sz, Loc.rd, Loc.rdI, Loc.rdS, Loc.rdM, Loc.rdT, Loc.ow, Loc.owI, Loc.owN, Loc.set, Loc.ns, Loc.cg, Loc.pb, silD, plD] at hk e) <;> omega)))⟩; have hs6 := hch.size; clear hM2 hch; replace hk11 := PB.k11 M.out.1; replace hkr := M.out.2.2.2.1; replace hk4 := M.out.2.2.2.2.1)
              refine ret_B4_tmp2 rfl rfl rfl rfl rfl (K4f.set M.out.2.2.2.1 _ _ _ _) (HR.out _ _ (RetPl.err (by rw [HP.out, HPL.out]; rfl) (Mem.step (a' := Loc.k4f (w.heap.size + 1) (.int .i64 0) (.int .i64 0) (.int .i64 0) (.int .i64 0)) M.out.2.2.2 (K4f.set M.out.2.2.2.1 _ _ _ _) (Chg.set4 _ (w.heap.size + 1) _ _ _ _) (by (repeat' (first | exact True.intro | refine And.intro (fun k hk e => ?_) ?_)) <;> (first | exact e | ((try dsimp only [Loc.c1, Loc.c2, Loc.k1, Loc.k2, Loc.k3, Loc.k4, Loc.k6, Loc.fr, Loc.bl, Loc.own, Loc.sz, Loc.rd, Loc.rdI, Loc.rdS, Loc.rdM, Loc.rdT, Loc.ow, Loc.owI, Loc.owN, Loc.set, Loc.ns, Loc.cg, Loc.pb, silD, plD] at hk e) <;> omega)))).2.2.2.1.1))
            | false =>
              have HNX : Hid (playL n (l.drop (j + 1)) sn = playL n l (pl0 n)) := Lib.hid (by rw [← HT.out, HD.out]; rfl)
              go_wp2_with (go_at_call 30; refine HPY.out.mono ?_; rintro e w6 ⟨vr2, b0, b1, rfl, hM2, hbb, hb0, hb1, hch⟩; replace M : Hid (Mem [Loc.pb _ g, Loc.owI gm (gm + 1) _ sn.m, Loc.owI b0 b1 vr2 sn.run, Loc.k4f (w.heap.size + 1) (.int .i64 0) (.int .i64 0) (.int .i64 0) (.int .i64 0), Loc.k4 w.heap.size (.int .i64 n.places) (.slice A n.trans.length c) (.int .i64 n.source) (.int .i64 n.sink), Loc.rdT lo hi (.slice A n.trans.length c) n.trans, Loc.bl w.heap.size w] w6) := Lib.hid ⟨hM2.1, hM2.2.1, hM2.2.2.1, Mem.chg hch M.out.2.2.2 (by (repeat' (first | exact True.intro | refine And.intro (fun k hk e => ?_) ?_)) <;> (first | exact e | ((try dsimp only [Loc.c1, Loc.c2, Loc.k1, Loc.k2, Loc.k3, Loc.k4, Loc.k6, Loc.fr, Loc.bl, Loc.own, Loc.sz, Loc.rd, Loc.rdI, Loc.rdS, Loc.rdM, Loc.rdT, Loc.ow, Loc.owI, Loc.owN, Loc.set, Loc.ns, Loc.cg, Loc.pb, silD, plD] at hk e) <;> omega)))⟩; have hs6 := hch.size; clear hM2 hch; replace hk11 := PB.k11 M.out.1; replace hkr := M.out.2.2.2.1; replace hk4 := M.out.2.2.2.2.1)
              exact ⟨⟨j + 1, sn, vr2, b0, b1, by omega, by go_num, HNX, Lib.hid HPN.out.1, HZB, Lib.hid (HPN.out.2.mono (by omega)), Lib.hid (by have h1 := HPN.out.1.len; have h2 := HNP.out; omega), by omega, hb0, hb1, by omega, Lib.hid (by rw [HZB.out]; exact M.out)⟩, by simp [intOf]; omega⟩
          · obtain rfl : j = l.length := by omega
            have HPL : Hid (playL n l (pl0 n) = some sj) := Lib.hid (by rw [← HT.out, List.drop_length]; rfl)
            have HFN := Lib.hid (finish_any n sj (1 + 200 * l.length) g gm np np a0 a1 lo hi _ vr wr M.out.2.2.2.2.2.1 HVAL.out HPM.out HBG.out HSM.out (by omega) HLN.out ⟨M.out.1, M.out.2.1, M.out.2.2.1, True.intro⟩ (by omega) (by omega) (by omega) (by omega) (by omega) (by omega) ha1 ha0)
            have HP2 : Hid (PlayE n l = if (finE n sj).big then (⟨0, 0, 0, 0⟩, [], 6) else ((finE n sj).c, (finE n sj).run, 0)) := Lib.hid (by rw [HP.out, HPL.out]; rfl)
            obtain ⟨sF, hsF⟩ : ∃ y, finE n sj = y := ⟨_, rfl⟩
            rw [hsF] at HFN HP2
            clear hsF
            obtain ⟨zf, hzf⟩ : ∃ z, sF.big = z := ⟨_, rfl⟩
            rw [hzf] at HFN HP2
            clear hzf
            cases zf with
            | true =>
              go_wp2_with (go_at_call 31; refine HFN.out.mono ?_; rintro e w6 ⟨vr2, b0, b1, rfl, hM2, hbb, hb0, hb1, hch⟩; replace M : Hid (Mem [Loc.pb _ g, Loc.owI gm (gm + 1) _ sF.m, Loc.owI b0 b1 vr2 sF.run, Loc.k4f (w.heap.size + 1) (.int .i64 0) (.int .i64 0) (.int .i64 0) (.int .i64 0), Loc.k4 w.heap.size (.int .i64 n.places) (.slice A n.trans.length c) (.int .i64 n.source) (.int .i64 n.sink), Loc.rdT lo hi (.slice A n.trans.length c) n.trans, Loc.bl w.heap.size w] w6) := Lib.hid ⟨hM2.1, hM2.2.1, hM2.2.2.1, Mem.chg hch M.out.2.2.2 (by (repeat' (first | exact True.intro | refine And.intro (fun k hk e => ?_) ?_)) <;> (first | exact e | ((try dsimp only [Loc.c1, Loc.c2, Loc.k1, Loc.k2, Loc.k3, Loc.k4, Loc.k6, Loc.fr, Loc.bl, Loc.own, Loc.sz, Loc.rd, Loc.rdI, Loc.rdS, Loc.rdM, Loc.rdT, Loc.ow, Loc.owI, Loc.owN, Loc.set, Loc.ns, Loc.cg, Loc.pb, silD, plD] at hk e) <;> omega)))⟩; have hs6 := hch.size; clear hM2 hch; replace hk11 := PB.k11 M.out.1; replace hkr := M.out.2.2.2.1; replace hk4 := M.out.2.2.2.2.1)
              refine ret_B4_tmp2 rfl rfl rfl rfl rfl (K4f.set M.out.2.2.2.1 _ _ _ _) (HR.out _ _ (RetPl.err (by rw [HP2.out]; rfl) (Mem.step (a' := Loc.k4f (w.heap.size + 1) (.int .i64 0) (.int .i64 0) (.int .i64 0) (.int .i64 0)) M.out.2.2.2 (K4f.set M.out.2.2.2.1 _ _ _ _) (Chg.set4 _ (w.heap.size + 1) _ _ _ _) (by (repeat' (first | exact True.intro | refine And.intro (fun k hk e => ?_) ?_)) <;> (first | exact e | ((try dsimp only [Loc.c1, Loc.c2, Loc.k1, Loc.k2, Loc.k3, Loc.k4, Loc.k6, Loc.fr, Loc.bl, Loc.own, Loc.sz, Loc.rd, Loc.rdI, Loc.rdS, Loc.rdM, Loc.rdT, Loc.ow, Loc.owI, Loc.owN, Loc.set, Loc.ns, Loc.cg, Loc.pb, silD, plD] at hk e) <;> omega)))).2.2.2.1.1))
            | false =>
              go_wp2_with (go_at_call 31; refine HFN.out.mono ?_; rintro e w6 ⟨vr2, b0, b1, rfl, hM2, hbb, hb0, hb1, hch⟩; replace M : Hid (Mem [Loc.pb _ g, Loc.owI gm (gm + 1) _ sF.m, Loc.owI b0 b1 vr2 sF.run, Loc.k4f (w.heap.size + 1) (.int .i64 0) (.int .i64 0) (.int .i64 0) (.int .i64 0), Loc.k4 w.heap.size (.int .i64 n.places) (.slice A n.trans.length c) (.int .i64 n.source) (.int .i64 n.sink), Loc.rdT lo hi (.slice A n.trans.length c) n.trans, Loc.bl w.heap.size w] w6) := Lib.hid ⟨hM2.1, hM2.2.1, hM2.2.2.1, Mem.chg hch M.out.2.2.2 (by (repeat' (first | exact True.intro | refine And.intro (fun k hk e => ?_) ?_)) <;> (first | exact e | ((try dsimp only [Loc.c1, Loc.c2, Loc.k1, Loc.k2, Loc.k3, Loc.k4, Loc.k6, Loc.fr, Loc.bl, Loc.own, Loc.sz, Loc.rd, Loc.rdI, Loc.rdS, Loc.rdM, Loc.rdT, Loc.ow, Loc.owI, Loc.owN, Loc.set, Loc.ns, Loc.cg, Loc.pb, silD, plD] at hk e) <;> omega)))⟩; have hs6 := hch.size; clear hM2 hch; replace hk11 := PB.k11 M.out.1; replace hkr := M.out.2.2.2.1; replace hk4 := M.out.2.2.2.2.1)
              obtain ⟨Ar, kr, rfl, hkr1, hkr2⟩ := M.out.2.2.1.form
              have hkc : C1 w6 g 5 (.int .i64 sF.c.p) ∧ C1 w6 g 6 (.int .i64 sF.c.c) ∧ C1 w6 g 7 (.int .i64 sF.c.m) ∧ C1 w6 g 8 (.int .i64 sF.c.r) ∧ C1 w6 g 9 (.slice Ar sF.run.length kr) := ⟨hk11.2.2.2.2.2.1, hk11.2.2.2.2.2.2.1, hk11.2.2.2.2.2.2.2.1, hk11.2.2.2.2.2.2.2.2.1, hk11.2.2.2.2.2.2.2.2.2.1⟩
              have HKK : Hid (∀ x y z u : Value, C1 ((((w6.setCell ⟨w.heap.size + 1, 0, none⟩ x).setCell ⟨w.heap.size + 1, 1, none⟩ y).setCell ⟨w.heap.size + 1, 2, none⟩ z).setCell ⟨w.heap.size + 1, 3, none⟩ u) g 5 (.int .i64 sF.c.p) ∧ C1 ((((w6.setCell ⟨w.heap.size + 1, 0, none⟩ x).setCell ⟨w.heap.size + 1, 1, none⟩ y).setCell ⟨w.heap.size + 1, 2, none⟩ z).setCell ⟨w.heap.size + 1, 3, none⟩ u) g 6 (.int .i64 sF.c.c) ∧ C1 ((((w6.setCell ⟨w.heap.size + 1, 0, none⟩ x).setCell ⟨w.heap.size + 1, 1, none⟩ y).setCell ⟨w.heap.size + 1, 2, none⟩ z).setCell ⟨w.heap.size + 1, 3, none⟩ u) g 7 (.int .i64 sF.c.m) ∧ C1 ((((w6.setCell ⟨w.heap.size + 1, 0, none⟩ x).setCell ⟨w.heap.size + 1, 1, none⟩ y).setCell ⟨w.heap.size + 1, 2, none⟩ z).setCell ⟨w.heap.size + 1, 3, none⟩ u) g 8 (.int .i64 sF.c.r) ∧ C1 ((((w6.setCell ⟨w.heap.size + 1, 0, none⟩ x).setCell ⟨w.heap.size + 1, 1, none⟩ y).setCell ⟨w.heap.size + 1, 2, none⟩ z).setCell ⟨w.heap.size + 1, 3, none⟩ u) g 9 (.slice Ar sF.run.length kr)) := Lib.hid (fun x y z u => by
                have h := PB.k11 ((Loc.pb _ g).keep (Chg.set4 w6 (w.heap.size + 1) x y z u) (by intro k hk hd; have h1 : k = g := hk; have h2 : k = w.heap.size + 1 := hd; omega) M.out.1)
                exact ⟨h.2.2.2.2.2.1, h.2.2.2.2.2.2.1, h.2.2.2.2.2.2.2.1, h.2.2.2.2.2.2.2.2.1, h.2.2.2.2.2.2.2.2.2.1⟩)
              clear hk4 hk11
              go_region_held3 (fun W => C1 W g 5 (.int .i64 sF.c.p) ∧ C1 W g 6 (.int .i64 sF.c.c) ∧ C1 W g 7 (.int .i64 sF.c.m) ∧ C1 W g 8 (.int .i64 sF.c.r) ∧ C1 W g 9 (.slice Ar sF.run.length kr)) (first | exact hkc | exact HKK.out _ _ _ _) (fail)
              go_wp2_with fail
              have MS := Mem.chg (Chg.set4 w6 (w.heap.size + 1) (.int .i64 sF.c.p) (.int .i64 sF.c.c) (.int .i64 sF.c.m) (.int .i64 sF.c.r)) (show Mem [Loc.owI b0 b1 (.slice Ar sF.run.length kr) sF.run, Loc.bl w.heap.size w] w6 from ⟨M.out.2.2.1, M.out.2.2.2.2.2.2.1, True.intro⟩) (by (repeat' (first | exact True.intro | refine And.intro (fun k hk e => ?_) ?_)) <;> (first | exact e | ((try dsimp only [Loc.c1, Loc.c2, Loc.k1, Loc.k2, Loc.k3, Loc.k4, Loc.k6, Loc.fr, Loc.bl, Loc.own, Loc.sz, Loc.rd, Loc.rdI, Loc.rdS, Loc.rdM, Loc.rdT, Loc.ow, Loc.owI, Loc.owN, Loc.set, Loc.ns, Loc.cg, Loc.pb, silD, plD] at hk e) <;> omega)))
              refine ret_B4_tmp2 rfl rfl rfl rfl rfl (K4f.set M.out.2.2.2.1 _ _ _ _) (HR.out _ _ ⟨Ar, kr, by rw [HP2.out]; rfl, ?_, by first | exact MS.2.1.1 | exact MS.drew.2.1.1⟩)
              rw [HP2.out]
              first | exact (Own.rd MS.1).mono (by omega) (by simp only [size_setCell, heap_drew]; exact hb1) | exact (Own.rd MS.drew.1).mono (by omega) (by simp only [size_setCell, heap_drew]; exact hb1)
end Go.Proofs.Ytmhbfoaecebobaa
end
section
namespace Go.Proofs.Ytmhbfoaecebobaa
set_option linter.unusedSimpArgs false
set_option linter.unusedVariables false

structure Fr where
  n : Int
  d : Int
deriving DecidableEq

/-- the fraction of an integer -/
def Fr.of (k : Int) : Fr := ⟨k, 1⟩

def Fr.ok (a : Fr) : Prop := -1073741824 ≤ a.n ∧ a.n ≤ 1073741824 ∧ 1 ≤ a.d ∧ a.d ≤ 1073741824 ∧ Int.gcd a.n a.d = 1
instance (a : Fr) : Decidable a.ok := by unfold Fr.ok; infer_instance
/-- the normal form of n / d, d not 0 -/
def nf (n d : Int) : Fr := ⟨Int.sign d * (n / (Int.gcd n d : Int)), (d.natAbs : Int) / (Int.gcd n d : Int)⟩
def Fr.fits (a : Fr) : Bool := decide (-1073741824 ≤ a.n ∧ a.n ≤ 1073741824 ∧ a.d ≤ 1073741824)
def mkF (n d : Int) : Option Fr := if (nf n d).fits then some (nf n d) else none

/-- a fraction and an error number -/
structure FE where
  n : Int
  d : Int
  e : Int
def FE.of : Option Fr → FE
  | some a => ⟨a.n, a.d, 0⟩
  | none => ⟨0, 0, 6⟩
def FE.err (e : Int) : FE := ⟨0, 0, e⟩

theorem mul_bd (a b : Int) (h1 : -1073741824 ≤ a) (h2 : a ≤ 1073741824) (h3 : 0 ≤ b) (h4 : b ≤ 1073741824) : -1152921504606846976 ≤ a * b ∧ a * b ≤ 1152921504606846976 := by
  have e1 : a * b ≤ 1073741824 * b := Int.mul_le_mul_of_nonneg_right h2 h3
  have e2 : -1073741824 * b ≤ a * b := Int.mul_le_mul_of_nonneg_right h1 h3
  omega
theorem mul_bd' (a b : Int) (h1 : -1073741824 ≤ a) (h2 : a ≤ 1073741824) (h3 : -1073741824 ≤ b) (h4 : b ≤ 1073741824) : -1152921504606846976 ≤ a * b ∧ a * b ≤ 1152921504606846976 := by
  rcases Int.le_total 0 b with h | h
  · exact mul_bd a b h1 h2 h h4
  · have := mul_bd a (-b) h1 h2 (by omega) (by omega)
    rw [Int.mul_neg] at this
    omega
end Go.Proofs.Ytmhbfoaecebobaa
end
section
namespace Go.Proofs.Ytmhbfoaecebobaa
set_option linter.unusedSimpArgs false
set_option linter.unusedVariables false
open Go.RowKit

set_option maxHeartbeats 400000 in
theorem abs_any (a : Int) (w : World) (h1 : -4611686018427387904 ≤ a) (h2 : a ≤ 4611686018427387904) :
    Calls Try.prog 82 #[.int .i64 a] w fun e w' => e = .returned (.int .u64 (a.natAbs : Int)) ∧ w = w' := by
  by_cases h : a < 0
  · go_enter Try.func82, Try.ntmps82
    go_wp2
    go_ret
    exact ⟨by simp [IntKind.wrap_u64]; omega, rfl⟩
  · go_enter Try.func82, Try.ntmps82
    go_wp2
    go_ret
    exact ⟨by simp; omega, rfl⟩

theorem fit_nf (neg : Bool) (num den : Nat) (hd : 0 < den) : nf (if neg then -(num : Int) else num) den = ⟨if neg then -((num / Nat.gcd num den : Nat) : Int) else ((num / Nat.gcd num den : Nat) : Int), ((den / Nat.gcd num den : Nat) : Int)⟩ := by
  have hs : Int.sign (den : Int) = 1 := Int.sign_eq_one_of_pos (by omega)
  cases neg
  · simp [nf, hs, Int.gcd]
  · simp only [nf, hs, Int.gcd, if_true, Int.natAbs_neg, Int.natAbs_natCast, Int.one_mul]
    congr 1
    exact Int.neg_ediv_of_dvd (by rw [Int.natCast_dvd_natCast]; exact Nat.gcd_dvd_left ..)

theorem mkF_fit (neg : Bool) (num den x y : Nat) (hd : 0 < den) (hx : num / Nat.gcd num den = x) (hy : den / Nat.gcd num den = y) :
    mkF (if neg then -(num : Int) else num) den = if x ≤ 1073741824 ∧ y ≤ 1073741824 then some ⟨if neg then -(x : Int) else x, y⟩ else none := by
  unfold mkF
  rw [fit_nf neg num den hd, hx, hy]
  by_cases h : x ≤ 1073741824 ∧ y ≤ 1073741824
  · rw [if_pos h, if_pos]
    simp only [Fr.fits, decide_eq_true_eq]
    cases neg <;> simp <;> omega
  · rw [if_neg h, if_neg]
    simp only [Fr.fits, decide_eq_true_eq]
    cases neg <;> simp <;> omega

set_option maxHeartbeats 1000000 in
theorem fit_any (neg : Bool) (num den : Nat) (w : World) (hd : 0 < den) (h1 : num ≤ 9223372036854775808) (h2 : den ≤ 9223372036854775808) :
    Calls Try.prog 81 #[.bool neg, .int .u64 num, .int .u64 den] w fun e w' => e = .returned (.tuple #[.agg #[.int .i64 (FE.of (mkF (if neg then -(num : Int) else num) den)).n, .int .i64 (FE.of (mkF (if neg then -(num : Int) else num) den)).d], .int .i64 (FE.of (mkF (if neg then -(num : Int) else num) den)).e]) ∧ Below w.heap.size w w' := by
  refine calls_cps fun R hR => ?_
  have HR := Lib.hid hR
  clear hR
  go_enter Try.func81, Try.ntmps81
  go_wp2
  go_loopw [8, 9] (fun x y wr => ∃ p q : Nat, p ≤ 9223372036854775808 ∧ q ≤ 9223372036854775808 ∧ x = .int .u64 p ∧ y = .int .u64 q ∧ Nat.gcd p q = Nat.gcd num den ∧ ∃ n, wr = (w.alloc (.cells #[.int .i64 0, .int .i64 0] 39)).drewN n) (fun _ y _ => (intOf y).toNat)
  case atStart => exact ⟨num, den, h1, h2, rfl, rfl, rfl, 0, rfl⟩
  case round =>
    obtain ⟨p, q, hp', hq', rfl, rfl, hg, n, rfl⟩ := hrel
    by_cases h0 : q = 0
    · subst h0
      simp only [Nat.gcd_zero_right] at hg
      have hp0 : 0 < p := by rw [hg]; exact Nat.gcd_pos_of_pos_right _ hd
      obtain ⟨x, hx⟩ : ∃ x, num / p = x := ⟨_, rfl⟩
      obtain ⟨y, hy⟩ : ∃ y, den / p = y := ⟨_, rfl⟩
      have hx1 : x ≤ 9223372036854775808 := by have := Nat.div_le_self num p; omega
      have hy1 : y ≤ 9223372036854775808 := by have := Nat.div_le_self den p; omega
      have HF := Lib.hid (mkF_fit neg num den x y hd (by rw [← hg]; exact hx) (by rw [← hg]; exact hy))
      have wx : IntKind.u64.wrap ((num : Int) / (p : Int)) = (x : Int) := by rw [IntKind.wrap_u64, ← Int.natCast_ediv, hx]; omega
      have wy : IntKind.u64.wrap ((den : Int) / (p : Int)) = (y : Int) := by rw [IntKind.wrap_u64, ← Int.natCast_ediv, hy]; omega
      have hne : (((p : Nat) : Int) == 0) = false := by simp; omega
      clear hg hx hy
      go_wp2
      go_quiet (fail)
      clear wx wy
      by_cases hbx : (1073741824 : Int) < x
      · go_wp2
        refine bodyPost_ret (v := .tuple #[.agg #[.int .i64 0, .int .i64 0], .int .i64 6]) (by simp [results, Try.results81, go_sem]) rfl (HR.out _ _ ⟨?_, ?_⟩)
        · rw [HF.out, if_neg (by omega)]; rfl
        · (repeat (first | exact Below.refl _ _ | assumption | refine Below.setCell ?_ (by first | omega | (simp; done) | (simp; omega)) _ | refine Below.alloc ?_ (by first | omega | (simp; done) | (simp; omega)) _ | refine Below.drew ?_ | refine below_drewN ?_ _))
      · by_cases hby : (1073741824 : Int) < y
        · have hbx' : decide ((1073741824 : Int) < x) = false := by simpa using hbx
          go_wp2
          refine bodyPost_ret (v := .tuple #[.agg #[.int .i64 0, .int .i64 0], .int .i64 6]) (by simp [results, Try.results81, go_sem]) rfl (HR.out _ _ ⟨?_, ?_⟩)
          · rw [HF.out, if_neg (by omega)]; rfl
          · (repeat (first | exact Below.refl _ _ | assumption | refine Below.setCell ?_ (by first | omega | (simp; done) | (simp; omega)) _ | refine Below.alloc ?_ (by first | omega | (simp; done) | (simp; omega)) _ | refine Below.drew ?_ | refine below_drewN ?_ _))
        · have hbx' : decide ((1073741824 : Int) < x) = false := by simpa using hbx
          have hby' : decide ((1073741824 : Int) < y) = false := by simpa using hby
          cases neg
          · go_wp2
            refine bodyPost_ret (v := .tuple #[.agg #[.int .i64 x, .int .i64 y], .int .i64 0]) (by simp [results, Try.results81, go_sem]) rfl (HR.out _ _ ⟨?_, ?_⟩)
            · rw [HF.out, if_pos (by omega)]; rfl
            · (repeat (first | exact Below.refl _ _ | assumption | refine Below.setCell ?_ (by first | omega | (simp; done) | (simp; omega)) _ | refine Below.alloc ?_ (by first | omega | (simp; done) | (simp; omega)) _ | refine Below.drew ?_ | refine below_drewN ?_ _))
          · go_wp2
            refine bodyPost_ret (v := .tuple #[.agg #[.int .i64 (-x), .int .i64 y], .int .i64 0]) (by simp [results, Try.results81, go_sem]) rfl (HR.out _ _ ⟨?_, ?_⟩)
            · rw [HF.out, if_pos (by omega)]; rfl
            · (repeat (first | exact Below.refl _ _ | assumption | refine Below.setCell ?_ (by first | omega | (simp; done) | (simp; omega)) _ | refine Below.alloc ?_ (by first | omega | (simp; done) | (simp; omega)) _ | refine Below.drew ?_ | refine below_drewN ?_ _))
    · have HG := Lib.hid hg
      clear hg
      have hne : (((q : Nat) : Int) != 0) = true := by simp; omega
      have hne2 : (((q : Nat) : Int) == 0) = false := by simp; omega
      go_wp2
      go_quiet (fail)
      go_wp2
      have hlt : p % q < q := Nat.mod_lt _ (by omega)
      go_roundw
      case rel => exact ⟨q, p % q, hq', by omega, rfl, by rw [Int.natCast_emod], by rw [← HG.out, Nat.gcd_comm q, ← Nat.gcd_rec, Nat.gcd_comm], n + nq, by rw [World.drewN_drewN]⟩
      case measure => simp only [intOf]; omega

end Go.Proofs.Ytmhbfoaecebobaa
end
section
namespace Go.Proofs.Ytmhbfoaecebobaa
set_option linter.unusedSimpArgs false
set_option linter.unusedVariables false
open Go.RowKit

def makeE (n d : Int) : FE := if d = 0 then FE.err 7 else FE.of (mkF n d)

end Go.Proofs.Ytmhbfoaecebobaa
end
