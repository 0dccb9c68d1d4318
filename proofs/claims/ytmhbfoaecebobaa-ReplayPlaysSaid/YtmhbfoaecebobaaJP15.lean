/-
  Texts joined: Play2, Play3, Play4. Conditions: none.
-/
import Derived.Test.YtmhbfoaecebobaaJP14
section
namespace Go.Proofs.Ytmhbfoaecebobaa
set_option linter.unusedSimpArgs false
set_option linter.unusedVariables false
open Go.RowKit

theorem PM.c_ge {n : Net} {s : Pl} (h : PM n s) : 0 ≤ s.c.p ∧ 0 ≤ s.c.c ∧ 0 ≤ s.c.m := ⟨h.small.2.1, h.small.1, h.c0⟩
/-- the counters are small enough for k transitions more -/
structure Sm (s : Pl) (B : Nat) : Prop where
  p : s.c.p ≤ 40 * B
  c : s.c.c ≤ 40 * B
  r : s.c.r ≤ 40 * B
  l : s.run.length ≤ B
theorem Sm.take {n : Net} {s : Pl} {B : Nat} (h : Sm s B) (hv : validB n = true) {t : Nat} (ht : t < n.trans.length) : Sm (takeP n t s) (B + 1) := by
  obtain ⟨_, _, h1, h2⟩ := trans_in hv ht
  obtain ⟨h3, h4, h5, h6⟩ := takeP_c n t s
  rw [Int.toNat_natCast] at h3 h4
  refine ⟨?_, ?_, ?_, ?_⟩
  · rw [h4]; have := h.p; omega
  · rw [h3]; have := h.c; omega
  · rw [h5]; have := h.r; omega
  · rw [h6]; have := h.l; simp; omega
theorem Sm.all {n : Net} (hv : validB n = true) : ∀ {l : List Int} {s : Pl} {B : Nat}, Sm s B → (∀ t ∈ l, 0 ≤ t ∧ t < n.trans.length) → Sm (takeAll n l s) (B + l.length)
  | [], s, B, h, _ => h
  | t :: l, s, B, h, ht => by
    obtain ⟨h0, h1⟩ := ht t (List.mem_cons_self ..)
    obtain ⟨k, rfl⟩ : ∃ k : Nat, t = k := ⟨t.toNat, by omega⟩
    have := Sm.all hv (l := l) (h.take hv (t := k) (by omega)) (fun u hu => ht u (List.mem_cons_of_mem _ hu))
    rw [takeAll]
    have e : B + 1 + l.length = B + (↑k :: l).length := by simp; omega
    rw [← e]
    exact this
theorem PM.all {n : Net} (hv : validB n = true) : ∀ {l : List Int} {s : Pl}, PM n s → (∀ t ∈ l, 0 ≤ t ∧ t < n.trans.length) → PM n (takeAll n l s)
  | [], s, h, _ => h
  | t :: l, s, h, ht => PM.all hv (l := l) (s := takeP n t s) (h.take hv (ht t (List.mem_cons_self ..)).1 (ht t (List.mem_cons_self ..)).2) (fun u hu => ht u (List.mem_cons_of_mem _ hu))

set_option maxRecDepth 100000 in
set_option maxHeartbeats 2000000 in
theorem takeAll_any (n : Net) (s : Pl) (l : List Int) (B g gm np cm r0 r1 lo hi lw hw : Nat) (vt vr vl : Value) (w : World) (hv : RdT w lo hi vt n.trans) (hval : validB n = true) (hl : ∀ t ∈ l, 0 ≤ t ∧ t < n.trans.length) (hpm : PM n s) (hsm : Sm s B) (hB : B + l.length ≤ 900000)
    (hnp : s.m.length = np) (hM : Mem [Loc.pb (plA n (vt) (.slice (some ⟨gm, 0, none⟩) np cm) (s).c vr (s).big) g, Loc.owI gm (gm + 1) (.slice (some ⟨gm, 0, none⟩) np cm) (s).m, Loc.owI r0 r1 vr (s).run] w) (hg : g ≠ gm) (hgr : g < r0 ∨ r1 ≤ g) (hmr : gm < r0 ∨ r1 ≤ gm) (h1 : hi ≤ g) (h2 : hi ≤ gm) (h3 : hi ≤ r0) (h4 : r1 ≤ w.heap.size) (h5 : r0 ≤ w.heap.size)
    (hvl : RdI w lw hw vl l) (h6 : g < lw) (h7 : gm < lw) (h8 : r1 ≤ lw) (h9 : hw ≤ w.heap.size) :
    Calls Try.prog 74 #[.pointer (some ⟨g, 0, none⟩), vl] w fun e w' => ∃ vr' r0' r1', e = .returned (.tuple #[]) ∧ Mem [Loc.pb (plA n (vt) (.slice (some ⟨gm, 0, none⟩) np cm) (takeAll n l s).c vr' (takeAll n l s).big) g, Loc.owI gm (gm + 1) (.slice (some ⟨gm, 0, none⟩) np cm) (takeAll n l s).m, Loc.owI r0' r1' vr' (takeAll n l s).run] w' ∧ (r0' = r0 ∧ r1' = r1 ∨ w.heap.size ≤ r0') ∧ r0' ≤ w'.heap.size ∧ r1' ≤ w'.heap.size ∧ Chg (plD g gm r0 r1) w w' := by
  obtain ⟨A, c, rfl, hc, hmm⟩ := hvl.form
  have M : Hid (Mem [Loc.pb (plA n (vt) (.slice (some ⟨gm, 0, none⟩) np cm) (s).c vr (s).big) g, Loc.owI gm (gm + 1) (.slice (some ⟨gm, 0, none⟩) np cm) (s).m, Loc.owI r0 r1 vr (s).run, Loc.rdI lw hw (.slice A l.length c) l, Loc.rdT lo hi vt n.trans, Loc.cg (plD g gm r0 r1) w] w) := Lib.hid ⟨hM.1, hM.2.1, hM.2.2.1, hvl, hv, Chg.refl _ _, True.intro⟩
  have hgw : g < w.heap.size := PB.lt hM.1
  have hgmw : gm < w.heap.size := by
    have hnz := validB_places hval
    have hln := hpm.len
    obtain ⟨g', cap, hv', _, h5, h6⟩ := Own.blk hM.2.1 (by omega)
    injection hv' with hv' _ _
    injection hv' with hv'
    injection hv' with hv' _ _
    omega
  have HL := Lib.hid hl
  have HPM := Lib.hid hpm
  have HSM := Lib.hid hsm
  have HVAL := Lib.hid hval
  have HNP := Lib.hid hnp
  have HNL := Lib.hid (validB_places hval)
  clear hM hvl hv hl hpm hsm hval hnp
  refine calls_cps fun R hR => ?_
  have HR := Lib.hid hR
  clear hR
  go_enter Try.func74, Try.ntmps74
  go_wp2_with fail
  go_loopw [8, 5] (fun v8 _ wr => ∃ (j : Nat) (sj : Pl) (vrj : Value) (a0 a1 : Nat), j ≤ l.length ∧ v8 = .int .i64 j ∧ Hid (takeAll n (l.drop j) sj = takeAll n l s) ∧ Hid (PM n sj) ∧ Hid (Sm sj (B + j)) ∧ Hid (sj.m.length = np) ∧ (a0 = r0 ∧ a1 = r1 ∨ w.heap.size ≤ a0) ∧ a0 ≤ wr.heap.size ∧ a1 ≤ wr.heap.size ∧ Hid (Mem [Loc.pb (plA n (vt) (.slice (some ⟨gm, 0, none⟩) np cm) (sj).c vrj (sj).big) g, Loc.owI gm (gm + 1) (.slice (some ⟨gm, 0, none⟩) np cm) (sj).m, Loc.owI a0 a1 vrj (sj).run, Loc.rdI lw hw (.slice A l.length c) l, Loc.rdT lo hi vt n.trans, Loc.cg (plD g gm r0 r1) w] wr)) (fun v8 _ _ => l.length - (intOf v8).toNat)
  case atStart => exact ⟨0, s, vr, r0, r1, Nat.zero_le _, rfl, Lib.hid (by simp), HPM, HSM, HNP, .inl ⟨rfl, rfl⟩, h5, h4, M⟩
  case round =>
    clear M HPM HSM HNP
    obtain ⟨j, sj, vrj, a0, a1, hj, rfl, HT, HPM, HSM, HNP, haa, ha0, ha1, M⟩ := hrel
    by_cases hlt : j < l.length
    · have hkr := HL.out (gti l j) (gti_mem hlt)
      have HD : Hid (takeAll n (l.drop j) sj = takeAll n (l.drop (j + 1)) (takeP n (gti l j) sj)) := Lib.hid (by rw [drop_gti hlt]; rfl)
      obtain ⟨bi, oi, rfl, _, _, hci2⟩ := RdI.at1 M.out.2.2.2.1 hlt
      obtain ⟨kk, hkk⟩ : ∃ k : Nat, gti l j = k := ⟨(gti l j).toNat, by omega⟩
      rw [hkk] at HD hci2 hkr
      clear hkk
      have hkt : kk < n.trans.length := by omega
      have HTC := Lib.hid (take_any n sj kk g gm np cm a0 a1 lo hi vt vrj wr M.out.2.2.2.2.1 HVAL.out hkt HPM.out.pt (by have := HSM.out.p; omega) (by have := HSM.out.c; omega) (by have := HSM.out.l; omega) HNP.out ⟨M.out.1, M.out.2.1, M.out.2.2.1, True.intro⟩ hg (by omega) (by omega) h1 h2 (by omega) ha1 ha0)
      have HPn := Lib.hid (HPM.out.take HVAL.out hkr.1 hkr.2)
      have HSn := Lib.hid (HSM.out.take HVAL.out hkt)
      have hsw := M.out.2.2.2.2.2.1.size
      go_wp2_with (go_at_call 75; refine HTC.out.mono ?_; rintro e w1 ⟨vr2, b0, b1, rfl, hM2, hbb, hb0, hb1, hch⟩; have M2 : Hid (Mem [Loc.pb (plA n (vt) (.slice (some ⟨gm, 0, none⟩) np cm) (takeP n kk sj).c vr2 (takeP n kk sj).big) g, Loc.owI gm (gm + 1) (.slice (some ⟨gm, 0, none⟩) np cm) (takeP n kk sj).m, Loc.owI b0 b1 vr2 (takeP n kk sj).run, Loc.rdI lw hw (.slice (some ⟨bi, oi, none⟩) l.length c) l, Loc.rdT lo hi vt n.trans, Loc.cg (plD g gm r0 r1) w] w1) := Lib.hid ⟨hM2.1, hM2.2.1, hM2.2.2.1, Mem.chg hch M.out.2.2.2 (by (repeat' (first | exact True.intro | refine And.intro (fun k hk e => ?_) ?_)) <;> (first | exact e | ((try dsimp only [Loc.c1, Loc.c2, Loc.k1, Loc.k2, Loc.k3, Loc.k4, Loc.k6, Loc.fr, Loc.bl, Loc.own, Loc.sz, Loc.rd, Loc.rdI, Loc.rdS, Loc.rdM, Loc.rdT, Loc.ow, Loc.owI, Loc.owN, Loc.set, Loc.ns, Loc.cg, Loc.pb, silD, plD] at hk e) <;> omega)))⟩; have hs2 := hch.size; clear hM2 hch)
      refine ⟨⟨j + 1, takeP n kk sj, vr2, b0, b1, by omega, by go_num, Lib.hid (HD.out ▸ HT.out), HPn, HSn, Lib.hid (by have h1 := HPn.out.len; have h2 := HPM.out.len; have h3 := HNP.out; omega), by omega, hb0, hb1, M2⟩, by simp [intOf]; omega⟩
    · obtain rfl : j = l.length := by omega
      have HT1 : Hid (sj = takeAll n l s) := Lib.hid (by have := HT.out; rw [List.drop_length] at this; exact this)
      go_wp2_with fail
      go_end0
      refine HR.out _ _ ⟨vrj, a0, a1, rfl, ?_, haa, ha0, ha1, M.out.2.2.2.2.2.1⟩
      rw [← HT1.out]
      exact ⟨M.out.1, M.out.2.1, M.out.2.2.1, True.intro⟩
end Go.Proofs.Ytmhbfoaecebobaa
end
section
namespace Go.Proofs.Ytmhbfoaecebobaa
set_option linter.unusedSimpArgs false
set_option linter.unusedVariables false
open Go.RowKit

theorem firstAt_lt {α : Type} {p : α → Bool} {l : List α} (h : 0 ≤ firstAt p l) : firstAt p l < l.length := by
  unfold firstAt at h ⊢
  split
  · rename_i i hi
    obtain ⟨hlt, _⟩ := List.findIdx?_eq_some_iff_getElem.1 hi
    first | omega | (simp only; omega) | (show (i : Int) < l.length; omega)
  · rename_i hn; rw [hn] at h; exact absurd h (by simp)
theorem Sm.mono {s : Pl} {B B' : Nat} (h : Sm s B) (hb : B ≤ B') : Sm s B' := ⟨by have := h.p; omega, by have := h.c; omega, by have := h.r; omega, by have := h.l; omega⟩
theorem runTo_rg {n : Net} : ∀ {l m m' : List Int}, runTo n m l = some m' → ∀ t ∈ l, 0 ≤ t ∧ t < n.trans.length
  | [], m, m', _, t, ht => by simp at ht
  | a :: l, m, m', h, t, ht => by
    rw [runTo] at h
    split at h
    · rename_i hc
      rcases List.mem_cons.1 ht with rfl | ht
      · exact ⟨hc.1, hc.2.1⟩
      · exact runTo_rg h t ht
    · cases h
def plUnk (s : Pl) : Pl := ⟨s.m, ⟨s.c.p + 1, s.c.c + 1, s.c.m + 1, s.c.r + 1⟩, s.run, s.big⟩
theorem PM.unk {n : Net} {s : Pl} (h : PM n s) : PM n (plUnk s) :=
  ⟨h.len, h.nn, h.ok, by have := h.c0; simp only [plUnk]; omega, by have := h.mc; simp only [plUnk]; omega, by have := h.r0; simp only [plUnk]; omega, by have := h.bal; simp only [plUnk]; omega, h.rg⟩
theorem Sm.unk {s : Pl} {B : Nat} (h : Sm s B) : Sm (plUnk s) (B + 1) :=
  ⟨by have := h.p; simp only [plUnk]; omega, by have := h.c; simp only [plUnk]; omega, by have := h.r; simp only [plUnk]; omega, by have := h.l; simp only [plUnk]; omega⟩
/-- what is true after an activity -/
theorem play_pm {n : Net} {act : ByteArray} {s : Pl} {B : Nat} (hv : validB n = true) (h : PM n s) (hb : s.big = false) (hs : Sm s B) : PM n (playE n act s) ∧ Sm (playE n act s) (B + 200) := by
  unfold playE
  cases hw : silE n (goodA n act) s.m with
  | some way =>
    obtain ⟨m', h1, h2, h3, h4⟩ := silE_some (h.ok hb) hw
    obtain ⟨a1, a2, a3, a4, a5⟩ := takeAll_run hv h hb h1
    have hg : 0 ≤ enabledAt n (takeAll n way s).m act := by rw [a2]; unfold goodA at h2; simpa using h2
    have hlt := firstAt_lt hg
    obtain ⟨k, hk⟩ : ∃ k : Nat, enabledAt n (takeAll n way s).m act = k := ⟨(enabledAt n (takeAll n way s).m act).toNat, by omega⟩
    have hkl : k < n.trans.length := by unfold enabledAt at hk; omega
    simp only
    rw [hk]
    exact ⟨a1.take hv (by omega) (by omega), ((Sm.all hv hs (runTo_rg h1)).take hv hkl).mono (by omega)⟩
  | none =>
    simp only
    split
    · rename_i hl
      have hlt := firstAt_lt hl
      obtain ⟨k, hk⟩ : ∃ k : Nat, labAt n act = k := ⟨(labAt n act).toNat, by omega⟩
      have hkl : k < n.trans.length := by unfold labAt at hk; omega
      rw [hk]
      exact ⟨h.take hv (by omega) (by omega), (hs.take hv hkl).mono (by omega)⟩
    · exact ⟨h.unk, hs.unk.mono (by omega)⟩

set_option maxRecDepth 100000 in
set_option maxHeartbeats 4000000 in
theorem play_any (n : Net) (act : ByteArray) (s : Pl) (B g gm np cm r0 r1 lo hi : Nat) (vt vr : Value) (w : World) (hv : RdT w lo hi vt n.trans) (hval : validB n = true) (hpm : PM n s) (hbig : s.big = false) (hsm : Sm s B) (hB : B ≤ 800000)
    (hnp : s.m.length = np) (hM : Mem [Loc.pb (plA n (vt) (.slice (some ⟨gm, 0, none⟩) np cm) (s).c vr (s).big) g, Loc.owI gm (gm + 1) (.slice (some ⟨gm, 0, none⟩) np cm) (s).m, Loc.owI r0 r1 vr (s).run] w) (hg : g ≠ gm) (hgr : g < r0 ∨ r1 ≤ g) (hmr : gm < r0 ∨ r1 ≤ gm) (h1 : hi ≤ g) (h2 : hi ≤ gm) (h3 : hi ≤ r0) (h4 : r1 ≤ w.heap.size) (h5 : r0 ≤ w.heap.size) :
    Calls Try.prog 30 #[.pointer (some ⟨g, 0, none⟩), .string act] w fun e w' => ∃ vr' r0' r1', e = .returned (.tuple #[]) ∧ Mem [Loc.pb (plA n (vt) (.slice (some ⟨gm, 0, none⟩) np cm) (playE n act s).c vr' (playE n act s).big) g, Loc.owI gm (gm + 1) (.slice (some ⟨gm, 0, none⟩) np cm) (playE n act s).m, Loc.owI r0' r1' vr' (playE n act s).run] w' ∧ (r0' = r0 ∧ r1' = r1 ∨ w.heap.size ≤ r0') ∧ r0' ≤ w'.heap.size ∧ r1' ≤ w'.heap.size ∧ Chg (plD g gm r0 r1) w w' := by
  have hmark := hpm.ok hbig
  have hgw : g < w.heap.size := PB.lt hM.1
  have hgmw : gm < w.heap.size := by
    have hnz := validB_places hval
    have hln := hpm.len
    obtain ⟨g', cap, hv', _, h5, h6⟩ := Own.blk hM.2.1 (by omega)
    injection hv' with hv' _ _
    injection hv' with hv'
    injection hv' with hv' _ _
    omega
  have hb0 : Below w.heap.size w ((w.alloc (.cells #[.pointer (some ⟨g, 0, none⟩)] 68)).alloc (.cells #[.string act] 9)) := ((Below.refl _ _).alloc (Nat.le_refl _) _).alloc (by simp) _
  have M : Hid (Mem [Loc.pb (plA n (vt) (.slice (some ⟨gm, 0, none⟩) np cm) (s).c vr (s).big) g, Loc.owI gm (gm + 1) (.slice (some ⟨gm, 0, none⟩) np cm) (s).m, Loc.owI r0 r1 vr (s).run, Loc.c1 w.heap.size 0 (.pointer (some ⟨g, 0, none⟩)), Loc.c1 (w.heap.size + 1) 0 (.string act), Loc.rdT lo hi vt n.trans, Loc.cg (plD g gm r0 r1) w] ((w.alloc (.cells #[.pointer (some ⟨g, 0, none⟩)] 68)).alloc (.cells #[.string act] 9))) := Lib.hid (by
    have hal := hM.below hb0
    exact ⟨hal.1, hal.2.1, hal.2.2.1, by simp [C1, go_sem], by simp [C1, go_sem], hv.after hb0, ⟨hb0.os, hb0.tape, hb0.output, hb0.size, fun k hk _ => hb0.block k hk⟩, True.intro⟩)
  have HSI : Hid (∀ W, Mem [Loc.pb (plA n (vt) (.slice (some ⟨gm, 0, none⟩) np cm) (s).c vr (s).big) g, Loc.owI gm (gm + 1) (.slice (some ⟨gm, 0, none⟩) np cm) (s).m, Loc.owI r0 r1 vr (s).run, Loc.c1 w.heap.size 0 (.pointer (some ⟨g, 0, none⟩)), Loc.c1 (w.heap.size + 1) 0 (.string act), Loc.rdT lo hi vt n.trans, Loc.cg (plD g gm r0 r1) w] W → Calls Try.prog 71 #[netV n vt, .slice (some ⟨gm, 0, none⟩) np cm, .func (.func 72) #[] #[.pointer (some ⟨w.heap.size, 0, none⟩), .pointer (some ⟨w.heap.size + 1, 0, none⟩)]] W (RetW W (silE n (goodA n act) s.m))) :=
    Lib.hid (fun W hW => silent_any n s.m vt _ lo hi gm (gm + 1) 72 ent_play1 #[.pointer (some ⟨w.heap.size, 0, none⟩), .pointer (some ⟨w.heap.size + 1, 0, none⟩)] (goodA n act) W hW.2.2.2.2.2.1 (Own.rd hW.2.1) hmark (by have := hW.2.2.2.2.2.2.1.size; omega)
      (fun x lo2 hi2 v W2 hx hb2 hr2 => play1_any n x act g _ _ lo hi lo2 hi2 vt v W2 (cell_aft hb2 hW.2.2.2.1) (cell_aft hb2 hW.2.2.2.2.1) (cell_aft hb2 (PB.k11 hW.1).2.1) (hW.2.2.2.2.2.1.after hb2) hr2 (InOk.of hval (markB_len hx).2.2)))
  have HVAL := Lib.hid hval
  have HPM := Lib.hid hpm
  have HSM := Lib.hid hsm
  have HNP := Lib.hid hnp
  have HMK := Lib.hid hmark
  have HBG := Lib.hid hbig
  obtain ⟨A, c, rfl, hc, hmm⟩ := hv.form
  clear hM hv hval hpm hsm hnp hmark hbig hb0
  refine calls_cps fun R hR => ?_
  have HR := Lib.hid hR
  clear hR
  go_enter Try.func30, Try.ntmps30
  cases hsil : silE n (goodA n act) s.m with
  | some way =>
    rw [hsil] at HSI
    have HW := Lib.hid (silE_some HMK.out hsil)
    have hk11 := PB.k11 M.out.1
    have hc1 := M.out.2.2.2.1
    have hc2 := M.out.2.2.2.2.1
    go_wp2_with fail
    go_region_held3 (fun W => C1 W w.heap.size 0 (.pointer (some ⟨g, 0, none⟩)) ∧ K11 W g (.int .i64 n.places) (.slice A n.trans.length c) (.int .i64 n.source) (.int .i64 n.sink) (.slice (some ⟨gm, 0, none⟩) np cm) (.int .i64 s.c.p) (.int .i64 s.c.c) (.int .i64 s.c.m) (.int .i64 s.c.r) vr (.bool s.big)) (exact ⟨hc1, hk11⟩) (first
      | (go_at_call 71; refine (HSI.out _ (by first | exact M.out | exact M.out.drew)).mono ?_; rintro e w6 ⟨A6, c6, rfl, hr6, hb6⟩; have HR6 := Lib.hid (hr6.mono (lo' := w.heap.size + 2) (by simp [heap_drew]) (Nat.le_refl _)); have hz6 := hb6.size; simp only [World.size_alloc, heap_drew] at hz6; replace M := Lib.hid (Mem.below (by first | exact M.out | exact M.out.drew) hb6); clear hb6 hr6; replace hk11 := PB.k11 M.out.1; replace hc1 := M.out.2.2.2.1; replace hc2 := M.out.2.2.2.2.1))
    obtain ⟨m', hr1, hr2, hr3, hr4⟩ := HW.out
    have hta := takeAll_run HVAL.out HPM.out HBG.out hr1
    have hsa := Sm.all HVAL.out HSM.out (runTo_rg hr1)
    have HRG := Lib.hid (runTo_rg hr1)
    have HPE : Hid (playE n act s = takeP n (enabledAt n (takeAll n way s).m act) (takeAll n way s)) := Lib.hid (by unfold playE; rw [hsil])
    obtain ⟨sA, hsA⟩ : ∃ y, takeAll n way s = y := ⟨_, rfl⟩
    rw [hsA] at hta hsa HPE
    have HSA := Lib.hid hsA
    have hge : 0 ≤ enabledAt n sA.m act := by rw [hta.2.1]; unfold goodA at hr2; simpa using hr2
    have hlt := firstAt_lt hge
    obtain ⟨k, hk⟩ : ∃ k : Nat, enabledAt n sA.m act = k := ⟨(enabledAt n sA.m act).toNat, by omega⟩
    have hkt : k < n.trans.length := by unfold enabledAt at hk; omega
    rw [hk] at HPE
    have HK := Lib.hid hk
    have HTA := Lib.hid hta
    have HSMA := Lib.hid hsa
    have hnpa : (sA.m.length : Int) = np := by have h1 := hta.1.len; have h2 := HPM.out.len; have h3 := HNP.out; omega
    have HNPA : Hid (sA.m.length = np) := Lib.hid (by omega)
    clear hsA hge hlt hk hta hsa hr1 hr2 hr3 hnpa
    have hr4 : way.length ≤ 200 := by omega
    go_wp2_with (first
      | (go_at_call 74; refine (takeAll_any n s way B g gm np cm r0 r1 lo hi (w.heap.size + 2) w6.heap.size _ vr _ _ M.out.2.2.2.2.2.1 HVAL.out HRG.out HPM.out HSM.out (by omega) HNP.out ⟨M.out.1, M.out.2.1, M.out.2.2.1, True.intro⟩ hg hgr hmr h1 h2 h3 (by have := M.out.2.2.2.2.2.2.1.size; omega) (by have := M.out.2.2.2.2.2.2.1.size; omega) HR6.out (by omega) (by omega) (by omega) (Nat.le_refl _)).mono ?_; rintro e w7 ⟨vr2, b0, b1, rfl, hM2, hbb, hb0, hb1, hch⟩; rw [HSA.out] at hM2; have M2 : Hid (Mem [Loc.pb (plA n (.slice A n.trans.length c) (.slice (some ⟨gm, 0, none⟩) np cm) (sA).c vr2 (sA).big) g, Loc.owI gm (gm + 1) (.slice (some ⟨gm, 0, none⟩) np cm) (sA).m, Loc.owI b0 b1 vr2 (sA).run, Loc.c1 w.heap.size 0 (.pointer (some ⟨g, 0, none⟩)), Loc.c1 (w.heap.size + 1) 0 (.string act), Loc.rdT lo hi (.slice A n.trans.length c) n.trans, Loc.cg (plD g gm r0 r1) w] w7) := Lib.hid ⟨hM2.1, hM2.2.1, hM2.2.2.1, Mem.chg hch M.out.2.2.2 (by (repeat' (first | exact True.intro | refine And.intro (fun k hk e => ?_) ?_)) <;> (first | exact e | ((try dsimp only [Loc.c1, Loc.c2, Loc.k1, Loc.k2, Loc.k3, Loc.k4, Loc.k6, Loc.fr, Loc.bl, Loc.own, Loc.sz, Loc.rd, Loc.rdI, Loc.rdS, Loc.rdM, Loc.rdT, Loc.ow, Loc.owI, Loc.owN, Loc.set, Loc.ns, Loc.cg, Loc.pb, silD, plD] at hk e) <;> omega)))⟩; have hs7 := hch.size; have hs6 := M.out.2.2.2.2.2.2.1.size; clear hM2 hch M; replace hk11 := PB.k11 M2.out.1; replace hc1 := M2.out.2.2.2.1; replace hc2 := M2.out.2.2.2.2.1))
    have hc4 := hk11.2.2.2.2.1
    go_region_held3 (fun W => C1 W w.heap.size 0 (.pointer (some ⟨g, 0, none⟩)) ∧ C1 W (w.heap.size + 1) 0 (.string act) ∧ C1 W g 4 (.slice (some ⟨gm, 0, none⟩) np cm)) (exact ⟨hc1, hc2, hc4⟩) (first
      | (go_at_call 73; refine (enabledP_any n sA.m act g lo hi gm (gm + 1) _ _ _ (by first | exact (PB.k11 M2.out.1).2.1 | exact (PB.k11 M2.out.drew.1).2.1) (by first | exact M2.out.2.2.2.2.2.1 | exact M2.out.drew.2.2.2.2.2.1) (by first | exact Own.rd M2.out.2.1 | exact Own.rd M2.out.drew.2.1) (InOk.of HVAL.out HTA.out.1.len)).mono ?_; rw [HK.out]; rintro e w8 ⟨rfl, hb8⟩; have hs8 : w7.heap.size ≤ w8.heap.size := hb8.size; replace M2 := Lib.hid (Mem.below (by first | exact M2.out | exact M2.out.drew) hb8); clear hb8; replace hc1 := M2.out.2.2.2.1; replace hc2 := M2.out.2.2.2.2.1; replace hc4 := (PB.k11 M2.out.1).2.2.2.2.1)
      | (go_at_call 75; refine (take_any n sA k g gm np cm b0 b1 lo hi _ vr2 _ (by first | exact M2.out.2.2.2.2.2.1 | exact M2.out.drew.2.2.2.2.2.1) HVAL.out hkt HTA.out.1.pt (by have := HSMA.out.p; omega) (by have := HSMA.out.c; omega) (by have := HSMA.out.l; omega) HNPA.out (by first | exact ⟨M2.out.1, M2.out.2.1, M2.out.2.2.1, True.intro⟩ | exact ⟨M2.out.drew.1, M2.out.drew.2.1, M2.out.drew.2.2.1, True.intro⟩) hg (by omega) (by omega) h1 h2 (by omega) (by first | omega | (simp; done) | (simp; omega)) (by first | omega | (simp; done) | (simp; omega))).mono ?_; rintro e w9 ⟨vr3, d0, d1, rfl, hM3, hdd, hd0, hd1, hch⟩; have M3 : Hid (Mem [Loc.pb (plA n (.slice A n.trans.length c) (.slice (some ⟨gm, 0, none⟩) np cm) (takeP n k sA).c vr3 (takeP n k sA).big) g, Loc.owI gm (gm + 1) (.slice (some ⟨gm, 0, none⟩) np cm) (takeP n k sA).m, Loc.owI d0 d1 vr3 (takeP n k sA).run, Loc.c1 w.heap.size 0 (.pointer (some ⟨g, 0, none⟩)), Loc.c1 (w.heap.size + 1) 0 (.string act), Loc.rdT lo hi (.slice A n.trans.length c) n.trans, Loc.cg (plD g gm r0 r1) w] w9) := Lib.hid ⟨hM3.1, hM3.2.1, hM3.2.2.1, Mem.chg hch (by first | exact M2.out.2.2.2 | exact M2.out.drew.2.2.2) (by (repeat' (first | exact True.intro | refine And.intro (fun k hk e => ?_) ?_)) <;> (first | exact e | ((try dsimp only [Loc.c1, Loc.c2, Loc.k1, Loc.k2, Loc.k3, Loc.k4, Loc.k6, Loc.fr, Loc.bl, Loc.own, Loc.sz, Loc.rd, Loc.rdI, Loc.rdS, Loc.rdM, Loc.rdT, Loc.ow, Loc.owI, Loc.owN, Loc.set, Loc.ns, Loc.cg, Loc.pb, silD, plD] at hk e) <;> omega)))⟩; have hs9 := hch.size; clear hM3 hch M2; replace hc1 := M3.out.2.2.2.1; replace hc2 := M3.out.2.2.2.2.1; replace hc4 := (PB.k11 M3.out.1).2.2.2.2.1))
    go_wp2_with fail
    first | go_end0 | refine bodyPost_ret (results_none rfl _ _ _) rfl ?_
    refine HR.out _ _ ⟨vr3, d0, d1, rfl, ?_, by omega, hd0, hd1, M3.out.2.2.2.2.2.2.1⟩
    rw [HPE.out]
    exact ⟨M3.out.1, M3.out.2.1, M3.out.2.2.1, True.intro⟩
  | none =>
    rw [hsil] at HSI
    have HIX : Hid (∀ W, Mem [Loc.pb (plA n (.slice A n.trans.length c) (.slice (some ⟨gm, 0, none⟩) np cm) (s).c vr (s).big) g, Loc.owI gm (gm + 1) (.slice (some ⟨gm, 0, none⟩) np cm) (s).m, Loc.owI r0 r1 vr (s).run, Loc.c1 w.heap.size 0 (.pointer (some ⟨g, 0, none⟩)), Loc.c1 (w.heap.size + 1) 0 (.string act), Loc.rdT lo hi (.slice A n.trans.length c) n.trans, Loc.cg (plD g gm r0 r1) w] W → Calls Try.prog 65 #[.slice A n.trans.length c, .func (.func 76) #[] #[.pointer (some ⟨w.heap.size + 1, 0, none⟩)]] W fun e W' => e = .returned (.int .i64 (labAt n act)) ∧ Below W.heap.size W W') :=
      Lib.hid (fun W hW => indexFT_any 76 ent_play2 #[.pointer (some ⟨w.heap.size + 1, 0, none⟩)] (labB act) n.trans lo hi _ W hW.2.2.2.2.2.1
        (fun k hk vi vo W' hW' hvi hvo => play2_any (gti n.trans k) vi vo act _ W' (cell_aft hW' hW.2.2.2.2.1) (by obtain ⟨a, b, h, _⟩ := hvi.form; exact ⟨_, _, _, h⟩) (by obtain ⟨a, b, h, _⟩ := hvo.form; exact ⟨_, _, _, h⟩)))
    have HPE : Hid (playE n act s = if 0 ≤ labAt n act then takeP n (labAt n act) s else plUnk s) := Lib.hid (by unfold playE; rw [hsil]; rfl)
    have hfl := firstAt_lt (p := labB act) (l := n.trans)
    obtain ⟨L, hL⟩ : ∃ L, labAt n act = L := ⟨_, rfl⟩
    rw [hL] at HIX HPE
    unfold labAt at hL
    rw [hL] at hfl
    clear hL hsil
    have hk11 := PB.k11 M.out.1
    have hc1 := M.out.2.2.2.1
    have hc2 := M.out.2.2.2.2.1
    go_wp2_with fail
    go_region_held3 (fun W => C1 W w.heap.size 0 (.pointer (some ⟨g, 0, none⟩)) ∧ K11 W g (.int .i64 n.places) (.slice A n.trans.length c) (.int .i64 n.source) (.int .i64 n.sink) (.slice (some ⟨gm, 0, none⟩) np cm) (.int .i64 s.c.p) (.int .i64 s.c.c) (.int .i64 s.c.m) (.int .i64 s.c.r) vr (.bool s.big)) (exact ⟨hc1, hk11⟩) (first
      | (go_at_call 71; refine (HSI.out _ (by first | exact M.out | exact M.out.drew)).mono ?_; rintro e w6 ⟨A6, c6, rfl, hr6, hb6⟩; have HR6 := Lib.hid (hr6.mono (lo' := w.heap.size + 2) (by simp [heap_drew]) (Nat.le_refl _)); have hz6 := hb6.size; simp only [World.size_alloc, heap_drew] at hz6; replace M := Lib.hid (Mem.below (by first | exact M.out | exact M.out.drew) hb6); clear hb6 hr6; replace hk11 := PB.k11 M.out.1; replace hc1 := M.out.2.2.2.1; replace hc2 := M.out.2.2.2.2.1))
    by_cases hlab : 0 ≤ L
    · obtain ⟨k, rfl⟩ : ∃ k : Nat, L = k := ⟨L.toNat, by omega⟩
      have hkt : k < n.trans.length := by have := hfl hlab; omega
      rw [if_pos hlab] at HPE
      clear hlab hfl
      go_wp2_with (first
        | (go_at_call 65; refine (HIX.out _ M.out).mono ?_; rintro e w7 ⟨rfl, hb7⟩; have hs7 := hb7.size; replace M := Lib.hid (M.out.below hb7); clear hb7; replace hk11 := PB.k11 M.out.1; replace hc1 := M.out.2.2.2.1; replace hc2 := M.out.2.2.2.2.1)
        | (go_at_call 75; refine (take_any n s k g gm np cm r0 r1 lo hi _ vr _ M.out.2.2.2.2.2.1 HVAL.out hkt HPM.out.pt (by have := HSM.out.p; omega) (by have := HSM.out.c; omega) (by have := HSM.out.l; omega) HNP.out ⟨M.out.1, M.out.2.1, M.out.2.2.1, True.intro⟩ hg hgr hmr h1 h2 h3 (by have := M.out.2.2.2.2.2.2.1.size; omega) (by have := M.out.2.2.2.2.2.2.1.size; omega)).mono ?_; rintro e w9 ⟨vr3, d0, d1, rfl, hM3, hdd, hd0, hd1, hch⟩; have hs8 := M.out.2.2.2.2.2.2.1.size; have M3 : Hid (Mem [Loc.pb (plA n (.slice A n.trans.length c) (.slice (some ⟨gm, 0, none⟩) np cm) (takeP n k s).c vr3 (takeP n k s).big) g, Loc.owI gm (gm + 1) (.slice (some ⟨gm, 0, none⟩) np cm) (takeP n k s).m, Loc.owI d0 d1 vr3 (takeP n k s).run, Loc.c1 w.heap.size 0 (.pointer (some ⟨g, 0, none⟩)), Loc.c1 (w.heap.size + 1) 0 (.string act), Loc.rdT lo hi (.slice A n.trans.length c) n.trans, Loc.cg (plD g gm r0 r1) w] w9) := Lib.hid ⟨hM3.1, hM3.2.1, hM3.2.2.1, Mem.chg hch M.out.2.2.2 (by (repeat' (first | exact True.intro | refine And.intro (fun k hk e => ?_) ?_)) <;> (first | exact e | ((try dsimp only [Loc.c1, Loc.c2, Loc.k1, Loc.k2, Loc.k3, Loc.k4, Loc.k6, Loc.fr, Loc.bl, Loc.own, Loc.sz, Loc.rd, Loc.rdI, Loc.rdS, Loc.rdM, Loc.rdT, Loc.ow, Loc.owI, Loc.owN, Loc.set, Loc.ns, Loc.cg, Loc.pb, silD, plD] at hk e) <;> omega)))⟩; have hs9 := hch.size; clear hM3 hch M))
      first | go_end0 | refine bodyPost_ret (results_none rfl _ _ _) rfl ?_
      refine HR.out _ _ ⟨vr3, d0, d1, rfl, ?_, by omega, hd0, hd1, M3.out.2.2.2.2.2.2.1⟩
      rw [HPE.out]
      exact ⟨M3.out.1, M3.out.2.1, M3.out.2.2.1, True.intro⟩
    · rw [if_neg hlab] at HPE
      clear hfl
      have hp0 := HPM.out.c_ge
      have hr0 := HPM.out.r0
      have hmc := HPM.out.mc
      have hbp := HSM.out.p
      have hbc := HSM.out.c
      have hbr := HSM.out.r
      have hq : 0 ≤ s.c.p ∧ s.c.p ≤ 1000000000 ∧ 0 ≤ s.c.c ∧ s.c.c ≤ 1000000000 ∧ 0 ≤ s.c.m ∧ s.c.m ≤ 1000000000 ∧ 0 ≤ s.c.r ∧ s.c.r ≤ 1000000000 := by omega
      clear hp0 hr0 hmc hbp hbc hbr
      obtain ⟨e1, e2, e3, e4, e5, e6, e7, e8⟩ := hq
      go_wp2_with (first
        | (go_at_call 65; refine (HIX.out _ M.out).mono ?_; rintro e w7 ⟨rfl, hb7⟩; have hs7 := hb7.size; replace M := Lib.hid (M.out.below hb7); clear hb7; replace hk11 := PB.k11 M.out.1; replace hc1 := M.out.2.2.2.1; replace hc2 := M.out.2.2.2.2.1))
      have M1 := Mem.step (a' := Loc.pb (plA n (.slice A n.trans.length c) (.slice (some ⟨gm, 0, none⟩) np cm) ⟨s.c.p + 1, s.c.c, s.c.m, s.c.r⟩ vr s.big) g) M.out (PB.set M.out.1 5 (.int .i64 (s.c.p + 1)) rfl) (Chg.set _ g 5 _) (by (repeat' (first | exact True.intro | refine And.intro (fun k hk e => ?_) ?_)) <;> (first | exact e | ((try dsimp only [Loc.c1, Loc.c2, Loc.k1, Loc.k2, Loc.k3, Loc.k4, Loc.k6, Loc.fr, Loc.bl, Loc.own, Loc.sz, Loc.rd, Loc.rdI, Loc.rdS, Loc.rdM, Loc.rdT, Loc.ow, Loc.owI, Loc.owN, Loc.set, Loc.ns, Loc.cg, Loc.pb, silD, plD] at hk e) <;> omega)))
      have M2 := Mem.step (a' := Loc.pb (plA n (.slice A n.trans.length c) (.slice (some ⟨gm, 0, none⟩) np cm) ⟨s.c.p + 1, s.c.c + 1, s.c.m, s.c.r⟩ vr s.big) g) M1 (PB.set M1.1 6 (.int .i64 (s.c.c + 1)) rfl) (Chg.set _ g 6 _) (by (repeat' (first | exact True.intro | refine And.intro (fun k hk e => ?_) ?_)) <;> (first | exact e | ((try dsimp only [Loc.c1, Loc.c2, Loc.k1, Loc.k2, Loc.k3, Loc.k4, Loc.k6, Loc.fr, Loc.bl, Loc.own, Loc.sz, Loc.rd, Loc.rdI, Loc.rdS, Loc.rdM, Loc.rdT, Loc.ow, Loc.owI, Loc.owN, Loc.set, Loc.ns, Loc.cg, Loc.pb, silD, plD] at hk e) <;> omega)))
      have M3 := Mem.step (a' := Loc.pb (plA n (.slice A n.trans.length c) (.slice (some ⟨gm, 0, none⟩) np cm) ⟨s.c.p + 1, s.c.c + 1, s.c.m + 1, s.c.r⟩ vr s.big) g) M2 (PB.set M2.1 7 (.int .i64 (s.c.m + 1)) rfl) (Chg.set _ g 7 _) (by (repeat' (first | exact True.intro | refine And.intro (fun k hk e => ?_) ?_)) <;> (first | exact e | ((try dsimp only [Loc.c1, Loc.c2, Loc.k1, Loc.k2, Loc.k3, Loc.k4, Loc.k6, Loc.fr, Loc.bl, Loc.own, Loc.sz, Loc.rd, Loc.rdI, Loc.rdS, Loc.rdM, Loc.rdT, Loc.ow, Loc.owI, Loc.owN, Loc.set, Loc.ns, Loc.cg, Loc.pb, silD, plD] at hk e) <;> omega)))
      have M4 := Mem.step (a' := Loc.pb (plA n (.slice A n.trans.length c) (.slice (some ⟨gm, 0, none⟩) np cm) ⟨s.c.p + 1, s.c.c + 1, s.c.m + 1, s.c.r + 1⟩ vr s.big) g) M3 (PB.set M3.1 8 (.int .i64 (s.c.r + 1)) rfl) (Chg.set _ g 8 _) (by (repeat' (first | exact True.intro | refine And.intro (fun k hk e => ?_) ?_)) <;> (first | exact e | ((try dsimp only [Loc.c1, Loc.c2, Loc.k1, Loc.k2, Loc.k3, Loc.k4, Loc.k6, Loc.fr, Loc.bl, Loc.own, Loc.sz, Loc.rd, Loc.rdI, Loc.rdS, Loc.rdM, Loc.rdT, Loc.ow, Loc.owI, Loc.owN, Loc.set, Loc.ns, Loc.cg, Loc.pb, silD, plD] at hk e) <;> omega)))
      first | go_end0 | refine bodyPost_ret (results_none rfl _ _ _) rfl ?_
      refine HR.out _ _ ⟨vr, r0, r1, rfl, ?_, .inl ⟨rfl, rfl⟩, ?_, ?_, M4.2.2.2.2.2.2.1⟩
      · rw [HPE.out]
        exact ⟨M4.1, M4.2.1, M4.2.2.1, True.intro⟩
      · have := M4.2.2.2.2.2.2.1.size; omega
      · have := M4.2.2.2.2.2.2.1.size; omega
end Go.Proofs.Ytmhbfoaecebobaa
end
section
namespace Go.Proofs.Ytmhbfoaecebobaa
set_option linter.unusedSimpArgs false
set_option linter.unusedVariables false
open Go.RowKit

theorem finA_pm {n : Net} {s : Pl} {B : Nat} (hv : validB n = true) (h : PM n s) (hb : s.big = false) (hs : Sm s B) : PM n (finA n s) ∧ Sm (finA n s) (B + 200) ∧ (finA n s).big = false := by
  unfold finA
  cases hw : silE n (goodF n) s.m with
  | some way =>
    obtain ⟨m', h1, h2, h3, h4⟩ := silE_some (h.ok hb) hw
    obtain ⟨a1, a2, a3, a4, a5⟩ := takeAll_run hv h hb h1
    exact ⟨a1, (Sm.all hv hs (runTo_rg h1)).mono (by omega), a3⟩
  | none => exact ⟨h, hs.mono (by omega), hb⟩
theorem sumI_take : ∀ (l : List Int) (k : Nat), k < l.length → sumI (l.take (k + 1)) = sumI (l.take k) + gti l k
  | [], k, h => by simp at h
  | x :: l, 0, h => by simp [sumI, gti]
  | x :: l, k + 1, h => by
    have := sumI_take l k (by simpa using h)
    have e : gti (x :: l) (k + 1) = gti l k := by simp [gti]
    rw [List.take_succ_cons, List.take_succ_cons, sumI, sumI, this, e]
    omega
theorem sumI_tk : ∀ (l : List Int) (j : Nat), (∀ i, 0 ≤ gti l i) → 0 ≤ sumI (l.take j) ∧ sumI (l.take j) ≤ sumI l
  | [], j, _ => by simp [sumI]
  | x :: l, 0, h => by
    have := sumI_ge (x :: l) h
    simp only [List.take_zero, sumI] at this ⊢
    omega
  | x :: l, j + 1, h => by
    have h0 := h 0
    have e : gti (x :: l) 0 = x := by simp [gti]
    rw [e] at h0
    have := sumI_tk l j (fun i => by have := h (i + 1); have e : gti (x :: l) (i + 1) = gti l i := by simp [gti]
                                     rwa [e] at this)
    rw [List.take_succ_cons, sumI, sumI]
    omega

set_option maxRecDepth 100000 in
set_option maxHeartbeats 4000000 in
theorem finish_any (n : Net) (s : Pl) (B g gm np cm r0 r1 lo hi : Nat) (vt vr : Value) (w : World) (hv : RdT w lo hi vt n.trans) (hval : validB n = true) (hpm : PM n s) (hbig : s.big = false) (hsm : Sm s B) (hB : B ≤ 800000)
    (hnp : s.m.length = np) (hM : Mem [Loc.pb (plA n (vt) (.slice (some ⟨gm, 0, none⟩) np cm) (s).c vr (s).big) g, Loc.owI gm (gm + 1) (.slice (some ⟨gm, 0, none⟩) np cm) (s).m, Loc.owI r0 r1 vr (s).run] w) (hg : g ≠ gm) (hgr : g < r0 ∨ r1 ≤ g) (hmr : gm < r0 ∨ r1 ≤ gm) (h1 : hi ≤ g) (h2 : hi ≤ gm) (h3 : hi ≤ r0) (h4 : r1 ≤ w.heap.size) (h5 : r0 ≤ w.heap.size) :
    Calls Try.prog 31 #[.pointer (some ⟨g, 0, none⟩)] w fun e w' => ∃ vr' r0' r1', e = .returned (.tuple #[]) ∧ Mem [Loc.pb (plA n (vt) (.slice (some ⟨gm, 0, none⟩) np cm) (finE n s).c vr' (finE n s).big) g, Loc.owI gm (gm + 1) (.slice (some ⟨gm, 0, none⟩) np cm) (finE n s).m, Loc.owI r0' r1' vr' (finE n s).run] w' ∧ (r0' = r0 ∧ r1' = r1 ∨ w.heap.size ≤ r0') ∧ r0' ≤ w'.heap.size ∧ r1' ≤ w'.heap.size ∧ Chg (plD g gm r0 r1) w w' := by
  have hmark := hpm.ok hbig
  have hgw : g < w.heap.size := PB.lt hM.1
  have hgmw : gm < w.heap.size := by
    have hnz := validB_places hval
    have hln := hpm.len
    obtain ⟨g', cap, hv', _, h5, h6⟩ := Own.blk hM.2.1 (by omega)
    injection hv' with hv' _ _
    injection hv' with hv'
    injection hv' with hv' _ _
    omega
  obtain ⟨ks, hks⟩ : ∃ k : Nat, n.sink = k := ⟨n.sink.toNat, by have := (validB_ends hval).2; omega⟩
  have hksn : ks < np := by have := (validB_ends hval).2; have := hpm.len; omega
  have hnp40 : np ≤ 40 := by have := (validB_places hval).2.1; have := hpm.len; omega
  have hb0 : Below w.heap.size w (w.alloc (.cells #[.pointer (some ⟨g, 0, none⟩)] 68)) := (Below.refl _ _).alloc (Nat.le_refl _) _
  have M : Hid (Mem [Loc.pb (plA n (vt) (.slice (some ⟨gm, 0, none⟩) np cm) (s).c vr (s).big) g, Loc.owI gm (gm + 1) (.slice (some ⟨gm, 0, none⟩) np cm) (s).m, Loc.owI r0 r1 vr (s).run, Loc.c1 w.heap.size 0 (.pointer (some ⟨g, 0, none⟩)), Loc.rdT lo hi vt n.trans, Loc.cg (plD g gm r0 r1) w] (w.alloc (.cells #[.pointer (some ⟨g, 0, none⟩)] 68))) := Lib.hid (by
    have hal := hM.below hb0
    exact ⟨hal.1, hal.2.1, hal.2.2.1, by simp [C1, go_sem], hv.after hb0, ⟨hb0.os, hb0.tape, hb0.output, hb0.size, fun k hk _ => hb0.block k hk⟩, True.intro⟩)
  have HSI : Hid (∀ W, Mem [Loc.pb (plA n (vt) (.slice (some ⟨gm, 0, none⟩) np cm) (s).c vr (s).big) g, Loc.owI gm (gm + 1) (.slice (some ⟨gm, 0, none⟩) np cm) (s).m, Loc.owI r0 r1 vr (s).run, Loc.c1 w.heap.size 0 (.pointer (some ⟨g, 0, none⟩)), Loc.rdT lo hi vt n.trans, Loc.cg (plD g gm r0 r1) w] W → Calls Try.prog 71 #[netV n vt, .slice (some ⟨gm, 0, none⟩) np cm, .func (.func 77) #[] #[.pointer (some ⟨w.heap.size, 0, none⟩)]] W (RetW W (silE n (goodF n) s.m))) :=
    Lib.hid (fun W hW => silent_any n s.m vt _ lo hi gm (gm + 1) 77 ent_fin1 #[.pointer (some ⟨w.heap.size, 0, none⟩)] (goodF n) W hW.2.2.2.2.1 (Own.rd hW.2.1) hmark (by have := hW.2.2.2.2.2.1.size; omega)
      (fun x lo2 hi2 v W2 hx hb2 hr2 => fin1_any n x g _ lo2 hi2 ks v W2 (cell_aft hb2 hW.2.2.2.1) hks (cell_aft hb2 (PB.k11 hW.1).2.2.2.1) hr2 (by have := (markB_len hx).2.2; have := hpm.len; omega)))
  have HVAL := Lib.hid hval
  have HPM := Lib.hid hpm
  have HSM := Lib.hid hsm
  have HNP := Lib.hid hnp
  have HMK := Lib.hid hmark
  have HBG := Lib.hid hbig
  have HKS := Lib.hid hks
  have HFA := Lib.hid (finA_pm hval hpm hbig hsm)
  have HFE : Hid (finE n s = ⟨(takeIn1 (finA n s) ks).m, ⟨(takeIn1 (finA n s) ks).c.p, (takeIn1 (finA n s) ks).c.c, (takeIn1 (finA n s) ks).c.m, (takeIn1 (finA n s) ks).c.r + sumI (takeIn1 (finA n s) ks).m⟩, (finA n s).run, (finA n s).big⟩) := Lib.hid (by unfold finE; rw [hks])
  have HFS : Hid (finA n s = match silE n (goodF n) s.m with | some way => takeAll n way s | none => s) := Lib.hid rfl
  obtain ⟨A, c, rfl, hc, hmm⟩ := hv.form
  clear hM hv hval hpm hsm hnp hmark hbig hb0
  obtain ⟨sA, hsA⟩ : ∃ y, finA n s = y := ⟨_, rfl⟩
  rw [hsA] at HFA HFE HFS
  clear hsA
  clear hks
  refine calls_cps fun R hR => ?_
  have HR := Lib.hid hR
  clear hR
  go_enter Try.func31, Try.ntmps31
  obtain ⟨rs, hrs⟩ : ∃ r, silE n (goodF n) s.m = r := ⟨_, rfl⟩
  rw [hrs] at HSI HFS
  have hk11 := PB.k11 M.out.1
  have hc1 := M.out.2.2.2.1
  go_wp2_with fail
  go_region_held3 (fun W => C1 W w.heap.size 0 (.pointer (some ⟨g, 0, none⟩)) ∧ K11 W g (.int .i64 n.places) (.slice A n.trans.length c) (.int .i64 n.source) (.int .i64 n.sink) (.slice (some ⟨gm, 0, none⟩) np cm) (.int .i64 s.c.p) (.int .i64 s.c.c) (.int .i64 s.c.m) (.int .i64 s.c.r) vr (.bool s.big)) (exact ⟨hc1, hk11⟩) (first
    | (go_at_call 71; refine (HSI.out _ (by first | exact M.out | exact M.out.drew)).mono ?_; rintro e w6 ⟨A6, c6, rfl, hr6, hb6⟩; have HR6 := Lib.hid (hr6.mono (lo' := w.heap.size + 1) (by simp [heap_drew]) (Nat.le_refl _)); have hz6 := hb6.size; simp only [World.size_alloc, heap_drew] at hz6; replace M := Lib.hid (Mem.below (by first | exact M.out | exact M.out.drew) hb6); clear hb6 hr6; replace hk11 := PB.k11 M.out.1; replace hc1 := M.out.2.2.2.1))
  go_upto_if 19 with (fail)
  go_cut [] (fun wx => ∃ (vr2 : Value) (b0 b1 : Nat), (b0 = r0 ∧ b1 = r1 ∨ w.heap.size ≤ b0) ∧ w.heap.size + 1 ≤ wx.heap.size ∧ b0 ≤ wx.heap.size ∧ b1 ≤ wx.heap.size ∧ (w.heap.size < b0 ∨ b1 ≤ w.heap.size) ∧ Hid (Mem [Loc.pb (plA n (.slice A n.trans.length c) (.slice (some ⟨gm, 0, none⟩) np cm) (sA).c vr2 (sA).big) g, Loc.owI gm (gm + 1) (.slice (some ⟨gm, 0, none⟩) np cm) (sA).m, Loc.owI b0 b1 vr2 (sA).run, Loc.c1 w.heap.size 0 (.pointer (some ⟨g, 0, none⟩)), Loc.rdT lo hi (.slice A n.trans.length c) n.trans, Loc.cg (plD g gm r0 r1) w] wx))
  case first =>
    cases rs with
    | some way =>
      obtain ⟨m', hr1, hr2, hr3, hr4⟩ := silE_some HMK.out hrs
      have HRG := Lib.hid (runTo_rg hr1)
      have hr5 : way.length ≤ 200 := by omega
      have HSA : Hid (takeAll n way s = sA) := Lib.hid HFS.out.symm
      clear hr1 hr2 hr3 hr4 hrs
      go_wp2_with (first
        | (go_at_call 74; refine (takeAll_any n s way B g gm np cm r0 r1 lo hi (w.heap.size + 1) w6.heap.size _ vr _ _ M.out.2.2.2.2.1 HVAL.out HRG.out HPM.out HSM.out (by omega) HNP.out ⟨M.out.1, M.out.2.1, M.out.2.2.1, True.intro⟩ hg hgr hmr h1 h2 h3 (by have := M.out.2.2.2.2.2.1.size; omega) (by have := M.out.2.2.2.2.2.1.size; omega) HR6.out (by omega) (by omega) (by omega) (Nat.le_refl _)).mono ?_; rintro e w7 ⟨vr2, b0, b1, rfl, hM2, hbb, hb0, hb1, hch⟩; rw [HSA.out] at hM2; have M2 : Hid (Mem [Loc.pb (plA n (.slice A n.trans.length c) (.slice (some ⟨gm, 0, none⟩) np cm) (sA).c vr2 (sA).big) g, Loc.owI gm (gm + 1) (.slice (some ⟨gm, 0, none⟩) np cm) (sA).m, Loc.owI b0 b1 vr2 (sA).run, Loc.c1 w.heap.size 0 (.pointer (some ⟨g, 0, none⟩)), Loc.rdT lo hi (.slice A n.trans.length c) n.trans, Loc.cg (plD g gm r0 r1) w] w7) := Lib.hid ⟨hM2.1, hM2.2.1, hM2.2.2.1, Mem.chg hch M.out.2.2.2 (by (repeat' (first | exact True.intro | refine And.intro (fun k hk e => ?_) ?_)) <;> (first | exact e | ((try dsimp only [Loc.c1, Loc.c2, Loc.k1, Loc.k2, Loc.k3, Loc.k4, Loc.k6, Loc.fr, Loc.bl, Loc.own, Loc.sz, Loc.rd, Loc.rdI, Loc.rdS, Loc.rdM, Loc.rdT, Loc.ow, Loc.owI, Loc.owN, Loc.set, Loc.ns, Loc.cg, Loc.pb, silD, plD] at hk e) <;> omega)))⟩; have hs7 := hch.size; have hs6 := M.out.2.2.2.2.2.1.size; clear hM2 hch M))
      go_meet
      exact ⟨vr2, b0, b1, by omega, by omega, hb0, hb1, by omega, M2⟩
    | none =>
      have HSA : Hid (s = sA) := Lib.hid HFS.out.symm
      rw [HSA.out] at M
      clear hrs
      go_wp2_with fail
      go_meet
      exact ⟨vr, r0, r1, .inl ⟨rfl, rfl⟩, by omega, by omega, by omega, .inr h4, M⟩
  case rest =>
    clear M hk11 hc1 HR6 hz6 HSI HFS hrs
    obtain ⟨vr2, b0, b1, hbb, hbs, hb0, hb1, hbw, M⟩ := hcut
    have hk11 := PB.k11 M.out.1
    rw [HKS.out] at hk11
    have hc1 := M.out.2.2.2.1
    have hq := HFA.out.1.c_ge
    have hqc := HFA.out.2.1.c
    have hqm := HFA.out.1.mc
    have hqt := (HFA.out.1.small.2.2 ks)
    have hqp := HFA.out.2.1.p
    have hlnA : (sA.m.length : Int) = np := by have a1 := HFA.out.1.len; have a2 := HPM.out.len; have a3 := HNP.out; omega
    have hkl : ks < sA.m.length := by omega
    have hat := OwnI.at1 M.out.2.1 (k := ks) hkl
    have hqq : 0 ≤ sA.c.c ∧ sA.c.c ≤ 1000000000 ∧ 0 ≤ sA.c.m ∧ sA.c.m ≤ 1000000000 ∧ 0 ≤ gti sA.m ks ∧ gti sA.m ks ≤ 1000000000 := by omega
    clear hq hqc hqm hqt hqp hlnA
    obtain ⟨e1, e2, e3, e4, e5, e6⟩ := hqq
    have M1 := Lib.hid (Mem.step (a' := Loc.pb (plA n (.slice A n.trans.length c) (.slice (some ⟨gm, 0, none⟩) np cm) ⟨sA.c.p, sA.c.c + 1, sA.c.m, sA.c.r⟩ vr2 sA.big) g) M.out (PB.set M.out.1 6 (.int .i64 (sA.c.c + 1)) rfl) (Chg.set _ g 6 _) (by (repeat' (first | exact True.intro | refine And.intro (fun k hk e => ?_) ?_)) <;> (first | exact e | ((try dsimp only [Loc.c1, Loc.c2, Loc.k1, Loc.k2, Loc.k3, Loc.k4, Loc.k6, Loc.fr, Loc.bl, Loc.own, Loc.sz, Loc.rd, Loc.rdI, Loc.rdS, Loc.rdM, Loc.rdT, Loc.ow, Loc.owI, Loc.owN, Loc.set, Loc.ns, Loc.cg, Loc.pb, silD, plD] at hk e) <;> omega))))
    go_upto_region 5 with (fail)
    go_quiet (fail)
    go_upto_if 43 with (fail)
    go_cut [] (fun wx => w.heap.size + 1 ≤ wx.heap.size ∧ b0 ≤ wx.heap.size ∧ b1 ≤ wx.heap.size ∧ Hid (Mem [Loc.pb (plA n (.slice A n.trans.length c) (.slice (some ⟨gm, 0, none⟩) np cm) ((takeIn1 sA ks)).c vr2 ((takeIn1 sA ks)).big) g, Loc.owI gm (gm + 1) (.slice (some ⟨gm, 0, none⟩) np cm) ((takeIn1 sA ks)).m, Loc.owI b0 b1 vr2 ((takeIn1 sA ks)).run, Loc.c1 w.heap.size 0 (.pointer (some ⟨g, 0, none⟩)), Loc.rdT lo hi (.slice A n.trans.length c) n.trans, Loc.cg (plD g gm r0 r1) w] wx))
    case first =>
      have M2 := Lib.hid (M1.out.drewN nq)
      have hs0 : w.heap.size + 1 ≤ ((wc.setCell ⟨g, 6, none⟩ (.int .i64 (sA.c.c + 1))).drewN nq).heap.size := by show _ ≤ (wc.setCell _ _).heap.size; rw [size_setCell]; exact hbs
      have hs1 : b0 ≤ ((wc.setCell ⟨g, 6, none⟩ (.int .i64 (sA.c.c + 1))).drewN nq).heap.size := by show _ ≤ (wc.setCell _ _).heap.size; rw [size_setCell]; exact hb0
      have hs2 : b1 ≤ ((wc.setCell ⟨g, 6, none⟩ (.int .i64 (sA.c.c + 1))).drewN nq).heap.size := by show _ ≤ (wc.setCell _ _).heap.size; rw [size_setCell]; exact hb1
      clear hk11 hc1 hat M M1 hbs hb0 hb1
      generalize (wc.setCell ⟨g, 6, none⟩ (.int .i64 (sA.c.c + 1))).drewN nq = W1 at *
      have hk11 := PB.k11 M2.out.1
      rw [HKS.out] at hk11
      have hc1 := M2.out.2.2.2.1
      have hat := OwnI.at1 M2.out.2.1 (k := ks) hkl
      by_cases hpos : 0 < gti sA.m ks
      · have HE : Hid (takeIn1 sA ks = ⟨sA.m.set ks (gti sA.m ks - 1), ⟨sA.c.p, sA.c.c + 1, sA.c.m, sA.c.r⟩, sA.run, sA.big⟩) := Lib.hid (by unfold takeIn1; simp only [Int.toNat_natCast]; rw [if_pos hpos])
        have hd1 : decide ((0 : Int) < gti sA.m ks) = true := by simpa using hpos
        go_wp2_with fail
        go_still_tail 13, (by kernel_rfl)
        change wpList _ _ _ _ _ W1.drew
        have M3 := M2.out.drew
        go_wp2_with fail
        go_meet
        have M4 := Mem.step2 (b' := Loc.owI gm (gm + 1) (.slice (some ⟨gm, 0, none⟩) np cm) (sA.m.set ks (gti sA.m ks - 1))) M3 (OwnI.set M3.2.1 ks (gti sA.m ks - 1)) (Chg.set _ gm ks _) (by (repeat' (first | exact True.intro | refine And.intro (fun k hk e => ?_) ?_)) <;> (first | exact e | ((try dsimp only [Loc.c1, Loc.c2, Loc.k1, Loc.k2, Loc.k3, Loc.k4, Loc.k6, Loc.fr, Loc.bl, Loc.own, Loc.sz, Loc.rd, Loc.rdI, Loc.rdS, Loc.rdM, Loc.rdT, Loc.ow, Loc.owI, Loc.owN, Loc.set, Loc.ns, Loc.cg, Loc.pb, silD, plD] at hk e) <;> omega)))
        exact ⟨by simp only [heap_drew, size_setCell]; exact hs0, by simp only [heap_drew, size_setCell]; exact hs1, by simp only [heap_drew, size_setCell]; exact hs2, Lib.hid (by rw [HE.out]; exact M4)⟩
      · have HE : Hid (takeIn1 sA ks = ⟨sA.m, ⟨sA.c.p, sA.c.c + 1, sA.c.m + 1, sA.c.r⟩, sA.run, sA.big⟩) := Lib.hid (by unfold takeIn1; simp only [Int.toNat_natCast]; rw [if_neg hpos])
        have hd1 : decide ((0 : Int) < gti sA.m ks) = false := by simpa using hpos
        go_wp2_with fail
        go_meet
        have M3 := Mem.step (a' := Loc.pb (plA n (.slice A n.trans.length c) (.slice (some ⟨gm, 0, none⟩) np cm) ⟨sA.c.p, sA.c.c + 1, sA.c.m + 1, sA.c.r⟩ vr2 sA.big) g) M2.out (PB.set M2.out.1 7 (.int .i64 (sA.c.m + 1)) rfl) (Chg.set _ g 7 _) (by (repeat' (first | exact True.intro | refine And.intro (fun k hk e => ?_) ?_)) <;> (first | exact e | ((try dsimp only [Loc.c1, Loc.c2, Loc.k1, Loc.k2, Loc.k3, Loc.k4, Loc.k6, Loc.fr, Loc.bl, Loc.own, Loc.sz, Loc.rd, Loc.rdI, Loc.rdS, Loc.rdM, Loc.rdT, Loc.ow, Loc.owI, Loc.owN, Loc.set, Loc.ns, Loc.cg, Loc.pb, silD, plD] at hk e) <;> omega)))
        exact ⟨by rw [size_setCell]; exact hs0, by rw [size_setCell]; exact hs1, by rw [size_setCell]; exact hs2, Lib.hid (by rw [HE.out]; exact M3)⟩
    case rest =>
      clear M M1 hk11 hc1 hat hbs hb0 hb1
      obtain ⟨hbs, hb0, hb1, M⟩ := hcut
      have HPT1 := Lib.hid (HFA.out.1.pt.in1 (k := (ks : Int)) (by omega) (by have := HKS.out; have := (validB_ends HVAL.out).2; omega))
      have HC1 : Hid ((takeIn1 sA ks).c.p = sA.c.p ∧ (takeIn1 sA ks).c.r = sA.c.r ∧ (takeIn1 sA ks).run = sA.run ∧ (takeIn1 sA ks).big = sA.big) := Lib.hid (by unfold takeIn1; split <;> exact ⟨rfl, rfl, rfl, rfl⟩)
      obtain ⟨s1, hs1⟩ : ∃ y, takeIn1 sA ks = y := ⟨_, rfl⟩
      rw [hs1] at HPT1 HC1 HFE M
      clear hs1
      have hk11 := PB.k11 M.out.1
      have hc1 := M.out.2.2.2.1
      have hr0 := HPT1.out.r0
      have hpm2 := HPT1.out.small
      have hbal := HPT1.out.bal
      have hc0 := HPT1.out.c0
      have hmc := HPT1.out.mc
      have hsp := HFA.out.2.1.p
      have hsr := HFA.out.2.1.r
      have hc2 := HC1.out
      have hqq : 0 ≤ s1.c.r ∧ s1.c.r ≤ 1000000000 ∧ sumI s1.m ≤ 1000000000 := by have := hc2.1; have := hc2.2.1; have := hpm2.2.1; omega
      have HTK : Hid (∀ j, 0 ≤ sumI (s1.m.take j) ∧ sumI (s1.m.take j) ≤ sumI s1.m) := Lib.hid (fun j => sumI_tk s1.m j HPT1.out.nn)
      have hlnA : s1.m.length = np := by have a1 := HPT1.out.len; have a2 := HPM.out.len; have a3 := HNP.out; omega
      have HLN := Lib.hid hlnA
      have HGN : Hid (∀ j, 0 ≤ gti s1.m j ∧ gti s1.m j ≤ 1000000000) := Lib.hid (fun j => by have := hpm2.2.2 j; have := hc2.1; omega)
      clear hr0 hpm2 hbal hc0 hmc hsp hsr hc2 hlnA
      obtain ⟨e1, e2, e3⟩ := hqq
      go_wp2_with fail
      have M0 : Hid (Mem [Loc.pb (plA n (.slice A n.trans.length c) (.slice (some ⟨gm, 0, none⟩) np cm) ⟨s1.c.p, s1.c.c, s1.c.m, s1.c.r + sumI (s1.m.take 0)⟩ vr2 s1.big) g, Loc.owI gm (gm + 1) (.slice (some ⟨gm, 0, none⟩) np cm) s1.m, Loc.owI b0 b1 vr2 s1.run, Loc.c1 w.heap.size 0 (.pointer (some ⟨g, 0, none⟩)), Loc.rdT lo hi (.slice A n.trans.length c) n.trans, Loc.cg (plD g gm r0 r1) w] wc) := Lib.hid (by
        rw [List.take_zero]
        simp only [sumI, Int.add_zero]
        exact M.out)
      go_loopw [71, 5] (fun v71 _ wr => ∃ j : Nat, j ≤ np ∧ v71 = .int .i64 j ∧ b0 ≤ wr.heap.size ∧ b1 ≤ wr.heap.size ∧ Hid (Mem [Loc.pb (plA n (.slice A n.trans.length c) (.slice (some ⟨gm, 0, none⟩) np cm) ⟨s1.c.p, s1.c.c, s1.c.m, s1.c.r + sumI (s1.m.take j)⟩ vr2 s1.big) g, Loc.owI gm (gm + 1) (.slice (some ⟨gm, 0, none⟩) np cm) s1.m, Loc.owI b0 b1 vr2 s1.run, Loc.c1 w.heap.size 0 (.pointer (some ⟨g, 0, none⟩)), Loc.rdT lo hi (.slice A n.trans.length c) n.trans, Loc.cg (plD g gm r0 r1) w] wr)) (fun v71 _ _ => np - (intOf v71).toNat)
      case atStart => exact ⟨0, Nat.zero_le _, rfl, hb0, hb1, M0⟩
      case round =>
        clear M M0 hk11 hc1 hb0 hb1 hbs
        obtain ⟨j, hj, rfl, hb0, hb1, M⟩ := hrel
        have hk11 := PB.k11 M.out.1
        have hc1 := M.out.2.2.2.1
        have htk := HTK.out j
        by_cases hlt : j < np
        · have hat := OwnI.at1 M.out.2.1 (k := j) (by have := HLN.out; omega)
          have HSU : Hid (sumI (s1.m.take (j + 1)) = sumI (s1.m.take j) + gti s1.m j) := Lib.hid (sumI_take _ _ (by have := HLN.out; omega))
          have hgn := HGN.out j
          obtain ⟨q1, q2⟩ := htk
          obtain ⟨q3, q4⟩ := hgn
          generalize sumI (s1.m.take j) = S at *
          generalize gti s1.m j = X at *
          go_wp2_with fail
          have M1 := Lib.hid (Mem.step (a' := Loc.pb (plA n (.slice A n.trans.length c) (.slice (some ⟨gm, 0, none⟩) np cm) ⟨s1.c.p, s1.c.c, s1.c.m, s1.c.r + S + X⟩ vr2 s1.big) g) M.out (PB.set M.out.1 8 (.int .i64 (s1.c.r + S + X)) rfl) (Chg.set _ g 8 _) (by (repeat' (first | exact True.intro | refine And.intro (fun k hk e => ?_) ?_)) <;> (first | exact e | ((try dsimp only [Loc.c1, Loc.c2, Loc.k1, Loc.k2, Loc.k3, Loc.k4, Loc.k6, Loc.fr, Loc.bl, Loc.own, Loc.sz, Loc.rd, Loc.rdI, Loc.rdS, Loc.rdM, Loc.rdT, Loc.ow, Loc.owI, Loc.owN, Loc.set, Loc.ns, Loc.cg, Loc.pb, silD, plD] at hk e) <;> omega))))
          exact ⟨⟨j + 1, by omega, by go_num, by simp only [size_setCell]; exact hb0, by simp only [size_setCell]; exact hb1, Lib.hid (by rw [HSU.out, ← Int.add_assoc]; exact M1.out)⟩, by simp [intOf]; omega⟩
        · obtain rfl : j = np := by omega
          go_wp2_with fail
          go_end0
          refine HR.out _ _ ⟨vr2, b0, b1, rfl, ?_, hbb, hb0, hb1, M.out.2.2.2.2.2.1⟩
          rw [HFE.out, ← HC1.out.2.2.1, ← HC1.out.2.2.2]
          have hM := M.out
          rw [List.take_of_length_le (by rw [HLN.out]; exact Nat.le_refl _)] at hM
          exact ⟨hM.1, hM.2.1, hM.2.2.1, True.intro⟩
end Go.Proofs.Ytmhbfoaecebobaa
end
