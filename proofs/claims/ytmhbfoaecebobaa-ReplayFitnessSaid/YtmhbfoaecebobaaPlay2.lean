/-
  (*player).takeAll, play, finish. Conditions: none.
-/
import Derived.Test.YtmhbfoaecebobaaPlay1
import Derived.Test.YtmhbfoaecebobaaSil
namespace Go.Proofs.Ytmhbfoaecebobaa
set_option linter.unusedSimpArgs false
set_option linter.unusedVariables false
open Go.RowKit

theorem PM.c_ge {n : Net} {s : Pl} (h : PM n s) : 0 ≤ s.c.p ∧ 0 ≤ s.c.c ∧ 0 ≤ s.c.m := ⟨h.small.2.1, h.small.1, h.c0⟩
/-- the counters are small enough for k transitions more -/
structure Sm (s : Pl) (B : Nat) : Prop where
  p : s.c.p ≤ 40 * B
  c : s.c.c ≤ 40 * B
  r : s.c.r ≤ 40 * B
  l : s.run.length ≤ B
theorem Sm.take {n : Net} {s : Pl} {B : Nat} (h : Sm s B) (hv : validB n = true) {t : Nat} (ht : t < n.trans.length) : Sm (takeP n t s) (B + 1) := by
  obtain ⟨_, _, h1, h2⟩ := trans_in hv ht
  obtain ⟨h3, h4, h5, h6⟩ := takeP_c n t s
  rw [Int.toNat_natCast] at h3 h4
  refine ⟨?_, ?_, ?_, ?_⟩
  · rw [h4]; have := h.p; omega
  · rw [h3]; have := h.c; omega
  · rw [h5]; have := h.r; omega
  · rw [h6]; have := h.l; simp; omega
theorem Sm.all {n : Net} (hv : validB n = true) : ∀ {l : List Int} {s : Pl} {B : Nat}, Sm s B → (∀ t ∈ l, 0 ≤ t ∧ t < n.trans.length) → Sm (takeAll n l s) (B + l.length)
  | [], s, B, h, _ => h
  | t :: l, s, B, h, ht => by
    obtain ⟨h0, h1⟩ := ht t (List.mem_cons_self ..)
    obtain ⟨k, rfl⟩ : ∃ k : Nat, t = k := ⟨t.toNat, by omega⟩
    have := Sm.all hv (l := l) (h.take hv (t := k) (by omega)) (fun u hu => ht u (List.mem_cons_of_mem _ hu))
    rw [takeAll]
    have e : B + 1 + l.length = B + (↑k :: l).length := by simp; omega
    rw [← e]
    exact this
theorem PM.all {n : Net} (hv : validB n = true) : ∀ {l : List Int} {s : Pl}, PM n s → (∀ t ∈ l, 0 ≤ t ∧ t < n.trans.length) → PM n (takeAll n l s)
  | [], s, h, _ => h
  | t :: l, s, h, ht => PM.all hv (l := l) (s := takeP n t s) (h.take hv (ht t (List.mem_cons_self ..)).1 (ht t (List.mem_cons_self ..)).2) (fun u hu => ht u (List.mem_cons_of_mem _ hu))

set_option maxRecDepth 100000 in
set_option maxHeartbeats 2000000 in
theorem takeAll_any (n : Net) (s : Pl) (l : List Int) (B g gm np cm r0 r1 lo hi lw hw : Nat) (vt vr vl : Value) (w : World) (hv : RdT w lo hi vt n.trans) (hval : validB n = true) (hl : ∀ t ∈ l, 0 ≤ t ∧ t < n.trans.length) (hpm : PM n s) (hsm : Sm s B) (hB : B + l.length ≤ 900000)
    (hnp : s.m.length = np) (hM : Mem [Loc.pb (plA n (vt) (.slice (some ⟨gm, 0, none⟩) np cm) (s).c vr (s).big) g, Loc.owI gm (gm + 1) (.slice (some ⟨gm, 0, none⟩) np cm) (s).m, Loc.owI r0 r1 vr (s).run] w) (hg : g ≠ gm) (hgr : g < r0 ∨ r1 ≤ g) (hmr : gm < r0 ∨ r1 ≤ gm) (h1 : hi ≤ g) (h2 : hi ≤ gm) (h3 : hi ≤ r0) (h4 : r1 ≤ w.heap.size) (h5 : r0 ≤ w.heap.size)
    (hvl : RdI w lw hw vl l) (h6 : g < lw) (h7 : gm < lw) (h8 : r1 ≤ lw) (h9 : hw ≤ w.heap.size) :
    Calls Try.prog 74 #[.pointer (some ⟨g, 0, none⟩), vl] w fun e w' => ∃ vr' r0' r1', e = .returned (.tuple #[]) ∧ Mem [Loc.pb (plA n (vt) (.slice (some ⟨gm, 0, none⟩) np cm) (takeAll n l s).c vr' (takeAll n l s).big) g, Loc.owI gm (gm + 1) (.slice (some ⟨gm, 0, none⟩) np cm) (takeAll n l s).m, Loc.owI r0' r1' vr' (takeAll n l s).run] w' ∧ (r0' = r0 ∧ r1' = r1 ∨ w.heap.size ≤ r0') ∧ r0' ≤ w'.heap.size ∧ r1' ≤ w'.heap.size ∧ Chg (plD g gm r0 r1) w w' := by
  obtain ⟨A, c, rfl, hc, hmm⟩ := hvl.form
  have M : Hid (Mem [Loc.pb (plA n (vt) (.slice (some ⟨gm, 0, none⟩) np cm) (s).c vr (s).big) g, Loc.owI gm (gm + 1) (.slice (some ⟨gm, 0, none⟩) np cm) (s).m, Loc.owI r0 r1 vr (s).run, Loc.rdI lw hw (.slice A l.length c) l, Loc.rdT lo hi vt n.trans, Loc.cg (plD g gm r0 r1) w] w) := Lib.hid ⟨hM.1, hM.2.1, hM.2.2.1, hvl, hv, Chg.refl _ _, True.intro⟩
  have hgw : g < w.heap.size := PB.lt hM.1
  have hgmw : gm < w.heap.size := by
    have hnz := validB_places hval
    have hln := hpm.len
    obtain ⟨g', cap, hv', _, h5, h6⟩ := Own.blk hM.2.1 (by omega)
    injection hv' with hv' _ _
    injection hv' with hv'
    injection hv' with hv' _ _
    omega
  have HL := Lib.hid hl
  have HPM := Lib.hid hpm
  have HSM := Lib.hid hsm
  have HVAL := Lib.hid hval
  have HNP := Lib.hid hnp
  have HNL := Lib.hid (validB_places hval)
  clear hM hvl hv hl hpm hsm hval hnp
  refine calls_cps fun R hR => ?_
  have HR := Lib.hid hR
  clear hR
  go_enter Try.func74, Try.ntmps74
  go_wp2_with fail
  go_loopw [8, 5] (fun v8 _ wr => ∃ (j : Nat) (sj : Pl) (vrj : Value) (a0 a1 : Nat), j ≤ l.length ∧ v8 = .int .i64 j ∧ Hid (takeAll n (l.drop j) sj = takeAll n l s) ∧ Hid (PM n sj) ∧ Hid (Sm sj (B + j)) ∧ Hid (sj.m.length = np) ∧ (a0 = r0 ∧ a1 = r1 ∨ w.heap.size ≤ a0) ∧ a0 ≤ wr.heap.size ∧ a1 ≤ wr.heap.size ∧ Hid (Mem [Loc.pb (plA n (vt) (.slice (some ⟨gm, 0, none⟩) np cm) (sj).c vrj (sj).big) g, Loc.owI gm (gm + 1) (.slice (some ⟨gm, 0, none⟩) np cm) (sj).m, Loc.owI a0 a1 vrj (sj).run, Loc.rdI lw hw (.slice A l.length c) l, Loc.rdT lo hi vt n.trans, Loc.cg (plD g gm r0 r1) w] wr)) (fun v8 _ _ => l.length - (intOf v8).toNat)
  case atStart => exact ⟨0, s, vr, r0, r1, Nat.zero_le _, rfl, Lib.hid (by simp), HPM, HSM, HNP, .inl ⟨rfl, rfl⟩, h5, h4, M⟩
  case round =>
    clear M HPM HSM HNP
    obtain ⟨j, sj, vrj, a0, a1, hj, rfl, HT, HPM, HSM, HNP, haa, ha0, ha1, M⟩ := hrel
    by_cases hlt : j < l.length
    · have hkr := HL.out (gti l j) (gti_mem hlt)
      have HD : Hid (takeAll n (l.drop j) sj = takeAll n (l.drop (j + 1)) (takeP n (gti l j) sj)) := Lib.hid (by rw [drop_gti hlt]; rfl)
      obtain ⟨bi, oi, rfl, _, _, hci2⟩ := RdI.at1 M.out.2.2.2.1 hlt
      obtain ⟨kk, hkk⟩ : ∃ k : Nat, gti l j = k := ⟨(gti l j).toNat, by omega⟩
      rw [hkk] at HD hci2 hkr
      clear hkk
      have hkt : kk < n.trans.length := by omega
      have HTC := Lib.hid (take_any n sj kk g gm np cm a0 a1 lo hi vt vrj wr M.out.2.2.2.2.1 HVAL.out hkt HPM.out.pt (by have := HSM.out.p; omega) (by have := HSM.out.c; omega) (by have := HSM.out.l; omega) HNP.out ⟨M.out.1, M.out.2.1, M.out.2.2.1, True.intro⟩ hg (by omega) (by omega) h1 h2 (by omega) ha1 ha0)
      have HPn := Lib.hid (HPM.out.take HVAL.out hkr.1 hkr.2)
      have HSn := Lib.hid (HSM.out.take HVAL.out hkt)
      have hsw := M.out.2.2.2.2.2.1.size
      go_wp2_with (go_at_call 75; refine HTC.out.mono ?_; rintro e w1 ⟨vr2, b0, b1, rfl, hM2, hbb, hb0, hb1, hch⟩; have M2 : Hid (Mem [Loc.pb (plA n (vt) (.slice (some ⟨gm, 0, none⟩) np cm) (takeP n kk sj).c vr2 (takeP n kk sj).big) g, Loc.owI gm (gm + 1) (.slice (some ⟨gm, 0, none⟩) np cm) (takeP n kk sj).m, Loc.owI b0 b1 vr2 (takeP n kk sj).run, Loc.rdI lw hw (.slice (some ⟨bi, oi, none⟩) l.length c) l, Loc.rdT lo hi vt n.trans, Loc.cg (plD g gm r0 r1) w] w1) := Lib.hid ⟨hM2.1, hM2.2.1, hM2.2.2.1, Mem.chg hch M.out.2.2.2 (by (repeat' (first | exact True.intro | refine And.intro (fun k hk e => ?_) ?_)) <;> (first | exact e | ((try dsimp only [Loc.c1, Loc.c2, Loc.k1, Loc.k2, Loc.k3, Loc.k4, Loc.k6, Loc.fr, Loc.bl, Loc.own, Loc.sz, Loc.rd, Loc.rdI, Loc.rdS, Loc.rdM, Loc.rdT, Loc.ow, Loc.owI, Loc.owN, Loc.set, Loc.ns, Loc.cg, Loc.pb, silD, plD] at hk e) <;> omega)))⟩; have hs2 := hch.size; clear hM2 hch)
      refine ⟨⟨j + 1, takeP n kk sj, vr2, b0, b1, by omega, by go_num, Lib.hid (HD.out ▸ HT.out), HPn, HSn, Lib.hid (by have h1 := HPn.out.len; have h2 := HPM.out.len; have h3 := HNP.out; omega), by omega, hb0, hb1, M2⟩, by simp [intOf]; omega⟩
    · obtain rfl : j = l.length := by omega
      have HT1 : Hid (sj = takeAll n l s) := Lib.hid (by have := HT.out; rw [List.drop_length] at this; exact this)
      go_wp2_with fail
      go_end0
      refine HR.out _ _ ⟨vrj, a0, a1, rfl, ?_, haa, ha0, ha1, M.out.2.2.2.2.2.1⟩
      rw [← HT1.out]
      exact ⟨M.out.1, M.out.2.1, M.out.2.2.1, True.intro⟩
end Go.Proofs.Ytmhbfoaecebobaa
