/-
  (*player).take: the player in memory takes a transition. Conditions: none.
-/
import Derived.Test.YtmhbfoaecebobaaPlP
import Derived.Test.YtmhbfoaecebobaaSet2
namespace Go.Proofs.Ytmhbfoaecebobaa
set_option linter.unusedSimpArgs false
set_option linter.unusedVariables false
open Go.RowKit

abbrev plA (n : Net) (vt vm : Value) (c : Cnt) (vr : Value) (big : Bool) : Array Value := #[.int .i64 n.places, vt, .int .i64 n.source, .int .i64 n.sink, vm, .int .i64 c.p, .int .i64 c.c, .int .i64 c.m, .int .i64 c.r, vr, .bool big]
def PB (cs : Array Value) (g : Nat) (w : World) : Prop := w.heap[g]? = some (.cells cs 70 (0, 0))
abbrev Loc.pb (cs : Array Value) (g : Nat) : Loc := ⟨fun w => PB cs g w, fun k => k = g, fun h hd hp => (h.block g (Array.getElem?_eq_some_iff.1 hp).1 (hd g rfl)).trans hp⟩
abbrev K11 (w : World) (g : Nat) (a0 a1 a2 a3 a4 a5 a6 a7 a8 a9 a10 : Value) : Prop :=
  w.cell? ⟨g, 0, none⟩ = some a0 ∧ w.cell? ⟨g, 1, none⟩ = some a1 ∧ w.cell? ⟨g, 2, none⟩ = some a2 ∧ w.cell? ⟨g, 3, none⟩ = some a3 ∧ w.cell? ⟨g, 4, none⟩ = some a4 ∧ w.cell? ⟨g, 5, none⟩ = some a5 ∧ w.cell? ⟨g, 6, none⟩ = some a6 ∧ w.cell? ⟨g, 7, none⟩ = some a7 ∧ w.cell? ⟨g, 8, none⟩ = some a8 ∧ w.cell? ⟨g, 9, none⟩ = some a9 ∧ w.cell? ⟨g, 10, none⟩ = some a10 ∧
  w.frozen? ⟨g, 5, none⟩ = false ∧ w.frozen? ⟨g, 6, none⟩ = false ∧ w.frozen? ⟨g, 7, none⟩ = false ∧ w.frozen? ⟨g, 8, none⟩ = false ∧ w.frozen? ⟨g, 9, none⟩ = false ∧ w.frozen? ⟨g, 10, none⟩ = false
theorem PB.lt {cs : Array Value} {g : Nat} {w : World} (h : PB cs g w) : g < w.heap.size := (Array.getElem?_eq_some_iff.1 h).1
theorem PB.k11 {a0 a1 a2 a3 a4 a5 a6 a7 a8 a9 a10 : Value} {g : Nat} {w : World} (h : PB #[a0, a1, a2, a3, a4, a5, a6, a7, a8, a9, a10] g w) : K11 w g a0 a1 a2 a3 a4 a5 a6 a7 a8 a9 a10 := by
  have hc : ∀ i, w.cell? ⟨g, i, none⟩ = #[a0, a1, a2, a3, a4, a5, a6, a7, a8, a9, a10][i]? := fun i => cell_of_row w g i _ _ _ h
  have hf : ∀ i, w.frozen? ⟨g, i, none⟩ = false := fun i => by simp [World.frozen?, show w.heap[g]? = _ from h]
  exact ⟨hc 0, hc 1, hc 2, hc 3, hc 4, hc 5, hc 6, hc 7, hc 8, hc 9, hc 10, hf _, hf _, hf _, hf _, hf _, hf _⟩
theorem PB.set {cs cs' : Array Value} {g : Nat} {w : World} (h : PB cs g w) (i : Nat) (u : Value) (he : cs.setIfInBounds i u = cs') : PB cs' g (w.setCell ⟨g, i, none⟩ u) := by
  subst he
  unfold PB at h ⊢
  simp [World.setCell, Array.getElem?_modify, h]
abbrev plD (g gm r0 r1 : Nat) : Nat → Prop := fun k => k = g ∨ k = gm ∨ (r0 ≤ k ∧ k < r1)

theorem Mem.step2 {a b b' : Loc} {rest : List Loc} {D : Nat → Prop} {w W : World} (h : Mem (a :: b :: rest) w) (h' : b'.P W) (hc : Chg D w W) (ha : Apart D (a :: rest)) : Mem (a :: b' :: rest) W := ⟨a.keep hc (fun k hk hd => ha.1 k hk hd) h.1, h', h.2.2.chg hc ha.2⟩
set_option maxRecDepth 100000 in
set_option maxHeartbeats 4000000 in
theorem take_any (n : Net) (s : Pl) (t g gm np cm r0 r1 lo hi : Nat) (vt vr : Value) (w : World) (hv : RdT w lo hi vt n.trans) (hval : validB n = true) (ht : t < n.trans.length) (hpt : PT n s) (hcp : s.c.p ≤ 1000000000) (hcc : s.c.c ≤ 1000000000) (hrun : s.run.length ≤ 1000000)
    (hnp : s.m.length = np) (hM : Mem [Loc.pb (plA n (vt) (.slice (some ⟨gm, 0, none⟩) np cm) (s).c vr (s).big) g, Loc.owI gm (gm + 1) (.slice (some ⟨gm, 0, none⟩) np cm) (s).m, Loc.owI r0 r1 vr (s).run] w) (hg : g ≠ gm) (hgr : g < r0 ∨ r1 ≤ g) (hmr : gm < r0 ∨ r1 ≤ gm) (h1 : hi ≤ g) (h2 : hi ≤ gm) (h3 : hi ≤ r0) (h4 : r1 ≤ w.heap.size) (h5 : r0 ≤ w.heap.size) :
    Calls Try.prog 75 #[.pointer (some ⟨g, 0, none⟩), .int .i64 t] w fun e w' => ∃ vr' r0' r1', e = .returned (.tuple #[]) ∧ Mem [Loc.pb (plA n (vt) (.slice (some ⟨gm, 0, none⟩) np cm) (takeP n t s).c vr' (takeP n t s).big) g, Loc.owI gm (gm + 1) (.slice (some ⟨gm, 0, none⟩) np cm) (takeP n t s).m, Loc.owI r0' r1' vr' (takeP n t s).run] w' ∧ (r0' = r0 ∧ r1' = r1 ∨ w.heap.size ≤ r0') ∧ r0' ≤ w'.heap.size ∧ r1' ≤ w'.heap.size ∧ Chg (plD g gm r0 r1) w w' := by
  obtain ⟨A, c, rfl, hc, hmm⟩ := hv.form
  obtain ⟨b4, off4, vi, vo, rfl, _, _, hct, hri, hro⟩ := RdT.at3 hv ht
  obtain ⟨Ai, ci, rfl, hci, hmi⟩ := hri.form
  obtain ⟨Ao, co, rfl, hco, hmo⟩ := hro.form
  obtain ⟨Ar, cr, rfl, hcr, hmr2⟩ := hM.2.2.1.form
  have HTR := Lib.hid (trans_in hval ht)
  have HPT := Lib.hid hpt
  have HPL := Lib.hid (validB_places hval)
  have HTK : Hid (takeP n t s = takeEnd (takeOut (gti n.trans t).out (takeIn (gti n.trans t).inn s)) t) := Lib.hid rfl
  clear hv hpt hval
  obtain ⟨x, hx⟩ : ∃ x, gti n.trans t = x := ⟨_, rfl⟩
  rw [hx] at HTR HTK hct hri hro hci hmi hco hmo
  clear hx
  generalize takeP n t s = sE at *
  have M : Hid (Mem [Loc.pb (plA n (.slice (some ⟨b4, off4, none⟩) n.trans.length c) (.slice (some ⟨gm, 0, none⟩) np cm) (s).c (.slice Ar s.run.length cr) (s).big) g, Loc.owI gm (gm + 1) (.slice (some ⟨gm, 0, none⟩) np cm) (s).m, Loc.owI r0 r1 (.slice Ar s.run.length cr) (s).run, Loc.k3 w.heap.size (.string x.label) (.slice Ai x.inn.length ci) (.slice Ao x.out.length co), Loc.rdI lo hi (.slice Ai x.inn.length ci) x.inn, Loc.rdI lo hi (.slice Ao x.out.length co) x.out, Loc.cg (plD g gm r0 r1) w] (w.alloc (.cells #[.string x.label, .slice Ai x.inn.length ci, .slice Ao x.out.length co] 46))) := Lib.hid (by
    have hb : Below w.heap.size w (w.alloc (.cells #[.string x.label, .slice Ai x.inn.length ci, .slice Ao x.out.length co] 46)) := (Below.refl _ _).alloc (Nat.le_refl _) _
    have hal := hM.below hb
    exact ⟨hal.1, hal.2.1, hal.2.2.1, K3.new w _ _ _ _, hri.after hb, hro.after hb, ⟨hb.os, hb.tape, hb.output, hb.size, fun k hk _ => hb.block k hk⟩, True.intro⟩)
  have hgw : g < w.heap.size := PB.lt hM.1
  have hgmw : gm < w.heap.size := by
    have hnz := HPL.out.1
    have hln := HPT.out.len
    obtain ⟨g', cap, hv', _, h5, h6⟩ := Own.blk hM.2.1 (by omega)
    injection hv' with hv' _ _
    injection hv' with hv'
    injection hv' with hv' _ _
    omega
  have HMw := Lib.hid hM
  have HK11 := PB.k11 hM.1
  have HNP := Lib.hid hnp
  clear hM hri hro hnp
  refine calls_cps fun R hR => ?_
  have HR := Lib.hid hR
  clear hR
  go_enter Try.func75, Try.ntmps75
  have hk3 := M.out.2.2.2.1
  go_wp2_with fail
  have hgm : gm ≠ g := fun e => hg e.symm
  go_loopw [20, 6] (fun v20 _ wr => ∃ (j : Nat) (sj : Pl), j ≤ x.inn.length ∧ v20 = .int .i64 j ∧ Hid (takeIn (x.inn.drop j) sj = takeIn x.inn s) ∧ Hid (PT n sj) ∧ Hid (sj.run = s.run ∧ sj.big = s.big ∧ sj.c.p = s.c.p ∧ sj.c.c = s.c.c + j ∧ sj.m.length = np) ∧ Hid (Mem [Loc.pb (plA n (.slice (some ⟨b4, off4, none⟩) n.trans.length c) (.slice (some ⟨gm, 0, none⟩) np cm) (sj).c (.slice Ar s.run.length cr) (sj).big) g, Loc.owI gm (gm + 1) (.slice (some ⟨gm, 0, none⟩) np cm) (sj).m, Loc.owI r0 r1 (.slice Ar s.run.length cr) (sj).run, Loc.k3 w.heap.size (.string x.label) (.slice Ai x.inn.length ci) (.slice Ao x.out.length co), Loc.rdI lo hi (.slice Ai x.inn.length ci) x.inn, Loc.rdI lo hi (.slice Ao x.out.length co) x.out, Loc.cg (plD g gm r0 r1) w] wr)) (fun v20 _ _ => x.inn.length - (intOf v20).toNat)
  case atStart => exact ⟨0, s, Nat.zero_le _, rfl, Lib.hid (by simp), HPT, Lib.hid ⟨rfl, rfl, rfl, by simp, HNP.out⟩, M⟩
  case round =>
    clear M hk3 HK11
    obtain ⟨j, sj, hj, rfl, HT, HP, HS, M⟩ := hrel
    have hk3 := M.out.2.2.2.1
    have hk11 := PB.k11 M.out.1
    by_cases hlt : j < x.inn.length
    · have hkr := HTR.out.1 (gti x.inn j) (gti_mem hlt)
      have HD : Hid (takeIn (x.inn.drop j) sj = takeIn (x.inn.drop (j + 1)) (takeIn1 sj (gti x.inn j))) := Lib.hid (by rw [drop_gti hlt]; rfl)
      obtain ⟨bi, oi, rfl, _, _, hci2⟩ := RdI.at1 M.out.2.2.2.2.1 hlt
      obtain ⟨kk, hkk⟩ : ∃ k : Nat, gti x.inn j = k := ⟨(gti x.inn j).toNat, by omega⟩
      rw [hkk] at HD hci2 hkr
      clear hkk
      have hln := HP.out.len
      have hsl := HS.out.2.2.2.2
      have hk1 : kk < np := by omega
      have hat := OwnI.at1 M.out.2.1 (k := kk) (by omega)
      have hsm := HP.out.small
      have hm0 := hsm.2.2 kk
      have hcj := HS.out.2.2.2.1
      have hc0 := HP.out.c0
      have hmc := HP.out.mc
      have hpj := HS.out.2.2.1
      have hj40 := HTR.out.2.2.1
      have hb1 : 0 ≤ sj.c.c ∧ sj.c.c ≤ 1000000040 ∧ 0 ≤ sj.c.m ∧ sj.c.m ≤ 1000000040 ∧ 0 ≤ gti sj.m kk ∧ gti sj.m kk ≤ 1000000000 := by omega
      have HPn : Hid (PT n (takeIn1 sj kk)) := Lib.hid (HP.out.in1 hkr.1 hkr.2)
      clear hsm hm0 hcj hc0 hmc hpj hln hsl hj40
      obtain ⟨q1, q2, q3, q4, q5, q6⟩ := hb1
      by_cases hpos : 0 < gti sj.m kk
      · have HE : Hid (takeIn1 sj kk = ⟨sj.m.set kk (gti sj.m kk - 1), ⟨sj.c.p, sj.c.c + 1, sj.c.m, sj.c.r⟩, sj.run, sj.big⟩) := Lib.hid (by unfold takeIn1; simp only [Int.toNat_natCast]; rw [if_pos hpos])
        have hd1 : decide ((0 : Int) < gti sj.m kk) = true := by simpa using hpos
        go_wp2_with fail
        have MS1 := Mem.step (a' := Loc.pb (plA n (.slice (some ⟨b4, off4, none⟩) n.trans.length c) (.slice (some ⟨gm, 0, none⟩) np cm) ⟨sj.c.p, sj.c.c + 1, sj.c.m, sj.c.r⟩ (.slice Ar s.run.length cr) sj.big) g) M.out (PB.set M.out.1 6 (.int .i64 (sj.c.c + 1)) rfl) (Chg.set _ g 6 _) (by (repeat' (first | exact True.intro | refine And.intro (fun k hk e => ?_) ?_)) <;> (first | exact e | ((try dsimp only [Loc.c1, Loc.c2, Loc.k1, Loc.k2, Loc.k3, Loc.k4, Loc.k6, Loc.fr, Loc.bl, Loc.own, Loc.sz, Loc.rd, Loc.rdI, Loc.rdS, Loc.rdM, Loc.rdT, Loc.ow, Loc.owI, Loc.owN, Loc.set, Loc.ns, Loc.cg, Loc.pb, silD, plD] at hk e) <;> omega)))
        have MS2 := Mem.step2 (b' := Loc.owI gm (gm + 1) (.slice (some ⟨gm, 0, none⟩) np cm) (sj.m.set kk (gti sj.m kk - 1))) MS1 (OwnI.set MS1.2.1 kk (gti sj.m kk - 1)) (Chg.set _ gm kk _) (by (repeat' (first | exact True.intro | refine And.intro (fun k hk e => ?_) ?_)) <;> (first | exact e | ((try dsimp only [Loc.c1, Loc.c2, Loc.k1, Loc.k2, Loc.k3, Loc.k4, Loc.k6, Loc.fr, Loc.bl, Loc.own, Loc.sz, Loc.rd, Loc.rdI, Loc.rdS, Loc.rdM, Loc.rdT, Loc.ow, Loc.owI, Loc.owN, Loc.set, Loc.ns, Loc.cg, Loc.pb, silD, plD] at hk e) <;> omega)))
        exact ⟨⟨j + 1, takeIn1 sj kk, by omega, by go_num, Lib.hid (HD.out ▸ HT.out), HPn, Lib.hid (by
          rw [HE.out]
          refine ⟨HS.out.1, HS.out.2.1, HS.out.2.2.1, ?_, ?_⟩
          · have := HS.out.2.2.2.1; simp; omega
          · simpa using HS.out.2.2.2.2), Lib.hid (by rw [HE.out]; exact MS2)⟩, by simp [intOf]; omega⟩
      · have HE : Hid (takeIn1 sj kk = ⟨sj.m, ⟨sj.c.p, sj.c.c + 1, sj.c.m + 1, sj.c.r⟩, sj.run, sj.big⟩) := Lib.hid (by unfold takeIn1; simp only [Int.toNat_natCast]; rw [if_neg hpos])
        have hd1 : decide ((0 : Int) < gti sj.m kk) = false := by simpa using hpos
        go_wp2_with fail
        have MS1 := Mem.step (a' := Loc.pb (plA n (.slice (some ⟨b4, off4, none⟩) n.trans.length c) (.slice (some ⟨gm, 0, none⟩) np cm) ⟨sj.c.p, sj.c.c + 1, sj.c.m, sj.c.r⟩ (.slice Ar s.run.length cr) sj.big) g) M.out (PB.set M.out.1 6 (.int .i64 (sj.c.c + 1)) rfl) (Chg.set _ g 6 _) (by (repeat' (first | exact True.intro | refine And.intro (fun k hk e => ?_) ?_)) <;> (first | exact e | ((try dsimp only [Loc.c1, Loc.c2, Loc.k1, Loc.k2, Loc.k3, Loc.k4, Loc.k6, Loc.fr, Loc.bl, Loc.own, Loc.sz, Loc.rd, Loc.rdI, Loc.rdS, Loc.rdM, Loc.rdT, Loc.ow, Loc.owI, Loc.owN, Loc.set, Loc.ns, Loc.cg, Loc.pb, silD, plD] at hk e) <;> omega)))
        have MS2 := Mem.step (a' := Loc.pb (plA n (.slice (some ⟨b4, off4, none⟩) n.trans.length c) (.slice (some ⟨gm, 0, none⟩) np cm) ⟨sj.c.p, sj.c.c + 1, sj.c.m + 1, sj.c.r⟩ (.slice Ar s.run.length cr) sj.big) g) MS1 (PB.set MS1.1 7 (.int .i64 (sj.c.m + 1)) rfl) (Chg.set _ g 7 _) (by (repeat' (first | exact True.intro | refine And.intro (fun k hk e => ?_) ?_)) <;> (first | exact e | ((try dsimp only [Loc.c1, Loc.c2, Loc.k1, Loc.k2, Loc.k3, Loc.k4, Loc.k6, Loc.fr, Loc.bl, Loc.own, Loc.sz, Loc.rd, Loc.rdI, Loc.rdS, Loc.rdM, Loc.rdT, Loc.ow, Loc.owI, Loc.owN, Loc.set, Loc.ns, Loc.cg, Loc.pb, silD, plD] at hk e) <;> omega)))
        exact ⟨⟨j + 1, takeIn1 sj kk, by omega, by go_num, Lib.hid (HD.out ▸ HT.out), HPn, Lib.hid (by
          rw [HE.out]
          refine ⟨HS.out.1, HS.out.2.1, HS.out.2.2.1, ?_, ?_⟩
          · have := HS.out.2.2.2.1; simp; omega
          · simpa using HS.out.2.2.2.2), Lib.hid (by rw [HE.out]; exact MS2)⟩, by simp [intOf]; omega⟩
    · obtain rfl : j = x.inn.length := by omega
      have HT1 : Hid (sj = takeIn x.inn s) := Lib.hid (by have := HT.out; rw [List.drop_length] at this; exact this)
      clear HT
      go_wp2_with fail
      go_loopw [63, 8] (fun v63 _ wr => ∃ (j : Nat) (s2 : Pl), j ≤ x.out.length ∧ v63 = .int .i64 j ∧ Hid (takeOut (x.out.drop j) s2 = takeOut x.out (takeIn x.inn s)) ∧ Hid (PT n s2) ∧ Hid (s2.run = s.run ∧ s2.big = s.big ∧ s2.c.p = s.c.p + j ∧ s2.m.length = np) ∧ Hid (Mem [Loc.pb (plA n (.slice (some ⟨b4, off4, none⟩) n.trans.length c) (.slice (some ⟨gm, 0, none⟩) np cm) (s2).c (.slice Ar s.run.length cr) (s2).big) g, Loc.owI gm (gm + 1) (.slice (some ⟨gm, 0, none⟩) np cm) (s2).m, Loc.owI r0 r1 (.slice Ar s.run.length cr) (s2).run, Loc.k3 w.heap.size (.string x.label) (.slice Ai x.inn.length ci) (.slice Ao x.out.length co), Loc.rdI lo hi (.slice Ai x.inn.length ci) x.inn, Loc.rdI lo hi (.slice Ao x.out.length co) x.out, Loc.cg (plD g gm r0 r1) w] wr)) (fun v63 _ _ => x.out.length - (intOf v63).toNat)
      case atStart => exact ⟨0, sj, Nat.zero_le _, rfl, Lib.hid (by rw [HT1.out]; rfl), HP, Lib.hid ⟨HS.out.1, HS.out.2.1, by have := HS.out.2.2.1; simp; omega, HS.out.2.2.2.2⟩, M⟩
      case round =>
        clear M hk3 hk11 HS HP HT1 hj
        obtain ⟨j, s2, hj, rfl, HT, HP, HS, M⟩ := hrel
        have hk3 := M.out.2.2.2.1
        have hk11 := PB.k11 M.out.1
        by_cases hlt : j < x.out.length
        · have hkr := HTR.out.2.1 (gti x.out j) (gti_mem hlt)
          have HD : Hid (takeOut (x.out.drop j) s2 = takeOut (x.out.drop (j + 1)) (takeOut1 s2 (gti x.out j))) := Lib.hid (by rw [drop_gti hlt]; rfl)
          obtain ⟨bi, oi, rfl, _, _, hci2⟩ := RdI.at1 M.out.2.2.2.2.2.1 hlt
          obtain ⟨kk, hkk⟩ : ∃ k : Nat, gti x.out j = k := ⟨(gti x.out j).toNat, by omega⟩
          rw [hkk] at HD hci2 hkr
          clear hkk
          have hln := HP.out.len
          have hsl := HS.out.2.2.2
          have hk1 : kk < np := by omega
          have hat := OwnI.at1 M.out.2.1 (k := kk) (by omega)
          have hsm := HP.out.small
          have hm0 := hsm.2.2 kk
          have hpj := HS.out.2.2.1
          have hj40 := HTR.out.2.2.2
          have hb1 : 0 ≤ s2.c.p ∧ s2.c.p ≤ 1000000040 ∧ 0 ≤ gti s2.m kk ∧ gti s2.m kk ≤ 1000000040 := by omega
          have HPn : Hid (PT n (takeOut1 s2 kk)) := Lib.hid (HP.out.out1 hkr.1 hkr.2)
          have HE : Hid (takeOut1 s2 kk = ⟨s2.m.set kk (gti s2.m kk + 1), ⟨s2.c.p + 1, s2.c.c, s2.c.m, s2.c.r⟩, s2.run, s2.big⟩) := Lib.hid rfl
          clear hsm hm0 hpj hln hsl hj40
          obtain ⟨q1, q2, q3, q4⟩ := hb1
          go_wp2_with fail
          have MS1 := Mem.step (a' := Loc.pb (plA n (.slice (some ⟨b4, off4, none⟩) n.trans.length c) (.slice (some ⟨gm, 0, none⟩) np cm) ⟨s2.c.p + 1, s2.c.c, s2.c.m, s2.c.r⟩ (.slice Ar s.run.length cr) s2.big) g) M.out (PB.set M.out.1 5 (.int .i64 (s2.c.p + 1)) rfl) (Chg.set _ g 5 _) (by (repeat' (first | exact True.intro | refine And.intro (fun k hk e => ?_) ?_)) <;> (first | exact e | ((try dsimp only [Loc.c1, Loc.c2, Loc.k1, Loc.k2, Loc.k3, Loc.k4, Loc.k6, Loc.fr, Loc.bl, Loc.own, Loc.sz, Loc.rd, Loc.rdI, Loc.rdS, Loc.rdM, Loc.rdT, Loc.ow, Loc.owI, Loc.owN, Loc.set, Loc.ns, Loc.cg, Loc.pb, silD, plD] at hk e) <;> omega)))
          have MS2 := Mem.step2 (b' := Loc.owI gm (gm + 1) (.slice (some ⟨gm, 0, none⟩) np cm) (s2.m.set kk (gti s2.m kk + 1))) MS1 (OwnI.set MS1.2.1 kk (gti s2.m kk + 1)) (Chg.set _ gm kk _) (by (repeat' (first | exact True.intro | refine And.intro (fun k hk e => ?_) ?_)) <;> (first | exact e | ((try dsimp only [Loc.c1, Loc.c2, Loc.k1, Loc.k2, Loc.k3, Loc.k4, Loc.k6, Loc.fr, Loc.bl, Loc.own, Loc.sz, Loc.rd, Loc.rdI, Loc.rdS, Loc.rdM, Loc.rdT, Loc.ow, Loc.owI, Loc.owN, Loc.set, Loc.ns, Loc.cg, Loc.pb, silD, plD] at hk e) <;> omega)))
          exact ⟨⟨j + 1, takeOut1 s2 kk, by omega, by go_num, Lib.hid (HD.out ▸ HT.out), HPn, Lib.hid (by
            rw [HE.out]
            refine ⟨HS.out.1, HS.out.2.1, ?_, ?_⟩
            · have := HS.out.2.2.1; simp; omega
            · simpa using HS.out.2.2.2), Lib.hid (by rw [HE.out]; exact MS2)⟩, by simp [intOf]; omega⟩
        · obtain rfl : j = x.out.length := by omega
          have HT1 : Hid (s2 = takeOut x.out (takeIn x.inn s)) := Lib.hid (by have := HT.out; rw [List.drop_length] at this; exact this)
          have HRL : Hid (s2.run.length = s.run.length) := Lib.hid (by rw [HS.out.1])
          have HEE : Hid (sE = ⟨s2.m, s2.c, s2.run ++ [(t : Int)], s2.big || decide (100 < maxL s2.m)⟩) := Lib.hid (by rw [HTK.out, ← HT1.out]; rfl)
          have HLP : Hid (0 < s2.m.length) := Lib.hid (by have := HP.out.len; have := HPL.out; omega)
          obtain ⟨zb, hzb⟩ : ∃ z, s2.big = z := ⟨_, rfl⟩
          rw [hzb] at HEE M hk11
          clear hzb HT HT1
          have hsz := M.out.2.2.2.2.2.2.1.size
          cases zb with
          | true =>
            go_wp2_with (first | (at_builtin; refine wpList_app2 rfl _ _ rfl ti_int (fun _ => rfl) oneI rfl rfl (Mem.cons (a := Loc.owI r0 r1 _ s2.run) (M.out.alloc _).2.2.1 (Mem.cons (a := Loc.pb _ g) (M.out.alloc _).1 (Mem.cons (a := Loc.owI gm (gm + 1) _ s2.m) (M.out.alloc _).2.1 (M.out.alloc _).2.2.2))) (by (repeat' (first | exact True.intro | refine And.intro (fun k hk e => ?_) ?_)) <;> (first | exact e | ((try dsimp only [Loc.c1, Loc.c2, Loc.k1, Loc.k2, Loc.k3, Loc.k4, Loc.k6, Loc.fr, Loc.bl, Loc.own, Loc.sz, Loc.rd, Loc.rdI, Loc.rdS, Loc.rdM, Loc.rdT, Loc.ow, Loc.owI, Loc.owN, Loc.set, Loc.ns, Loc.cg, Loc.pb, silD, plD] at hk e) <;> omega))) (RdI.lit1 _ _ _) (by rw [HRL.out]; simp; omega) (by rw [HRL.out]; simp; omega) (by simp; omega) ?_; intro A9 c9 w9 q0 q1 hq9 hM9 hs9 hch9; have M9 := Lib.hid hM9; simp only [World.size_alloc] at hs9 hq9; clear hM9 hch9; replace hk11 := PB.k11 M9.out.2.1; have MB := Lib.hid (Mem.step (a' := Loc.pb (plA n (.slice (some ⟨b4, off4, none⟩) n.trans.length c) (.slice (some ⟨gm, 0, none⟩) np cm) s2.c (.slice A9 (s2.run.length + 1) c9) true) g) (Mem.cons (a := Loc.pb _ g) M9.out.2.1 (Mem.cons (a := Loc.owI q0 q1 _ (s2.run ++ [(t : Int)])) M9.out.1 M9.out.2.2)) (PB.set M9.out.2.1 9 (.slice A9 (s2.run.length + 1) c9) rfl) (Chg.set _ g 9 _) (by (repeat' (first | exact True.intro | refine And.intro (fun k hk e => ?_) ?_)) <;> (first | exact e | ((try dsimp only [Loc.c1, Loc.c2, Loc.k1, Loc.k2, Loc.k3, Loc.k4, Loc.k6, Loc.fr, Loc.bl, Loc.own, Loc.sz, Loc.rd, Loc.rdI, Loc.rdS, Loc.rdM, Loc.rdT, Loc.ow, Loc.owI, Loc.owN, Loc.set, Loc.ns, Loc.cg, Loc.pb, silD, plD] at hk e) <;> omega))))))
            have MC := Mem.step (a' := Loc.pb (plA n (.slice (some ⟨b4, off4, none⟩) n.trans.length c) (.slice (some ⟨gm, 0, none⟩) np cm) s2.c (.slice A9 (s2.run.length + 1) c9) (true)) g) MB.out (PB.set MB.out.1 10 (.bool (true)) rfl) (Chg.set _ g 10 _) (by (repeat' (first | exact True.intro | refine And.intro (fun k hk e => ?_) ?_)) <;> (first | exact e | ((try dsimp only [Loc.c1, Loc.c2, Loc.k1, Loc.k2, Loc.k3, Loc.k4, Loc.k6, Loc.fr, Loc.bl, Loc.own, Loc.sz, Loc.rd, Loc.rdI, Loc.rdS, Loc.rdM, Loc.rdT, Loc.ow, Loc.owI, Loc.owN, Loc.set, Loc.ns, Loc.cg, Loc.pb, silD, plD] at hk e) <;> omega)))
            go_end0
            refine HR.out _ _ ⟨.slice A9 (s2.run.length + 1) c9, q0, q1, rfl, ?_, ?_, ?_, ?_, MC.2.2.2.2.2.2.1⟩
            · rw [HEE.out]
              exact ⟨MC.1, MC.2.2.1, MC.2.1, True.intro⟩
            · omega
            · simp only [size_setCell]; omega
            · simp only [size_setCell]; omega
          | false =>
            go_wp2_with (first
              | (at_builtin; refine wpList_app2 rfl _ _ rfl ti_int (fun _ => rfl) oneI rfl rfl (Mem.cons (a := Loc.owI r0 r1 _ s2.run) (M.out.alloc _).2.2.1 (Mem.cons (a := Loc.pb _ g) (M.out.alloc _).1 (Mem.cons (a := Loc.owI gm (gm + 1) _ s2.m) (M.out.alloc _).2.1 (M.out.alloc _).2.2.2))) (by (repeat' (first | exact True.intro | refine And.intro (fun k hk e => ?_) ?_)) <;> (first | exact e | ((try dsimp only [Loc.c1, Loc.c2, Loc.k1, Loc.k2, Loc.k3, Loc.k4, Loc.k6, Loc.fr, Loc.bl, Loc.own, Loc.sz, Loc.rd, Loc.rdI, Loc.rdS, Loc.rdM, Loc.rdT, Loc.ow, Loc.owI, Loc.owN, Loc.set, Loc.ns, Loc.cg, Loc.pb, silD, plD] at hk e) <;> omega))) (RdI.lit1 _ _ _) (by rw [HRL.out]; simp; omega) (by rw [HRL.out]; simp; omega) (by simp; omega) ?_; intro A9 c9 w9 q0 q1 hq9 hM9 hs9 hch9; have M9 := Lib.hid hM9; simp only [World.size_alloc] at hs9 hq9; clear hM9 hch9; replace hk11 := PB.k11 M9.out.2.1; have MB := Lib.hid (Mem.step (a' := Loc.pb (plA n (.slice (some ⟨b4, off4, none⟩) n.trans.length c) (.slice (some ⟨gm, 0, none⟩) np cm) s2.c (.slice A9 (s2.run.length + 1) c9) false) g) (Mem.cons (a := Loc.pb _ g) M9.out.2.1 (Mem.cons (a := Loc.owI q0 q1 _ (s2.run ++ [(t : Int)])) M9.out.1 M9.out.2.2)) (PB.set M9.out.2.1 9 (.slice A9 (s2.run.length + 1) c9) rfl) (Chg.set _ g 9 _) (by (repeat' (first | exact True.intro | refine And.intro (fun k hk e => ?_) ?_)) <;> (first | exact e | ((try dsimp only [Loc.c1, Loc.c2, Loc.k1, Loc.k2, Loc.k3, Loc.k4, Loc.k6, Loc.fr, Loc.bl, Loc.own, Loc.sz, Loc.rd, Loc.rdI, Loc.rdS, Loc.rdM, Loc.rdT, Loc.ow, Loc.owI, Loc.owN, Loc.set, Loc.ns, Loc.cg, Loc.pb, silD, plD] at hk e) <;> omega)))))
              | (go_at_call 98; refine (maxL_any s2.m _ gm (gm + 1) _ (Own.rd MB.out.2.2.1) HLP.out).mono ?_; rintro e w10 ⟨rfl, hb10⟩; replace MB := Lib.hid (MB.out.below hb10); have hz10 := hb10.size; simp only [size_setCell] at hz10; clear hb10; replace hk11 := PB.k11 MB.out.1))
            have MC := Mem.step (a' := Loc.pb (plA n (.slice (some ⟨b4, off4, none⟩) n.trans.length c) (.slice (some ⟨gm, 0, none⟩) np cm) s2.c (.slice A9 (s2.run.length + 1) c9) (decide ((100 : Int) < maxL s2.m))) g) MB.out (PB.set MB.out.1 10 (.bool (decide ((100 : Int) < maxL s2.m))) rfl) (Chg.set _ g 10 _) (by (repeat' (first | exact True.intro | refine And.intro (fun k hk e => ?_) ?_)) <;> (first | exact e | ((try dsimp only [Loc.c1, Loc.c2, Loc.k1, Loc.k2, Loc.k3, Loc.k4, Loc.k6, Loc.fr, Loc.bl, Loc.own, Loc.sz, Loc.rd, Loc.rdI, Loc.rdS, Loc.rdM, Loc.rdT, Loc.ow, Loc.owI, Loc.owN, Loc.set, Loc.ns, Loc.cg, Loc.pb, silD, plD] at hk e) <;> omega)))
            go_end0
            refine HR.out _ _ ⟨.slice A9 (s2.run.length + 1) c9, q0, q1, rfl, ?_, ?_, ?_, ?_, MC.2.2.2.2.2.2.1⟩
            · rw [HEE.out]
              exact ⟨MC.1, MC.2.2.1, MC.2.1, True.intro⟩
            · omega
            · simp only [size_setCell]; omega
            · simp only [size_setCell]; omega
end Go.Proofs.Ytmhbfoaecebobaa
