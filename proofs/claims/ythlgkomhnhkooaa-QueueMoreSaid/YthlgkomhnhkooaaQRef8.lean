/-
  Walks of casebookref52: Loss. Conditions: none.
-/
import Derived.Test.YthlgkomhnhkooaaQRef7
import Derived.Test.YthlgkomhnhkooaaQSpec11
namespace Go.Proofs.Ythlgkomhnhkooaa
set_option linter.unusedSimpArgs false
set_option linter.unusedVariables false
open Go.RowKit

/-- a fraction, or nothing, as the reference returns it -/
def gF (o : Option Fr) : Fr := o.getD ⟨0, 0⟩

set_option maxRecDepth 100000 in
set_option maxHeartbeats 8000000 in
theorem rLoss_any (ar se : Fr) (sv cp : Nat) (w : World) (hq : QOk ar se sv cp) :
    Calls Try.prog 17 #[.agg #[.int .i64 ar.n, .int .i64 ar.d, .int .i64 se.n, .int .i64 se.d, .int .i64 sv, .int .i64 cp]] w fun e w' => e = .returned (.tuple #[.agg #[.int .i64 (gF (lossQ ar se sv cp)).n, .int .i64 (gF (lossQ ar se sv cp)).d], .bool (lossQ ar se sv cp).isSome]) ∧ Below w.heap.size w w' := by
  have hv1 := hq.v1
  have hv2 := hq.v2
  have hc1 := hq.c1
  have hc2 := hq.c2
  refine calls_cps fun R hR => ?_
  have HR := Lib.hid hR
  clear hR
  go_enter Try.func17, Try.ntmps17
  go_wp2_with fail
  have M0 : Mem [Loc.k6 w.heap.size (.int .i64 ar.n) (.int .i64 ar.d) (.int .i64 se.n) (.int .i64 se.d) (.int .i64 sv) (.int .i64 cp), Loc.bl w.heap.size w] (w.alloc (.cells #[.int .i64 ar.n, .int .i64 ar.d, .int .i64 se.n, .int .i64 se.d, .int .i64 sv, .int .i64 cp] 25)) := ⟨K6.new w _ _ _ _ _ _ _, ⟨(Below.refl _ _).alloc (Nat.le_refl _) _, by simp⟩, True.intro⟩
  have r0 := K2.new (w.alloc (.cells #[.int .i64 ar.n, .int .i64 ar.d, .int .i64 se.n, .int .i64 se.d, .int .i64 sv, .int .i64 cp] 25)) (.int .i64 0) (.int .i64 0) 23
  simp only [World.size_alloc] at r0
  have M1 : Mem [Loc.k2 (w.heap.size + 1) (.int .i64 0) (.int .i64 0), Loc.k6 w.heap.size (.int .i64 ar.n) (.int .i64 ar.d) (.int .i64 se.n) (.int .i64 se.d) (.int .i64 sv) (.int .i64 cp), Loc.bl w.heap.size w] _ := ⟨r0, M0.alloc _⟩
  refine (rStationary_any ar se sv cp _ hq).mono ?_
  rintro e w1 ⟨v, x, r, rfl, hb1, rf1, hE⟩
  replace M1 := M1.below hb1
  have hz1 := hb1.size
  simp at hz1 rf1
  clear hb1 M0 r0
  have hfin : lossQ ar se sv cp = none → ∀ W : World, Below w.heap.size w W → R (.returned (.tuple #[.agg #[.int .i64 0, .int .i64 0], .bool false])) W := by
    intro hno W hb
    refine HR.out _ _ ⟨?_, hb⟩
    rw [hno]
    rfl
  have HFIN := Lib.hid hfin
  clear hfin
  cases x with
  | false =>
    have hno : lossQ ar se sv cp = none := by
      rcases hE with ⟨h, _⟩ | ⟨_, _, h⟩
      · cases h
      · unfold lossQ; rw [h]; rfl
    have HNO := Lib.hid hno
    have r1 := M1.1
    have HB := Lib.hid M1.2.2.1.1
    clear hno hE rf1 M1
    go_wp2_with fail
    refine ret_B2_tmp (x := .int .i64 0) (y := .int .i64 0) (z := .bool false) rfl rfl rfl rfl (K2.set r1 _ _) (HFIN.out HNO.out _ ?_)
    have := HB.out
    (repeat (first | exact Below.refl _ _ | assumption | refine Below.setCell ?_ (by first | omega | (simp; done) | (simp; omega)) _ | refine Below.alloc ?_ (by first | omega | (simp; done) | (simp; omega)) _ | refine Below.drew ?_ | refine below_drewN ?_ _))
  | true =>
    have hs : r.length = cp + 1 ∧ (statQ ar se sv cp).map (·.1) = some r := by
      rcases hE with ⟨_, h1, h2⟩ | ⟨h, _⟩
      · exact ⟨h1, h2⟩
      · cases h
    obtain ⟨b, hst⟩ : ∃ b, statQ ar se sv cp = some (r, b) := by
      cases h : statQ ar se sv cp with
      | none => rw [h] at hs; cases hs.2
      | some p => rw [h] at hs; have := hs.2; injection this with h3; exact ⟨p.2, by rw [← h3]⟩
    have hg := statQ_good hq hst
    have hlr : lrowQ se sv = some (rw' b sv) := leaveQ_some hg.2.2.2 sv (Nat.le_refl _)
    have hLQ : lossQ ar se sv cp = fmul (gt r cp) (gt (rw' b sv) 0) := by unfold lossQ; rw [hst]; rfl
    have HMU := Lib.hid (show mulE (gt r cp) (gt (rw' b sv) 0) = FE.of (lossQ ar se sv cp) by rw [hLQ]; exact mulE_ok (gt_nn hg.2.1 cp).1 (leave_lt hq hg.2.2.2).2.1)
    have HLR := Lib.hid hlr
    obtain ⟨rA, rc, rfl, hrc, hrm⟩ := rf1.form
    have hrl : cp + 1 ≤ r.length ∧ r.length ≤ cp + 1 := by omega
    have M2 : Mem [Loc.rdF (w.heap.size + 1 + 1) w1.heap.size (.slice rA r.length rc) r, Loc.k2 (w.heap.size + 1) (.int .i64 0) (.int .i64 0), Loc.k6 w.heap.size (.int .i64 ar.n) (.int .i64 ar.d) (.int .i64 se.n) (.int .i64 se.d) (.int .i64 sv) (.int .i64 cp), Loc.bl w.heap.size w] w1 := ⟨rf1, M1⟩
    clear hE hs hst hg hlr hLQ rf1 M1
    have q1 := M2.2.2.1
    go_wp2_with fail
    have k0 := K1.new w1 (.bool false) 66
    replace M2 := M2.alloc (.cells #[.bool false] 66)
    refine (rleave_any ar se sv cp sv w1.heap.size _ k0 hq.os hv2).mono ?_
    rintro e w2 ⟨bV, l, x, rfl, c2, ho2, rf2, hE⟩
    replace M2 := M2.off ho2 (by (repeat' (first | exact True.intro | refine And.intro (fun k hk e => ?_) ?_)) <;> (first | exact e | ((try dsimp only [Loc.c1, Loc.c2, Loc.k1, Loc.k2, Loc.k6, Loc.rdF, Loc.rdFF, Loc.all2, Loc.fr, Loc.bl, Loc.own, Loc.sz] at hk e) <;> omega)))
    have hz2 := ho2.size
    simp at hz2 rf2
    have hxl : x = false ∧ l = rw' b sv := by
      rcases hE with ⟨h1, h2⟩ | ⟨_, h2⟩
      · rw [HLR.out] at h2; injection h2 with h2; exact ⟨h1, h2.symm⟩
      · rw [HLR.out] at h2; cases h2
    obtain ⟨rfl, rfl⟩ := hxl
    have hbl : (rw' b sv).length = sv + 1 := lrowQ_len HLR.out
    obtain ⟨bA, bc, rfl, hbc, hbm⟩ := rf2.form
    have hbl1 : 0 < (rw' b sv).length := by omega
    clear hE ho2 k0 q1 hbl
    obtain ⟨rb, roff, rfl, lo1, hi1, f1, f2⟩ := RdF.at2 M2.1 (gt_get (l := r) (i := cp) (by omega))
    obtain ⟨bb, boff, rfl, lo2, hi2, f3, f4⟩ := RdF.at2 rf2 (gt_get (l := rw' b sv) (i := 0) hbl1)
    simp only [Nat.zero_mul, Nat.add_zero] at f3 f4
    have q2 := M2.2.2.1
    have hcr : (cp : Int) < (r.length : Int) := by omega
    have S : Mem [Loc.k6 w.heap.size (.int .i64 ar.n) (.int .i64 ar.d) (.int .i64 se.n) (.int .i64 se.d) (.int .i64 sv) (.int .i64 cp), Loc.c2 rb (roff + cp * 2) (.int .i64 (gt r cp).n) (.int .i64 (gt r cp).d), Loc.c2 bb boff (.int .i64 (gt (rw' b sv) 0).n) (.int .i64 (gt (rw' b sv) 0).d)] w2 := ⟨q2, ⟨f1, f2⟩, ⟨f3, f4⟩, True.intro⟩
    have M : Mem [Loc.k2 (w.heap.size + 1) (.int .i64 0) (.int .i64 0), Loc.bl w.heap.size w] w2 := ⟨M2.2.1, M2.2.2.2⟩
    clear q2 f1 f2 f3 f4 rf2 M2
    obtain ⟨o, ho⟩ : ∃ o, lossQ ar se sv cp = o := ⟨_, rfl⟩
    rw [ho] at HMU
    have HO := Lib.hid ho
    clear ho
    obtain ⟨m, hm⟩ : ∃ m : Fr, (⟨(FE.of o).n, (FE.of o).d⟩ : Fr) = m := ⟨_, rfl⟩
    obtain ⟨y, hy⟩ : ∃ y, (false || ((FE.of o).e != 0)) = y := ⟨_, rfl⟩
    have HMY := Lib.hid (opR (E := FE.of o) rfl hy hm)
    have HM := Lib.hid (show (FE.of o).n = m.n ∧ (FE.of o).d = m.d by rw [← hm]; exact ⟨rfl, rfl⟩)
    have HY := Lib.hid hy
    clear hm hy
    go_upto_region 8 with (fail)
    go_cut [8] (fun s8 wx => ∃ mb : Nat, s8 = .pointer (some ⟨mb, 0, none⟩) ∧ K1 wx w1.heap.size (.bool y) ∧ K2 wx mb (.int .i64 m.n) (.int .i64 m.d) ∧ Mem [Loc.k2 (w.heap.size + 1) (.int .i64 0) (.int .i64 0), Loc.bl w.heap.size w] wx)
    case first =>
      go_region_held3 (fun W => K6 W w.heap.size (.int .i64 ar.n) (.int .i64 ar.d) (.int .i64 se.n) (.int .i64 se.d) (.int .i64 sv) (.int .i64 cp) ∧ C2 W rb (roff + cp * 2) (.int .i64 (gt r cp).n) (.int .i64 (gt r cp).d) ∧ C2 W bb boff (.int .i64 (gt (rw' b sv) 0).n) (.int .i64 (gt (rw' b sv) 0).d) ∧ True) (first | exact S | exact S.alloc _ | exact S.set2 (by (repeat' (first | exact True.intro | refine And.intro (fun k hk e => ?_) ?_)) <;> (first | exact e | ((try dsimp only [Loc.c1, Loc.c2, Loc.k1, Loc.k2, Loc.k6, Loc.rdF, Loc.rdFF, Loc.all2, Loc.fr, Loc.bl, Loc.own, Loc.sz] at hk e) <;> omega)))) ((go_at_call 49; refine (cmul_any (gt r cp) (gt (rw' b sv) 0) w1.heap.size false _ (by first | exact c2 | exact K1.alloc c2 _)).mono ?_; rintro e w4 ⟨rfl, hc4, ho4⟩; rw [HMU.out, HM.out.1, HM.out.2]; rw [HMU.out, HY.out] at hc4; replace M := Mem.off (by first | exact M.drew | exact (M.alloc _).drew) ho4 (by (repeat' (first | exact True.intro | refine And.intro (fun k hk e => ?_) ?_)) <;> (first | exact e | ((try dsimp only [Loc.c1, Loc.c2, Loc.k1, Loc.k2, Loc.k6, Loc.rdF, Loc.rdFF, Loc.all2, Loc.fr, Loc.bl, Loc.own, Loc.sz] at hk e) <;> omega))); replace S := Mem.off (by first | exact S.drew | exact (S.alloc _).drew) ho4 (by (repeat' (first | exact True.intro | refine And.intro (fun k hk e => ?_) ?_)) <;> (first | exact e | ((try dsimp only [Loc.c1, Loc.c2, Loc.k1, Loc.k2, Loc.k6, Loc.rdF, Loc.rdFF, Loc.all2, Loc.fr, Loc.bl, Loc.own, Loc.sz] at hk e) <;> omega))); (first | have s0 := K2.oft ho4 (K2.newd w2 (.int .i64 0) (.int .i64 0) 23) (by omega) | skip); have hs4 := ho4.size; (try simp at hs4); clear ho4))
      · go_wp2_with fail
        go_meet
        exact ⟨w4.heap.size, rfl, K1.alloc hc4 _, K2.new _ _ _ _, M.alloc _⟩
      · go_wp2_with fail
        go_meet
        exact ⟨w2.heap.size, rfl, K1.far2 hc4 (by omega) _ _, K2.set s0 _ _, M.set2 (by (repeat' (first | exact True.intro | refine And.intro (fun k hk e => ?_) ?_)) <;> (first | exact e | ((try dsimp only [Loc.c1, Loc.c2, Loc.k1, Loc.k2, Loc.k6, Loc.rdF, Loc.rdFF, Loc.all2, Loc.fr, Loc.bl, Loc.own, Loc.sz] at hk e) <;> omega)))⟩
    case rest =>
      clear M S c2
      obtain ⟨mb, rfl, c2, m2, M⟩ := hcut
      have r1 := M.1
      have HB := Lib.hid M.2.1.1
      clear M
      cases y with
      | true =>
        have HNO : Hid (lossQ ar se sv cp = none) := Lib.hid (by
          rw [HO.out]
          rcases HMY.out with ⟨h, _⟩ | ⟨_, h⟩
          · cases h
          · exact h)
        go_wp2_with fail
        refine ret_B2_tmp (x := .int .i64 0) (y := .int .i64 0) (z := .bool false) rfl rfl rfl rfl (K2.set r1 _ _) (HFIN.out HNO.out _ ?_)
        have := HB.out
        (repeat (first | exact Below.refl _ _ | assumption | refine Below.setCell ?_ (by first | omega | (simp; done) | (simp; omega)) _ | refine Below.alloc ?_ (by first | omega | (simp; done) | (simp; omega)) _ | refine Below.drew ?_ | refine below_drewN ?_ _))
      | false =>
        have HSO : Hid (lossQ ar se sv cp = some m) := Lib.hid (by
          rw [HO.out]
          rcases HMY.out with ⟨_, h⟩ | ⟨h, _⟩
          · exact h
          · cases h)
        go_wp2_with fail
        refine ret_B2_tmp (x := .int .i64 m.n) (y := .int .i64 m.d) (z := .bool true) rfl rfl rfl rfl (K2.set r1 _ _) (HR.out _ _ ⟨by rw [HSO.out]; rfl, ?_⟩)
        have := HB.out
        (repeat (first | exact Below.refl _ _ | assumption | refine Below.setCell ?_ (by first | omega | (simp; done) | (simp; omega)) _ | refine Below.alloc ?_ (by first | omega | (simp; done) | (simp; omega)) _ | refine Below.drew ?_ | refine below_drewN ?_ _))

end Go.Proofs.Ythlgkomhnhkooaa
