/-
  Walks of casebook/queue: loss, Stationary, Loss, Number, Wait. Conditions: none.
-/
import Derived.Test.YthlgkomhnhkooaaQueue10
import Derived.Test.YthlgkomhnhkooaaQueue8
namespace Go.Proofs.Ythlgkomhnhkooaa
set_option linter.unusedSimpArgs false
set_option linter.unusedVariables false
open Go.RowKit

/-- a queue that is valid, in plain numbers -/
theorem QOk.of_qokB {ar se : Fr} {sv cp : Int} (h : qokB ar se sv cp = true) : ∃ s c : Nat, sv = s ∧ cp = c ∧ QOk ar se s c := by
  simp only [qokB, wiB, Bool.and_eq_true, decide_eq_true_eq, Fr.okB_iff] at h
  obtain ⟨⟨⟨⟨⟨⟨⟨a1, a2⟩, a3⟩, ⟨b1, b2⟩, b3⟩, h3⟩, h4⟩, h5⟩, h6⟩ := h
  exact ⟨sv.toNat, cp.toNat, by omega, by omega, ⟨a1, b1, a2, a3, b2, b3, by omega, by omega, by omega, by omega⟩⟩


theorem own_rdF {w : World} {lo : Nat} {g n cap : Nat} {l : List Fr} (h : w.ownsRow lo 23 2 (.slice (some ⟨g, 0, none⟩) n cap) n (flat l)) (hl : l.length = n) : RdF w lo w.heap.size (.slice (some ⟨g, 0, none⟩) n cap) l := by
  unfold RdF
  rw [hl]
  exact RdG.of_own h

/-- the loss as the code computes it -/
def lossD (r : List Fr) (b : List (List Fr)) (sv cp : Nat) : FE := mulE (gt r cp) (gt (rw' b sv) 0)

set_option maxRecDepth 100000 in
set_option maxHeartbeats 4000000 in
theorem loss_any (ar se : Fr) (sv cp : Nat) (cb : Nat) (w : World) (hc : K1 w cb (.int .i64 0)) (hq : QOk ar se sv cp) :
    Calls Try.prog 46 #[.pointer (some ⟨cb, 0, none⟩), .agg #[.int .i64 ar.n, .int .i64 ar.d, .int .i64 se.n, .int .i64 se.d, .int .i64 sv, .int .i64 cp]] w fun e w' =>
      ∃ g cap r b x, e = .returned (.tuple #[.agg #[.int .i64 (doR x (lossD r b sv cp)).n, .int .i64 (doR x (lossD r b sv cp)).d], .slice (some ⟨g, 0, none⟩) (cp + 1) cap]) ∧ K1 w' cb (.int .i64 (doX x (lossD r b sv cp))) ∧ Off cb w.heap.size w w' ∧ w.heap.size ≤ g ∧ RdF w' (w.heap.size + 1 + 1) w'.heap.size (.slice (some ⟨g, 0, none⟩) (cp + 1) cap) r ∧ StE ar se sv cp b r x := by
  refine calls_cps fun R hR => ?_
  have HR := Lib.hid hR
  clear hR
  have hcb := hc.2.2
  have hcp := hq.c2
  have hv1 := hq.v1
  have hc1 := hq.c1
  have lt0 : cb < w.heap.size + 1 := by omega
  have lt1 : cb < w.heap.size + 1 + 1 := by omega
  go_enter Try.func46, Try.ntmps46
  go_wp2_with fail
  have M0 : Mem [Loc.k6 w.heap.size (.int .i64 ar.n) (.int .i64 ar.d) (.int .i64 se.n) (.int .i64 se.d) (.int .i64 sv) (.int .i64 cp), Loc.fr cb w.heap.size w] (w.alloc (.cells #[.int .i64 ar.n, .int .i64 ar.d, .int .i64 se.n, .int .i64 se.d, .int .i64 sv, .int .i64 cp] 25)) := ⟨K6.new w _ _ _ _ _ _ _, ⟨(Off.refl _ _ _).alloc (Nat.le_refl _) _, by simp⟩, True.intro⟩
  have M1 := M0.alloc (.cells #[.int .i64 0, .int .i64 0] 23)
  have M2 : Mem [Loc.k2 (w.heap.size + 1) (.int .i64 0) (.int .i64 0), Loc.k6 w.heap.size (.int .i64 ar.n) (.int .i64 ar.d) (.int .i64 se.n) (.int .i64 se.d) (.int .i64 sv) (.int .i64 cp), Loc.fr cb w.heap.size w] ((w.alloc (.cells #[.int .i64 ar.n, .int .i64 ar.d, .int .i64 se.n, .int .i64 se.d, .int .i64 sv, .int .i64 cp] 25)).alloc (.cells #[.int .i64 0, .int .i64 0] 23)) := ⟨by have := K2.new (w.alloc (.cells #[.int .i64 ar.n, .int .i64 ar.d, .int .i64 se.n, .int .i64 se.d, .int .i64 sv, .int .i64 cp] 25)) (.int .i64 0) (.int .i64 0) 23; simpa using this, M1⟩
  refine (stationary_any ar se sv cp cb _ (K1.alloc (K1.alloc hc _) _) hq).mono ?_
  rintro e w1 ⟨g, cap, bV, r, b, x, rfl, c1, ho1, hg1, hown, rb, hE⟩
  replace M2 := M2.off ho1 (by (repeat' (first | exact True.intro | refine And.intro (fun k hk e => ?_) ?_)) <;> (first | exact e | ((try dsimp only [Loc.c1, Loc.c2, Loc.k1, Loc.k2, Loc.k6, Loc.rdF, Loc.rdFF, Loc.all2, Loc.fr, Loc.bl, Loc.own, Loc.sz] at hk e) <;> omega)))
  have hz1 := ho1.size
  simp at hz1 hg1 hown rb
  have hrl : r.length = cp + 1 := hE.1
  have rf := own_rdF hown hrl
  have hbl : b.length = sv + 1 := hE.2.1
  obtain ⟨bA, bc, rfl, hbc, hbl2⟩ := rb.form
  obtain ⟨bb, boff, u0, rfl, _⟩ := rb.at_ (rw_get (m := sv) (by omega))
  obtain ⟨lo1, hi1, A2, c2, f3, rf2⟩ := rb.at2 (rw_get (m := sv) (by omega))
  have hbr : (rw' b sv).length = sv + 1 := hE.2.2.1 sv _ (rw_get (by omega))
  obtain ⟨b2, off2, rfl, lo2, hi2, f4, f5⟩ := rf2.at2 (gt_get (l := rw' b sv) (i := 0) (by omega))
  obtain ⟨f1, f2, _, _, hgw, _⟩ := own_at hown (gt_get (l := r) (i := cp) (by omega))
  have q1 := M2.2.1
  have M : Mem [Loc.rdF (w.heap.size + 1 + 1) w1.heap.size (.slice (some ⟨g, 0, none⟩) (cp + 1) cap) r, Loc.fr cb w.heap.size w, Loc.sz w1.heap.size] w1 := ⟨rf, M2.2.2.1, Nat.le_refl _, True.intro⟩
  have r1 : K2 w1 (w.heap.size + 1) (.int .i64 0) (.int .i64 0) := M2.1
  have hi1' : (cp : Int) < (cp : Int) + 1 := by omega
  have hi2' : (sv : Int) < (b.length : Int) := by omega
  have hi3' : 0 < (rw' b sv).length := by omega
  have hgn : g ≠ cb := by omega
  have hbn : bb ≠ cb := by omega
  have hbn2 : b2 ≠ cb := by omega
  have hrn : w.heap.size + 1 ≠ cb := by omega
  have hqn : w.heap.size ≠ cb := by omega
  have HE := Lib.hid hE
  have HBL := Lib.hid hbl
  have HBR := Lib.hid hbr
  clear M0 M1 M2 hc ho1 hown rb rf rf2 hE hrl hbl hbr hz1
  simp only [Nat.zero_mul, Nat.add_zero] at f4 f5
  go_upto_region 2 with (fail)
  go_region_held3 (fun W => K6 W w.heap.size (.int .i64 ar.n) (.int .i64 ar.d) (.int .i64 se.n) (.int .i64 se.d) (.int .i64 sv) (.int .i64 cp) ∧ W.cell? ⟨g, cp * 2, none⟩ = some (.int .i64 (gt r cp).n) ∧ W.cell? ⟨g, cp * 2 + 1, none⟩ = some (.int .i64 (gt r cp).d) ∧ W.cell? ⟨bb, boff + sv, none⟩ = some (.slice (some ⟨b2, off2, none⟩) (rw' b sv).length c2) ∧ W.cell? ⟨b2, off2, none⟩ = some (.int .i64 (gt (rw' b sv) 0).n) ∧ W.cell? ⟨b2, off2 + 1, none⟩ = some (.int .i64 (gt (rw' b sv) 0).d)) (first | exact ⟨q1, f1, f2, f3, f4, f5⟩ | exact ⟨K6.far2 q1 (by omega) _ _, cell_set2 f1 (by omega), cell_set2 f2 (by omega), cell_set2 f3 (by omega), cell_set2 f4 (by omega), cell_set2 f5 (by omega)⟩) ((go_at_call 52; refine (do_k 23 ent_mul (mulE (gt r cp) (gt (rw' b sv) 0)) (gt r cp) (gt (rw' b sv) 0) (fun W => mul_any _ _ W) cb x _ (by exact c1)).mono ?_; rintro e w2 ⟨rfl, hc2, ho2⟩; replace M := M.drew.off ho2 (by (repeat' (first | exact True.intro | refine And.intro (fun k hk e => ?_) ?_)) <;> (first | exact e | ((try dsimp only [Loc.c1, Loc.c2, Loc.k1, Loc.k2, Loc.k6, Loc.rdF, Loc.rdFF, Loc.all2, Loc.fr, Loc.bl, Loc.own, Loc.sz] at hk e) <;> omega))); replace r1 := K2.oft ho2 r1 hrn; replace q1 := K6.oft ho2 q1 hqn; replace f1 := cell_oft ho2 f1 hgn; replace f2 := cell_oft ho2 f2 hgn; replace f3 := cell_oft ho2 f3 hbn; replace f4 := cell_oft ho2 f4 hbn2; replace f5 := cell_oft ho2 f5 hbn2; clear ho2))
  have M3 := Lib.hid (M.set2 (g := w.heap.size + 1) (i := 0) (j := 1) (u := .int .i64 (doR x (mulE (gt r cp) (gt (rw' b sv) 0))).n) (v := .int .i64 (doR x (mulE (gt r cp) (gt (rw' b sv) 0))).d) (by (repeat' (first | exact True.intro | refine And.intro (fun k hk e => ?_) ?_)) <;> (first | exact e | ((try dsimp only [Loc.c1, Loc.c2, Loc.k1, Loc.k2, Loc.k6, Loc.rdF, Loc.rdFF, Loc.all2, Loc.fr, Loc.bl, Loc.own, Loc.sz] at hk e) <;> omega))))
  have C3 := Lib.hid hc2
  have hz2 := M.2.1.2
  clear M hc2 f1 f2 f3 f4 f5 q1 c1
  go_wp2_with fail
  refine ret_B2_tmp rfl rfl rfl rfl (K2.set r1 _ _) (HR.out _ _ ⟨g, cap, r, b, x, rfl, K1.far2 C3.out (Ne.symm hrn) _ _, M3.out.2.1.1, by omega, ?_, HE.out⟩)
  exact RdG.mono M3.out.1 (Nat.le_refl _) M3.out.2.2.1

set_option maxHeartbeats 4000000 in
theorem Stationary_any (ar se : Fr) (sv cp : Int) (w : World) :
    Calls Try.prog 11 #[.agg #[.int .i64 ar.n, .int .i64 ar.d, .int .i64 se.n, .int .i64 se.d, .int .i64 sv, .int .i64 cp]] w fun e w' => ∃ v r x, e = .returned (.tuple #[v, .int .i64 x]) ∧ RdF w' w.heap.size w'.heap.size v r ∧ Below w.heap.size w w' ∧
      ((qokB ar se sv cp = false ∧ r = [] ∧ x = 1) ∨ (∃ s c : Nat, sv = s ∧ cp = c ∧ QOk ar se s c ∧ ∃ b x0 r0, StE ar se s c b r0 x0 ∧ x = x0 ∧ r = if x0 = 0 then r0 else [])) := by
  refine calls_cps fun R hR => ?_
  have HR := Lib.hid hR
  clear hR
  go_enter Try.func11, Try.ntmps11
  go_wp2_with fail
  have M0 : Mem [Loc.k6 w.heap.size (.int .i64 ar.n) (.int .i64 ar.d) (.int .i64 se.n) (.int .i64 se.d) (.int .i64 sv) (.int .i64 cp), Loc.bl w.heap.size w] (w.alloc (.cells #[.int .i64 ar.n, .int .i64 ar.d, .int .i64 se.n, .int .i64 se.d, .int .i64 sv, .int .i64 cp] 25)) := ⟨K6.new w _ _ _ _ _ _ _, ⟨(Below.refl _ _).alloc (Nat.le_refl _) _, by simp⟩, True.intro⟩
  refine (qvalid_any ar se sv cp _).mono ?_
  rintro e w1 ⟨rfl, hb1⟩
  have M1 := M0.below hb1
  clear M0
  have hz1 := hb1.size
  simp at hz1
  clear hb1
  cases hv : qokB ar se sv cp with
  | false =>
    have HM := Lib.hid M1
    have HV := Lib.hid hv
    clear M1 hv
    go_wp2_with fail
    exact HR.out _ _ ⟨_, [], 1, rfl, ⟨rfl, none, 0, rfl, Nat.le_refl _, by simp, fun h => by simp at h⟩, HM.out.2.1.1, .inl ⟨HV.out, rfl, rfl⟩⟩
  | true =>
    obtain ⟨s, c, rfl, rfl, hq⟩ := QOk.of_qokB hv
    clear hv
    have q1 := M1.1
    go_wp2_with fail
    have k0 := K1.new w1 (.int .i64 0) 62
    have M2 := M1.alloc (.cells #[.int .i64 0] 62)
    refine (stationary_any ar se s c w1.heap.size _ k0 hq).mono ?_
    rintro e w2 ⟨g, cap, bV, r, b, x, rfl, c2, ho2, hg2, hown, rb, hE⟩
    replace M2 := M2.off ho2 (by (repeat' (first | exact True.intro | refine And.intro (fun k hk e => ?_) ?_)) <;> (first | exact e | ((try dsimp only [Loc.c1, Loc.c2, Loc.k1, Loc.k2, Loc.k6, Loc.rdF, Loc.rdFF, Loc.all2, Loc.fr, Loc.bl, Loc.own, Loc.sz] at hk e) <;> omega)))
    have hz2 := ho2.size
    simp at hz2 hg2 hown
    have rf := own_rdF hown hE.1
    have HE := Lib.hid hE
    have HRF := Lib.hid rf
    have HM := Lib.hid M2
    have HQ := Lib.hid hq
    clear hown rb rf hE M2 M1 hq ho2 q1 k0
    by_cases hx : x = 0
    · subst hx
      go_wp2_with fail
      exact HR.out _ _ ⟨_, r, 0, rfl, RdG.mono HRF.out (by omega) (Nat.le_refl _), HM.out.2.1.1, .inr ⟨s, c, rfl, rfl, HQ.out, b, 0, r, HE.out, rfl, rfl⟩⟩
    · have hx' : (x != 0) = true := by simpa using hx
      have HX := Lib.hid hx
      clear hx
      go_wp2_with fail
      go_quiet (fail)
      go_wp2_with fail
      exact HR.out _ _ ⟨_, [], x, rfl, ⟨rfl, none, 0, rfl, Nat.le_refl _, by simp, fun h => by simp at h⟩, below_drewN HM.out.2.1.1 _, .inr ⟨s, c, rfl, rfl, HQ.out, b, x, r, HE.out, rfl, by rw [if_neg HX.out]⟩⟩

set_option maxHeartbeats 4000000 in
theorem Loss_any (ar se : Fr) (sv cp : Int) (w : World) :
    Calls Try.prog 15 #[.agg #[.int .i64 ar.n, .int .i64 ar.d, .int .i64 se.n, .int .i64 se.d, .int .i64 sv, .int .i64 cp]] w fun e w' => ∃ E : FE, e = .returned (.tuple #[.agg #[.int .i64 (E).n, .int .i64 (E).d], .int .i64 (E).e]) ∧ Below w.heap.size w w' ∧
      ((qokB ar se sv cp = false ∧ E = FE.err 1) ∨ (∃ s c : Nat, sv = s ∧ cp = c ∧ QOk ar se s c ∧ ∃ r b x, StE ar se s c b r x ∧ E = endE (doX x (lossD r b s c)) (doR x (lossD r b s c)))) := by
  refine calls_cps fun R hR => ?_
  have HR := Lib.hid hR
  clear hR
  go_enter Try.func15, Try.ntmps15
  go_wp2_with fail
  have M0 : Mem [Loc.k6 w.heap.size (.int .i64 ar.n) (.int .i64 ar.d) (.int .i64 se.n) (.int .i64 se.d) (.int .i64 sv) (.int .i64 cp), Loc.bl w.heap.size w] (w.alloc (.cells #[.int .i64 ar.n, .int .i64 ar.d, .int .i64 se.n, .int .i64 se.d, .int .i64 sv, .int .i64 cp] 25)) := ⟨K6.new w _ _ _ _ _ _ _, ⟨(Below.refl _ _).alloc (Nat.le_refl _) _, by simp⟩, True.intro⟩
  replace M0 := M0.alloc (.cells #[.int .i64 0, .int .i64 0] 23)
  have r0 := K2.new (w.alloc (.cells #[.int .i64 ar.n, .int .i64 ar.d, .int .i64 se.n, .int .i64 se.d, .int .i64 sv, .int .i64 cp] 25)) (.int .i64 0) (.int .i64 0) 23
  simp only [World.size_alloc] at r0
  refine (qvalid_any ar se sv cp _).mono ?_
  rintro e w1 ⟨rfl, hb1⟩
  have M1 := M0.below hb1
  have r1 := K2.aft hb1 r0
  have hz1 := hb1.size
  simp at hz1
  clear hb1 M0 r0
  cases hv : qokB ar se sv cp with
  | false =>
    have HM := Lib.hid M1
    have HV := Lib.hid hv
    clear M1 hv
    go_wp2_with fail
    refine ret_B2_tmp rfl rfl rfl rfl (K2.set r1 _ _) (HR.out _ _ ⟨FE.err 1, rfl, ?_, .inl ⟨HV.out, rfl⟩⟩)
    have := HM.out.2.1.1
    (repeat (first | exact Below.refl _ _ | assumption | refine Below.setCell ?_ (by first | omega | (simp; done) | (simp; omega)) _ | refine Below.alloc ?_ (by first | omega | (simp; done) | (simp; omega)) _ | refine Below.drew ?_ | refine below_drewN ?_ _))
  | true =>
    obtain ⟨s, c, rfl, rfl, hq⟩ := QOk.of_qokB hv
    clear hv
    have q1 := M1.1
    go_wp2_with fail
    have k0 := K1.new w1 (.int .i64 0) 62
    have M2 := M1.alloc (.cells #[.int .i64 0] 62)
    replace r1 := K2.alloc r1 (.cells #[.int .i64 0] 62)
    refine (loss_any ar se s c w1.heap.size _ k0 hq).mono ?_
    rintro e w2 ⟨g, cap, r, b, x, rfl, c2, ho2, hg2, rf, hE⟩
    replace M2 := M2.off ho2 (by (repeat' (first | exact True.intro | refine And.intro (fun k hk e => ?_) ?_)) <;> (first | exact e | ((try dsimp only [Loc.c1, Loc.c2, Loc.k1, Loc.k2, Loc.k6, Loc.rdF, Loc.rdFF, Loc.all2, Loc.fr, Loc.bl, Loc.own, Loc.sz] at hk e) <;> omega)))
    replace r1 := K2.oft ho2 r1 (by omega)
    have hz2 := ho2.size
    simp at hz2
    have HE := Lib.hid hE
    have HQ := Lib.hid hq
    clear hE rf M1 hq ho2 q1 k0
    go_wp2_with fail
    refine (end_any (doR x (lossD r b s c)) w1.heap.size _ _ (K1.alloc c2 _)).mono ?_
    rintro e w3 ⟨rfl, hb3⟩
    have HM := Lib.hid ((M2.alloc _).below hb3)
    replace r1 := K2.aft hb3 (K2.alloc r1 _)
    clear hb3 M2 c2
    go_wp2_with fail
    refine ret_B2_tmp rfl rfl rfl rfl (K2.set r1 _ _) (HR.out _ _ ⟨_, rfl, ?_, .inr ⟨s, c, rfl, rfl, HQ.out, r, b, x, HE.out, rfl⟩⟩)
    have := HM.out.2.1.1
    (repeat (first | exact Below.refl _ _ | assumption | refine Below.setCell ?_ (by first | omega | (simp; done) | (simp; omega)) _ | refine Below.alloc ?_ (by first | omega | (simp; done) | (simp; omega)) _ | refine Below.drew ?_ | refine below_drewN ?_ _))

end Go.Proofs.Ythlgkomhnhkooaa
