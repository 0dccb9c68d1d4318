/-
  Walks of casebook/queue: Number, Wait. Conditions: none.
-/
import Derived.Test.YthlgkomhnhkooaaQueue11
namespace Go.Proofs.Ythlgkomhnhkooaa
set_option linter.unusedSimpArgs false
set_option linter.unusedVariables false
open Go.RowKit

set_option maxHeartbeats 4000000 in
theorem Number_any (ar se : Fr) (sv cp : Int) (w : World) :
    Calls Try.prog 18 #[.agg #[.int .i64 ar.n, .int .i64 ar.d, .int .i64 se.n, .int .i64 se.d, .int .i64 sv, .int .i64 cp]] w fun e w' => ∃ E : FE, e = .returned (.tuple #[.agg #[.int .i64 (E).n, .int .i64 (E).d], .int .i64 (E).e]) ∧ Below w.heap.size w w' ∧
      ((qokB ar se sv cp = false ∧ E = FE.err 1) ∨ (∃ s c : Nat, sv = s ∧ cp = c ∧ QOk ar se s c ∧ ∃ r b x, StE ar se s c b r x ∧ E = endE (numD r x (c + 1)).2 (numD r x (c + 1)).1)) := by
  refine calls_cps fun R hR => ?_
  have HR := Lib.hid hR
  clear hR
  go_enter Try.func18, Try.ntmps18
  go_wp2_with fail
  have M0 : Mem [Loc.k6 w.heap.size (.int .i64 ar.n) (.int .i64 ar.d) (.int .i64 se.n) (.int .i64 se.d) (.int .i64 sv) (.int .i64 cp), Loc.bl w.heap.size w] (w.alloc (.cells #[.int .i64 ar.n, .int .i64 ar.d, .int .i64 se.n, .int .i64 se.d, .int .i64 sv, .int .i64 cp] 25)) := ⟨K6.new w _ _ _ _ _ _ _, ⟨(Below.refl _ _).alloc (Nat.le_refl _) _, by simp⟩, True.intro⟩
  replace M0 := M0.alloc (.cells #[.int .i64 0, .int .i64 0] 23)
  have r0 := K2.new (w.alloc (.cells #[.int .i64 ar.n, .int .i64 ar.d, .int .i64 se.n, .int .i64 se.d, .int .i64 sv, .int .i64 cp] 25)) (.int .i64 0) (.int .i64 0) 23
  simp only [World.size_alloc] at r0
  refine (qvalid_any ar se sv cp _).mono ?_
  rintro e w1 ⟨rfl, hb1⟩
  have M1 := M0.below hb1
  have r1 := K2.aft hb1 r0
  have hz1 := hb1.size
  simp at hz1
  clear hb1 M0 r0
  cases hv : qokB ar se sv cp with
  | false =>
    have HM := Lib.hid M1
    have HV := Lib.hid hv
    clear M1 hv
    go_wp2_with fail
    refine ret_B2_tmp rfl rfl rfl rfl (K2.set r1 _ _) (HR.out _ _ ⟨FE.err 1, rfl, ?_, .inl ⟨HV.out, rfl⟩⟩)
    have := HM.out.2.1.1
    (repeat (first | exact Below.refl _ _ | assumption | refine Below.setCell ?_ (by first | omega | (simp; done) | (simp; omega)) _ | refine Below.alloc ?_ (by first | omega | (simp; done) | (simp; omega)) _ | refine Below.drew ?_ | refine below_drewN ?_ _))
  | true =>
    obtain ⟨s, c, rfl, rfl, hq⟩ := QOk.of_qokB hv
    clear hv
    have q1 := M1.1
    go_wp2_with fail
    have k0 := K1.new w1 (.int .i64 0) 62
    have M2 := M1.alloc (.cells #[.int .i64 0] 62)
    replace r1 := K2.alloc r1 (.cells #[.int .i64 0] 62)
    refine (stationary_any ar se s c w1.heap.size _ k0 hq).mono ?_
    rintro e w2 ⟨g, cap, bV, r, b, x, rfl, c2, ho2, hg2, hown, rb, hE⟩
    replace M2 := M2.off ho2 (by (repeat' (first | exact True.intro | refine And.intro (fun k hk e => ?_) ?_)) <;> (first | exact e | ((try dsimp only [Loc.c1, Loc.c2, Loc.k1, Loc.k2, Loc.k6, Loc.rdF, Loc.rdFF, Loc.all2, Loc.fr, Loc.bl, Loc.own, Loc.sz] at hk e) <;> omega)))
    replace r1 := K2.oft ho2 r1 (by omega)
    have hz2 := ho2.size
    simp at hz2 hg2 hown
    have hrl : r.length = c + 1 := hE.1
    have rf := own_rdF hown hrl
    rw [← hrl] at rf ⊢
    have hcp := hq.c2
    have HE := Lib.hid hE
    have HQ := Lib.hid hq
    have hrle : r.length ≤ 16 := by omega
    have HRL := Lib.hid hrl
    clear hE M1 hq ho2 q1 k0 hown rb hrl
    go_wp2_with fail
    refine (number_any w1.heap.size _ _ _ r x _ c2 rf (by omega) (Nat.le_refl _) (by omega)).mono ?_
    rintro e w3 ⟨rfl, hc3, ho3⟩
    replace M2 := M2.off ho3 (by (repeat' (first | exact True.intro | refine And.intro (fun k hk e => ?_) ?_)) <;> (first | exact e | ((try dsimp only [Loc.c1, Loc.c2, Loc.k1, Loc.k2, Loc.k6, Loc.rdF, Loc.rdFF, Loc.all2, Loc.fr, Loc.bl, Loc.own, Loc.sz] at hk e) <;> omega)))
    replace r1 := K2.oft ho3 r1 (by omega)
    clear ho3 rf c2
    go_wp2_with fail
    refine (end_any (numD r x r.length).1 w1.heap.size _ _ hc3).mono ?_
    rintro e w4 ⟨rfl, hb4⟩
    have HM := Lib.hid (M2.below hb4)
    replace r1 := K2.aft hb4 r1
    clear hb4 M2 hc3
    go_wp2_with fail
    refine ret_B2_tmp rfl rfl rfl rfl (K2.set r1 _ _) (HR.out _ _ ⟨_, rfl, ?_, .inr ⟨s, c, rfl, rfl, HQ.out, r, b, x, HE.out, by rw [HRL.out]⟩⟩)
    have := HM.out.2.1.1
    (repeat (first | exact Below.refl _ _ | assumption | refine Below.setCell ?_ (by first | omega | (simp; done) | (simp; omega)) _ | refine Below.alloc ?_ (by first | omega | (simp; done) | (simp; omega)) _ | refine Below.drew ?_ | refine below_drewN ?_ _))

/-- the mean wait, as the code computes it -/
def waitE (ar : Fr) (r : List Fr) (b : List (List Fr)) (sv cp : Nat) (x : Int) : FE :=
  let L := lossD r b sv cp
  let lo := doR x L
  let x1 := doX x L
  let s := doR x1 (subE oneF lo)
  let x2 := doX x1 (subE oneF lo)
  let en := doR x2 (mulE ar s)
  let x3 := doX x2 (mulE ar s)
  let n := numD r x3 (cp + 1)
  endE (doX n.2 (divE n.1 en)) (doR n.2 (divE n.1 en))

set_option maxRecDepth 100000 in
set_option maxHeartbeats 8000000 in
theorem Wait_any (ar se : Fr) (sv cp : Int) (w : World) :
    Calls Try.prog 20 #[.agg #[.int .i64 ar.n, .int .i64 ar.d, .int .i64 se.n, .int .i64 se.d, .int .i64 sv, .int .i64 cp]] w fun e w' => ∃ E : FE, e = .returned (.tuple #[.agg #[.int .i64 (E).n, .int .i64 (E).d], .int .i64 (E).e]) ∧ Below w.heap.size w w' ∧
      ((qokB ar se sv cp = false ∧ E = FE.err 1) ∨ (∃ s c : Nat, sv = s ∧ cp = c ∧ QOk ar se s c ∧ ∃ r b x, StE ar se s c b r x ∧ E = waitE ar r b s c x)) := by
  refine calls_cps fun R hR => ?_
  have HR := Lib.hid hR
  clear hR
  go_enter Try.func20, Try.ntmps20
  go_wp2_with fail
  have M0 : Mem [Loc.k6 w.heap.size (.int .i64 ar.n) (.int .i64 ar.d) (.int .i64 se.n) (.int .i64 se.d) (.int .i64 sv) (.int .i64 cp), Loc.bl w.heap.size w] (w.alloc (.cells #[.int .i64 ar.n, .int .i64 ar.d, .int .i64 se.n, .int .i64 se.d, .int .i64 sv, .int .i64 cp] 25)) := ⟨K6.new w _ _ _ _ _ _ _, ⟨(Below.refl _ _).alloc (Nat.le_refl _) _, by simp⟩, True.intro⟩
  replace M0 := M0.alloc (.cells #[.int .i64 0, .int .i64 0] 23)
  have r0 := K2.new (w.alloc (.cells #[.int .i64 ar.n, .int .i64 ar.d, .int .i64 se.n, .int .i64 se.d, .int .i64 sv, .int .i64 cp] 25)) (.int .i64 0) (.int .i64 0) 23
  simp only [World.size_alloc] at r0
  refine (qvalid_any ar se sv cp _).mono ?_
  rintro e w1 ⟨rfl, hb1⟩
  have M1 := M0.below hb1
  have r1 := K2.aft hb1 r0
  have hz1 := hb1.size
  simp at hz1
  clear hb1 M0 r0
  cases hv : qokB ar se sv cp with
  | false =>
    have HM := Lib.hid M1
    have HV := Lib.hid hv
    clear M1 hv
    go_wp2_with fail
    refine ret_B2_tmp rfl rfl rfl rfl (K2.set r1 _ _) (HR.out _ _ ⟨FE.err 1, rfl, ?_, .inl ⟨HV.out, rfl⟩⟩)
    have := HM.out.2.1.1
    (repeat (first | exact Below.refl _ _ | assumption | refine Below.setCell ?_ (by first | omega | (simp; done) | (simp; omega)) _ | refine Below.alloc ?_ (by first | omega | (simp; done) | (simp; omega)) _ | refine Below.drew ?_ | refine below_drewN ?_ _))
  | true =>
    obtain ⟨s, c, rfl, rfl, hq⟩ := QOk.of_qokB hv
    clear hv
    have q1 := M1.1
    go_wp2_with fail
    have k0 := K1.new w1 (.int .i64 0) 62
    have M2 : Mem [Loc.k2 (w.heap.size + 1) (.int .i64 0) (.int .i64 0), Loc.k6 w.heap.size (.int .i64 ar.n) (.int .i64 ar.d) (.int .i64 se.n) (.int .i64 se.d) (.int .i64 (s : Nat)) (.int .i64 (c : Nat)), Loc.bl w.heap.size w] _ := ⟨K2.alloc r1 (.cells #[.int .i64 0] 62), M1.alloc (.cells #[.int .i64 0] 62)⟩
    refine (loss_any ar se s c w1.heap.size _ k0 hq).mono ?_
    rintro e w2 ⟨g, cap, r, b, x, rfl, c2, ho2, hg2, rf, hE⟩
    replace M2 := M2.off ho2 (by (repeat' (first | exact True.intro | refine And.intro (fun k hk e => ?_) ?_)) <;> (first | exact e | ((try dsimp only [Loc.c1, Loc.c2, Loc.k1, Loc.k2, Loc.k6, Loc.rdF, Loc.rdFF, Loc.all2, Loc.fr, Loc.bl, Loc.own, Loc.sz] at hk e) <;> omega)))
    have hz2 := ho2.size
    simp at hz2 hg2 rf
    have hrl : r.length = c + 1 := hE.1
    have hcp := hq.c2
    obtain ⟨lo, hlo⟩ : ∃ y, doR x (lossD r b s c) = y := ⟨_, rfl⟩
    obtain ⟨x1, hx1⟩ : ∃ y, doX x (lossD r b s c) = y := ⟨_, rfl⟩
    rw [hx1] at c2
    obtain ⟨s1, hs1⟩ : ∃ y, doR x1 (subE oneF lo) = y := ⟨_, rfl⟩
    obtain ⟨x2, hx2⟩ : ∃ y, doX x1 (subE oneF lo) = y := ⟨_, rfl⟩
    obtain ⟨en, hen⟩ : ∃ y, doR x2 (mulE ar s1) = y := ⟨_, rfl⟩
    obtain ⟨x3, hx3⟩ : ∃ y, doX x2 (mulE ar s1) = y := ⟨_, rfl⟩
    have HW : Hid (waitE ar r b s c x = endE (doX (numD r x3 (c + 1)).2 (divE (numD r x3 (c + 1)).1 en)) (doR (numD r x3 (c + 1)).2 (divE (numD r x3 (c + 1)).1 en))) := Lib.hid (by simp only [waitE, hlo, hx1, hs1, hx2, hen, hx3])
    rw [hlo]
    have M : Mem [Loc.rdF (w1.heap.size + 1) w2.heap.size (.slice (some ⟨g, 0, none⟩) (c + 1) cap) r, Loc.k2 (w.heap.size + 1) (.int .i64 0) (.int .i64 0), Loc.k6 w.heap.size (.int .i64 ar.n) (.int .i64 ar.d) (.int .i64 se.n) (.int .i64 se.d) (.int .i64 (s : Nat)) (.int .i64 (c : Nat)), Loc.bl w.heap.size w] w2 := ⟨RdG.mono rf (by omega) (Nat.le_refl _), M2⟩
    have HE := Lib.hid hE
    have HQ := Lib.hid hq
    have HRL := Lib.hid hrl
    have HS1 := Lib.hid hs1
    have HX2 := Lib.hid hx2
    have HEN := Lib.hid hen
    have HX3 := Lib.hid hx3
    clear hE M1 M2 r1 hq ho2 q1 k0 rf hrl hlo hx1 hs1 hx2 hen hx3
    go_upto_region 5 with (fail)
    replace M := M.alloc (.cells #[.int .i64 lo.n, .int .i64 lo.d] 23)
    have l2 := K2.new w2 (.int .i64 lo.n) (.int .i64 lo.d) 23
    replace c2 := K1.alloc c2 (.cells #[.int .i64 lo.n, .int .i64 lo.d] 23)
    have hz3 : w2.heap.size < (w2.alloc (.cells #[.int .i64 lo.n, .int .i64 lo.d] 23)).heap.size := by simp
    generalize w2.alloc (.cells #[.int .i64 lo.n, .int .i64 lo.d] 23) = W at *
    have q2 := M.2.2.1
    go_cut [7] (fun s7 wx => ∃ nb : Nat, s7 = .pointer (some ⟨nb, 0, none⟩) ∧ W.heap.size ≤ nb ∧ K2 wx nb (.int .i64 en.n) (.int .i64 en.d) ∧ K1 wx w1.heap.size (.int .i64 x3) ∧ Mem [Loc.rdF (w1.heap.size + 1) w2.heap.size (.slice (some ⟨g, 0, none⟩) (c + 1) cap) r, Loc.k2 (w.heap.size + 1) (.int .i64 0) (.int .i64 0), Loc.k6 w.heap.size (.int .i64 ar.n) (.int .i64 ar.d) (.int .i64 se.n) (.int .i64 se.d) (.int .i64 (s : Nat)) (.int .i64 (c : Nat)), Loc.bl w.heap.size w] wx)
    case first =>
      go_region_held3 (fun W => K6 W w.heap.size (.int .i64 ar.n) (.int .i64 ar.d) (.int .i64 se.n) (.int .i64 se.d) (.int .i64 (s : Nat)) (.int .i64 (c : Nat)) ∧ K2 W w2.heap.size (.int .i64 lo.n) (.int .i64 lo.d)) (first | exact ⟨q2, l2⟩ | exact ⟨K6.alloc q2 _, K2.alloc l2 _⟩ | exact ⟨K6.far2 q2 (by omega) _ _, K2.far' l2 (by omega) _ _⟩) (first
        | (go_at_call 53; refine (whole_any 1 _).mono ?_; rintro e w3 ⟨rfl, hb3⟩; replace M := Mem.below (by first | exact M.drew | exact (M.alloc _).drew) hb3; replace q2 := K6.aft hb3 (by first | exact q2 | exact K6.alloc q2 _); replace l2 := K2.aft hb3 (by first | exact l2 | exact K2.alloc l2 _); replace c2 := K1.aft hb3 (by first | exact c2 | exact K1.alloc c2 _); (first | have s0 := K2.aft hb3 (K2.newd W (.int .i64 0) (.int .i64 0) 23) | skip); have hs3 := hb3.size; (try simp at hs3); clear hb3)
        | (go_at_call 52; ((with_reducible refine (do_k 23 ent_mul (mulE ar s1) ar s1 (fun W => mul_any _ _ W) w1.heap.size x2 _ (by first | exact c2 | exact K1.alloc c2 _)).mono ?_); rintro e w5 ⟨rfl, hc4, ho4⟩); rw [HEN.out]; rw [HX3.out] at hc4; replace M := Mem.off (by first | exact M | exact M.alloc _) ho4 (by (repeat' (first | exact True.intro | refine And.intro (fun k hk e => ?_) ?_)) <;> (first | exact e | ((try dsimp only [Loc.c1, Loc.c2, Loc.k1, Loc.k2, Loc.k6, Loc.rdF, Loc.rdFF, Loc.all2, Loc.fr, Loc.bl, Loc.own, Loc.sz] at hk e) <;> omega))); replace q2 := K6.oft ho4 (by first | exact q2 | exact K6.alloc q2 _) (by omega); replace l2 := K2.oft ho4 (by first | exact l2 | exact K2.alloc l2 _) (by omega); (first | replace s0 := K2.oft ho4 s0 (by omega) | have s0 := K2.oft ho4 (K2.new _ (.int .i64 0) (.int .i64 0) 23) (by have := c2.2.2; omega) | skip); have hs5 := ho4.size; (try simp at hs5); clear c2; have c2 := hc4; clear ho4 hc4)
        | (go_at_call 52; refine (do_k 22 ent_sub (subE oneF lo) oneF lo (fun W => sub_any _ _ W) w1.heap.size x1 _ (by first | exact c2 | exact K1.alloc c2 _)).mono ?_; rintro e w4 ⟨rfl, hc4, ho4⟩; rw [HS1.out]; rw [HX2.out] at hc4; replace M := Mem.off (by first | exact M | exact M.alloc _) ho4 (by (repeat' (first | exact True.intro | refine And.intro (fun k hk e => ?_) ?_)) <;> (first | exact e | ((try dsimp only [Loc.c1, Loc.c2, Loc.k1, Loc.k2, Loc.k6, Loc.rdF, Loc.rdFF, Loc.all2, Loc.fr, Loc.bl, Loc.own, Loc.sz] at hk e) <;> omega))); replace q2 := K6.oft ho4 (by first | exact q2 | exact K6.alloc q2 _) (by omega); replace l2 := K2.oft ho4 (by first | exact l2 | exact K2.alloc l2 _) (by omega); (first | replace s0 := K2.oft ho4 s0 (by omega) | have s0 := K2.oft ho4 (K2.new _ (.int .i64 0) (.int .i64 0) 23) (by have := c2.2.2; omega) | skip); have hs4 := ho4.size; (try simp at hs4); clear c2; have c2 := hc4; clear ho4 hc4))
      · go_wp2_with fail
        go_meet
        exact ⟨w5.heap.size, rfl, by omega, K2.new _ _ _ _, K1.alloc c2 _, M.alloc _⟩
      all_goals
        go_wp2_with fail
        go_meet
        exact ⟨_, rfl, by omega, K2.set s0 _ _, K1.far2 c2 (by omega) _ _, M.set2 (by (repeat' (first | exact True.intro | refine And.intro (fun k hk e => ?_) ?_)) <;> (first | exact e | ((try dsimp only [Loc.c1, Loc.c2, Loc.k1, Loc.k2, Loc.k6, Loc.rdF, Loc.rdFF, Loc.all2, Loc.fr, Loc.bl, Loc.own, Loc.sz] at hk e) <;> omega)))⟩
    case rest =>
      clear M c2 l2 q2
      obtain ⟨nb, rfl, hnb, n2, c3, M⟩ := hcut
      have hnn : nb ≠ w1.heap.size := by omega
      have hrl : r.length ≤ 16 := by rw [HRL.out]; omega
      have rf : RdF wc (w1.heap.size + 1) w2.heap.size (.slice (some ⟨g, 0, none⟩) r.length cap) r := by rw [HRL.out]; exact M.1
      have hws : w2.heap.size ≤ wc.heap.size := by have := n2.2.2.2.2; omega
      obtain ⟨n, hn⟩ : ∃ n, numD r x3 (c + 1) = n := ⟨_, rfl⟩
      have hn2 : numD r x3 r.length = n := by rw [HRL.out]; exact hn
      have HN := Lib.hid hn
      have HN2 := Lib.hid hn2
      have M : Mem [Loc.k2 (w.heap.size + 1) (.int .i64 0) (.int .i64 0), Loc.k6 w.heap.size (.int .i64 ar.n) (.int .i64 ar.d) (.int .i64 se.n) (.int .i64 se.d) (.int .i64 (s : Nat)) (.int .i64 (c : Nat)), Loc.bl w.heap.size w] wc := M.2
      clear hn hn2
      go_upto_region 6 with (fail)
      have r1 := M.1
      rw [← HRL.out]
      go_region_held3 (fun W => K2 W nb (.int .i64 en.n) (.int .i64 en.d)) (first | exact n2 | exact K2.far' n2 (by omega) _ _) (first
        | (go_at_call 50; refine (number_any w1.heap.size (w1.heap.size + 1) w2.heap.size _ r x3 _ (by exact c3) (by exact rf) (by omega) (by exact hws) (by omega)).mono ?_; rintro e w3 ⟨rfl, hc3, ho3⟩; rw [HN2.out]; rw [HN2.out] at hc3; replace M := M.drew.off ho3 (by (repeat' (first | exact True.intro | refine And.intro (fun k hk e => ?_) ?_)) <;> (first | exact e | ((try dsimp only [Loc.c1, Loc.c2, Loc.k1, Loc.k2, Loc.k6, Loc.rdF, Loc.rdFF, Loc.all2, Loc.fr, Loc.bl, Loc.own, Loc.sz] at hk e) <;> omega))); replace n2 := K2.oft ho3 n2 hnn; replace r1 := K2.oft ho3 r1 (by omega); clear c3; have c3 := hc3; clear ho3 hc3)
        | (go_at_call 52; refine (do_k 54 ent_div (divE n.1 en) n.1 en (fun W => div_any _ _ W) w1.heap.size n.2 _ (by exact c3)).mono ?_; rintro e w4 ⟨rfl, hc3, ho3⟩; replace M := M.off ho3 (by (repeat' (first | exact True.intro | refine And.intro (fun k hk e => ?_) ?_)) <;> (first | exact e | ((try dsimp only [Loc.c1, Loc.c2, Loc.k1, Loc.k2, Loc.k6, Loc.rdF, Loc.rdFF, Loc.all2, Loc.fr, Loc.bl, Loc.own, Loc.sz] at hk e) <;> omega))); replace n2 := K2.oft ho3 n2 hnn; replace r1 := K2.oft ho3 r1 (by omega); clear c3; have c3 := hc3; clear ho3 hc3)
        | (go_at_call 47; refine (end_any (doR n.2 (divE n.1 en)) w1.heap.size _ _ (by exact c3)).mono ?_; rintro e w5 ⟨rfl, hb5⟩; replace M := M.below hb5; replace n2 := K2.aft hb5 n2; replace r1 := K2.aft hb5 r1; clear hb5))
      have HM := Lib.hid (M.2.2.1.1)
      clear M c3 n2 rf
      go_wp2_with fail
      refine ret_B2_tmp rfl rfl rfl rfl (K2.set r1 _ _) (HR.out _ _ ⟨_, rfl, ?_, .inr ⟨s, c, rfl, rfl, HQ.out, r, b, x, HE.out, by rw [HW.out, HN.out]⟩⟩)
      have := HM.out
      (repeat (first | exact Below.refl _ _ | assumption | refine Below.setCell ?_ (by first | omega | (simp; done) | (simp; omega)) _ | refine Below.alloc ?_ (by first | omega | (simp; done) | (simp; omega)) _ | refine Below.drew ?_ | refine below_drewN ?_ _))

end Go.Proofs.Ythlgkomhnhkooaa
