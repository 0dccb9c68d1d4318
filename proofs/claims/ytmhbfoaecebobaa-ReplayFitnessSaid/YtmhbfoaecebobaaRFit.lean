/-
  casebookref41's Fitness and Half. Conditions: none.
-/
import Derived.Test.YtmhbfoaecebobaaFit
import Derived.Test.YtmhbfoaecebobaaHalfP
import Derived.Test.YtmhbfoaecebobaaCls
namespace Go.Proofs.Ytmhbfoaecebobaa
set_option linter.unusedSimpArgs false
set_option linter.unusedVariables false
open Go.RowKit

set_option maxHeartbeats 400000 in
theorem rgcd_any (a b : Int) (w : World) (ha : 0 ≤ a) (hb : 0 ≤ b) (ha' : a ≤ 9223372036854775807) (hb' : b ≤ 9223372036854775807) :
    Calls Try.prog 83 #[.int .i64 a, .int .i64 b] w fun e w' => e = .returned (.int .i64 (Int.gcd a b)) ∧ ∃ n, w' = w.drewN n := by
  go_enter Try.func83, Try.ntmps83
  go_wp2
  go_loopw [0, 1] (fun x y wr => ∃ p q : Int, 0 ≤ p ∧ 0 ≤ q ∧ p ≤ 9223372036854775807 ∧ q ≤ 9223372036854775807 ∧ x = .int .i64 p ∧ y = .int .i64 q ∧ Int.gcd p q = Int.gcd a b ∧ ∃ n, wr = w.drewN n) (fun _ y _ => (intOf y).toNat)
  case atStart => exact ⟨a, b, ha, hb, ha', hb', rfl, rfl, rfl, 0, rfl⟩
  case round =>
    obtain ⟨p, q, hp, hq, hp', hq', rfl, rfl, hg, n, rfl⟩ := hrel
    have HG := Lib.hid hg
    clear hg
    by_cases h0 : q = 0
    · subst h0
      go_wp2
      go_ret
      refine ⟨?_, n, rfl⟩
      rw [← HG.out]
      simp [Int.natAbs_of_nonneg hp]
    · have hne : (q != 0) = true := by simpa using h0
      have hne2 : (q == 0) = false := by simpa using h0
      go_wp2
      go_quiet (fail)
      go_wp2
      have h1 := Int.emod_nonneg p h0
      have h2 := Int.emod_lt_of_pos p (show 0 < q by omega)
      go_roundw
      case rel => exact ⟨q, p % q, hq, h1, hq', by omega, rfl, rfl, (gcd_step p q).trans HG.out, n + nq, by rw [World.drewN_drewN]⟩
      case measure => simp only [intOf]; omega


set_option maxHeartbeats 400000 in
theorem count_any (k : Int) (w : World) : Calls Try.prog 39 #[.int .i64 k] w fun e w' => e = .returned (.bool (numOk k)) ∧ Below w.heap.size w w' := by
  by_cases h1 : 0 ≤ k
  · have b1 := decide_eq_true h1
    refine calls_cps fun R hR => ?_
    have HR := Lib.hid hR
    clear hR
    go_enter Try.func39, Try.ntmps39
    go_wp2_with fail
    exact HR.out _ _ ⟨ret_bool (by unfold numOk; rw [b1]; rfl), Below.refl _ _⟩
  · have b1 := decide_eq_false h1
    refine calls_cps fun R hR => ?_
    have HR := Lib.hid hR
    clear hR
    go_enter Try.func39, Try.ntmps39
    go_wp2_with fail
    exact HR.out _ _ ⟨ret_bool (by unfold numOk; rw [b1]; rfl), Below.refl _ _⟩
theorem count_is {k : Int} {z : Bool} (h : numOk k = z) (w : World) : Calls Try.prog 39 #[.int .i64 k] w fun e w' => e = .returned (.bool z) ∧ Below w.heap.size w w' := h ▸ count_any k w
theorem makeE_pos {n d : Int} (h : 0 < d) : makeE n d = FE.of (mkF n d) := by unfold makeE; rw [if_neg (by omega)]
set_option maxRecDepth 100000 in
set_option maxHeartbeats 2000000 in
theorem half_any (a b : Fr) (w : World) (ha : 1 ≤ a.d ∧ a.d ≤ 1073741824) (hb : 1 ≤ b.d ∧ b.d ≤ 1073741824) (ha2 : -1073741824 ≤ a.n ∧ a.n ≤ 1073741824) (hb2 : -1073741824 ≤ b.n ∧ b.n ≤ 1073741824) (hD0 : 0 < hD a b) :
    Calls Try.prog 41 #[.agg #[.int .i64 a.n, .int .i64 a.d], .agg #[.int .i64 b.n, .int .i64 b.d]] w fun e w' => e = .returned (.tuple #[.agg #[.int .i64 (FE.of (mkF (hN a b) (2 * hD a b))).n, .int .i64 (FE.of (mkF (hN a b) (2 * hD a b))).d], .int .i64 (FE.of (mkF (hN a b) (2 * hD a b))).e]) ∧ Below w.heap.size w w' := by
  have hbd := half_bd ha hb
  have HG := Lib.hid (fun W => rgcd_any a.d b.d W (by omega) (by omega) (by omega) (by omega))
  have hm1 := mul_bd' a.n (b.d / (Int.gcd a.d b.d : Int)) ha2.1 ha2.2 (by omega) (by omega)
  have hm2 := mul_bd' b.n (a.d / (Int.gcd a.d b.d : Int)) hb2.1 hb2.2 (by omega) (by omega)
  have hm3 := mul_bd' (a.d / (Int.gcd a.d b.d : Int)) b.d (by omega) (by omega) (by omega) (by omega)
  have HN : Hid (hN a b = a.n * (b.d / (Int.gcd a.d b.d : Int)) + b.n * (a.d / (Int.gcd a.d b.d : Int))) := Lib.hid rfl
  have HD : Hid (hD a b = a.d / (Int.gcd a.d b.d : Int) * b.d) := Lib.hid rfl
  have ht1 : (b.d).tdiv (Int.gcd a.d b.d : Int) = b.d / (Int.gcd a.d b.d : Int) := Int.tdiv_eq_ediv_of_nonneg (by omega)
  have ht2 : (a.d).tdiv (Int.gcd a.d b.d : Int) = a.d / (Int.gcd a.d b.d : Int) := Int.tdiv_eq_ediv_of_nonneg (by omega)
  have M : Hid (Mem [Loc.k2 (w.heap.size + 2) (.int .i64 0) (.int .i64 0), Loc.k2 (w.heap.size + 1) (.int .i64 b.n) (.int .i64 b.d), Loc.k2 w.heap.size (.int .i64 a.n) (.int .i64 a.d), Loc.bl w.heap.size w] (((w.alloc (.cells #[.int .i64 a.n, .int .i64 a.d] 39)).alloc (.cells #[.int .i64 b.n, .int .i64 b.d] 39)).alloc (.cells #[.int .i64 0, .int .i64 0] 39))) := Lib.hid (by
    refine ⟨?_, ?_, ?_, ⟨(((Below.refl _ _).alloc (Nat.le_refl _) _).alloc (by simp) _).alloc (by simp; omega) _, by simp; omega⟩, True.intro⟩
    · have := K2.new ((w.alloc (.cells #[.int .i64 a.n, .int .i64 a.d] 39)).alloc (.cells #[.int .i64 b.n, .int .i64 b.d] 39)) (.int .i64 0) (.int .i64 0) 39
      simpa using this
    · have := K2.alloc (K2.new (w.alloc (.cells #[.int .i64 a.n, .int .i64 a.d] 39)) (.int .i64 b.n) (.int .i64 b.d) 39) (.cells #[.int .i64 0, .int .i64 0] 39)
      simpa using this
    · exact K2.alloc (K2.alloc (K2.new w (.int .i64 a.n) (.int .i64 a.d) 39) _) _)
  have hka := M.out.2.2.1
  have hkb := M.out.2.1
  have hkr := M.out.1
  generalize (Int.gcd a.d b.d : Int) = g at *
  obtain ⟨x, hx⟩ : ∃ x, a.d / g = x := ⟨_, rfl⟩
  obtain ⟨y, hy⟩ : ∃ x, b.d / g = x := ⟨_, rfl⟩
  rw [hx] at ht2 hm2 hm3 HN HD hbd
  rw [hy] at ht1 hm1 HN hbd
  clear hx hy
  obtain ⟨P1, hP1⟩ : ∃ P, a.n * y = P := ⟨_, rfl⟩
  obtain ⟨P2, hP2⟩ : ∃ P, b.n * x = P := ⟨_, rfl⟩
  obtain ⟨P3, hP3⟩ : ∃ P, x * b.d = P := ⟨_, rfl⟩
  rw [hP1, hP2] at HN
  rw [hP3] at HD
  rw [hP1] at hm1
  rw [hP2] at hm2
  rw [hP3] at hm3
  have hw1 : wrap64 (a.n * y) = P1 := by rw [hP1]; exact IntWalk.wrap64_in _ (by omega)
  have hw2 : wrap64 (b.n * x) = P2 := by rw [hP2]; exact IntWalk.wrap64_in _ (by omega)
  have hw3 : wrap64 (x * b.d) = P3 := by rw [hP3]; exact IntWalk.wrap64_in _ (by omega)
  have hpos : 0 < P3 := by have := HD.out; omega
  rw [HN.out, HD.out]
  have hg0 : (g == 0) = false := by simp; omega
  clear hP1 hP2 hP3 HN HD hD0
  have hq1 : wrap64 x = x := IntWalk.wrap64_in _ (by omega)
  have hq2 : wrap64 y = y := IntWalk.wrap64_in _ (by omega)
  clear ha hb ha2 hb2
  have M0 := M
  have hdm := Int.mul_tdiv_add_tmod (P1 + P2) 2
  have hrange : -2305843009213693952 ≤ P1 + P2 ∧ P1 + P2 ≤ 2305843009213693952 := by omega
  by_cases hev : (P1 + P2).tmod 2 = 0
  · have hE : FE.of (mkF (P1 + P2) (2 * P3)) = makeE ((P1 + P2).tdiv 2) P3 := by
      rw [makeE_pos hpos]
      have : P1 + P2 = 2 * (P1 + P2).tdiv 2 := by omega
      conv => lhs; rw [this]
      rw [mkF_scale 2 _ _ (by omega)]
    rw [hE]
    have HMK := Lib.hid (fun W => make_any ((P1 + P2).tdiv 2) P3 W (by omega) (by omega))
    have hb : ((P1 + P2).tmod 2 == 0) = true := by simpa using hev
    clear hE hdm hev
    refine calls_cps fun R hR => ?_
    have HR := Lib.hid hR
    clear hR
    go_enter Try.func41, Try.ntmps41
    go_wp2_with (first
      | (go_at_call 83; refine (HG.out _).mono ?_; rintro e w1 ⟨rfl, nq, rfl⟩; replace M := Lib.hid (M.out.drewN nq); replace hka := M.out.2.2.1; replace hkb := M.out.2.1; replace hkr := M.out.1))
    go_quiet (fail)
    go_wp2_with fail
    go_quiet (fail)
    go_wp2_with (go_at_call 40; refine (HMK.out _).mono ?_; rintro e w5 ⟨rfl, hb5⟩; have M5 := Lib.hid ((M0.out.drewN _).below hb5); clear hb5; replace hkr := M5.out.1)
    refine ret_B2t rfl rfl rfl rfl (K2.set M5.out.1 _ _) (HR.out _ _ ⟨?_, (Mem.step (a' := Loc.k2 (w.heap.size + 2) _ _) M5.out (K2.set M5.out.1 _ _) (Chg.set2 _ (w.heap.size + 2) 0 1 _ _) (by (repeat' (first | exact True.intro | refine And.intro (fun k hk e => ?_) ?_)) <;> (first | exact e | ((try dsimp only [Loc.c1, Loc.c2, Loc.k1, Loc.k2, Loc.k3, Loc.k4, Loc.k6, Loc.fr, Loc.bl, Loc.own, Loc.sz, Loc.rd, Loc.rdI, Loc.rdS, Loc.rdM, Loc.rdT, Loc.ow, Loc.owI, Loc.owN, Loc.set, Loc.ns, Loc.cg, Loc.pb, silD, plD] at hk e) <;> omega)))).2.2.2.1.1⟩)
    rfl
  · have hE : FE.of (mkF (P1 + P2) (2 * P3)) = makeE (P1 + P2) (2 * P3) := by rw [makeE_pos (by omega)]
    rw [hE]
    have HMK := Lib.hid (fun W => make_any (P1 + P2) (2 * P3) W (by omega) (by omega))
    have hb : ((P1 + P2).tmod 2 == 0) = false := by simpa using hev
    have hb2 : decide ((4611686018427387903 : Int) < P3) = false := by simp; omega
    clear hE hdm hev
    refine calls_cps fun R hR => ?_
    have HR := Lib.hid hR
    clear hR
    go_enter Try.func41, Try.ntmps41
    go_wp2_with (first
      | (go_at_call 83; refine (HG.out _).mono ?_; rintro e w1 ⟨rfl, nq, rfl⟩; replace M := Lib.hid (M.out.drewN nq); replace hka := M.out.2.2.1; replace hkb := M.out.2.1; replace hkr := M.out.1))
    go_quiet (fail)
    go_wp2_with fail
    go_quiet (fail)
    go_wp2_with (go_at_call 40; refine (HMK.out _).mono ?_; rintro e w5 ⟨rfl, hb5⟩; have M5 := Lib.hid ((M0.out.drewN _).below hb5); clear hb5; replace hkr := M5.out.1)
    refine ret_B2t rfl rfl rfl rfl (K2.set M5.out.1 _ _) (HR.out _ _ ⟨?_, (Mem.step (a' := Loc.k2 (w.heap.size + 2) _ _) M5.out (K2.set M5.out.1 _ _) (Chg.set2 _ (w.heap.size + 2) 0 1 _ _) (by (repeat' (first | exact True.intro | refine And.intro (fun k hk e => ?_) ?_)) <;> (first | exact e | ((try dsimp only [Loc.c1, Loc.c2, Loc.k1, Loc.k2, Loc.k3, Loc.k4, Loc.k6, Loc.fr, Loc.bl, Loc.own, Loc.sz, Loc.rd, Loc.rdI, Loc.rdS, Loc.rdM, Loc.rdT, Loc.ow, Loc.owI, Loc.owN, Loc.set, Loc.ns, Loc.cg, Loc.pb, silD, plD] at hk e) <;> omega)))).2.2.2.1.1⟩)
    rfl
end Go.Proofs.Ytmhbfoaecebobaa
