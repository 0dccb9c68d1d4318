/-
  Texts joined: Ref01a, Ref01b, FrA, AwW, SxA, EvA. Conditions: none.
-/
import Derived.Test.YtjkdeidjmejmeaaJA1
import Derived.Test.YtjkdeidjmejmeaaJA4
import Derived.Test.YtjkdeidjmejmeaaJA3
section
namespace Go.Proofs.Ytjkdeidjmejmeaa
set_option linter.unusedSimpArgs false
set_option linter.unusedVariables false
open Go.RowKit

def makeE (n d : Int) : FE := if d = 0 then FE.err 7 else FE.of (mkF n d)

set_option maxHeartbeats 2000000 in
theorem make_any (n d : Int) (w : World) (hn : -4611686018427387904 ≤ n ∧ n ≤ 4611686018427387904) (hd : -4611686018427387904 ≤ d ∧ d ≤ 4611686018427387904) :
    Calls Try.prog 78 #[.int .i64 n, .int .i64 d] w fun e w' => e = .returned (.tuple #[.agg #[.int .i64 (makeE n d).n, .int .i64 (makeE n d).d], .int .i64 (makeE n d).e]) ∧ Below w.heap.size w w' := by
  refine calls_cps fun R hR => ?_
  have HR := Lib.hid hR
  clear hR
  by_cases h0 : d = 0
  · subst h0
    go_enter Try.func78, Try.ntmps78
    go_wp2
    refine bodyPost_ret (v := .tuple #[.agg #[.int .i64 0, .int .i64 0], .int .i64 7]) (by simp [results, Try.results78, go_sem]) rfl (HR.out _ _ ⟨?_, ?_⟩)
    · simp [makeE, FE.err]
    · (repeat (first | exact Below.refl _ _ | assumption | refine Below.setCell ?_ (by first | omega | (simp; done) | (simp; omega)) _ | refine Below.alloc ?_ (by first | omega | (simp; done) | (simp; omega)) _ | refine Below.drew ?_ | refine below_drewN ?_ _))
  · have hd0 : (d == 0) = false := by simpa using h0
    by_cases sn : 0 < n <;> by_cases sd : 0 < d
    all_goals
      go_enter Try.func78, Try.ntmps78
      go_wp2
      go_loopw [6, 7] (fun x y wr => ∃ p q : Nat, p ≤ 4611686018427387904 ∧ q ≤ 4611686018427387904 ∧ x = .int .i64 (-p) ∧ y = .int .i64 (-q) ∧ Nat.gcd p q = Int.gcd n d ∧ ∃ k, wr = (w.alloc (.cells #[.int .i64 0, .int .i64 0] 48)).drewN k) (fun _ y _ => (intOf y).natAbs)
      case atStart => exact ⟨n.natAbs, d.natAbs, by omega, by omega, congrArg _ (by omega), congrArg _ (by omega), rfl, 0, rfl⟩
      case round =>
        obtain ⟨p, q, hp, hq, rfl, rfl, hg, k, rfl⟩ := hrel
        by_cases hq0 : q = 0
        · subst hq0
          simp only [Nat.gcd_zero_right] at hg
          have hgp : 0 < Int.gcd n d := Int.gcd_pos_iff.2 (Or.inr h0)
          have hp0 : 0 < (p : Int) := by omega
          obtain ⟨x, hx, hnx, hxa⟩ := tdiv_exact n p hp0 (by rw [hg]; exact Int.gcd_dvd_left ..)
          obtain ⟨y, hy, hdy, hya⟩ := tdiv_exact d p hp0 (by rw [hg]; exact Int.gcd_dvd_right ..)
          have hx1 := natAbs_le_of_mul n p x hp0 hxa
          have hy1 := natAbs_le_of_mul d p y hp0 hya
          have hy0 : y ≠ 0 := by intro e; rw [e] at hdy; simp at hdy; exact h0 hdy
          have bx : -4611686018427387904 ≤ x ∧ x ≤ 4611686018427387904 := by omega
          have bY : -4611686018427387904 ≤ y ∧ y ≤ 4611686018427387904 := by omega
          have hpe : ((p : Int) == 0) = false := by simp; omega
          have hpe2 : (-(p : Int) == 0) = false := by simp; omega
          have hpe3 : ¬ p = 0 := by omega
          rcases Int.lt_or_lt_of_ne hy0 with hyn | hyp
          · have HM := Lib.hid (mkF_negd n d p x y hp0 (by omega) hnx hdy hyn)
            have HG := Lib.hid hg
            clear hg hnx hdy hxa hya hx1 hy1 hgp hy0
            by_cases hf : -1073741824 ≤ -x ∧ -x ≤ 1073741824 ∧ -y ≤ 1073741824
            · obtain ⟨f1, f2, f3⟩ := hf
              have HM2 : Hid (mkF n d = some ⟨-x, -y⟩) := Lib.hid (by rw [HM.out, if_pos ⟨f1, f2, f3⟩])
              go_wp2
              refine bodyPost_ret (v := .tuple #[.agg #[.int .i64 (-x), .int .i64 (-y)], .int .i64 0]) (by simp [results, Try.results78, go_sem]) rfl (HR.out _ _ ⟨?_, ?_⟩)
              · unfold makeE; rw [if_neg h0, HM2.out]; rfl
              · (repeat (first | exact Below.refl _ _ | assumption | refine Below.setCell ?_ (by first | omega | (simp; done) | (simp; omega)) _ | refine Below.alloc ?_ (by first | omega | (simp; done) | (simp; omega)) _ | refine Below.drew ?_ | refine below_drewN ?_ _))
            · have HM2 : Hid (mkF n d = none) := Lib.hid (by rw [HM.out, if_neg hf])
              go_wp2
              all_goals
                refine bodyPost_ret (v := .tuple #[.agg #[.int .i64 0, .int .i64 0], .int .i64 6]) (by simp [results, Try.results78, go_sem]) rfl (HR.out _ _ ⟨?_, ?_⟩)
                · unfold makeE; rw [if_neg h0, HM2.out]; rfl
                · (repeat (first | exact Below.refl _ _ | assumption | refine Below.setCell ?_ (by first | omega | (simp; done) | (simp; omega)) _ | refine Below.alloc ?_ (by first | omega | (simp; done) | (simp; omega)) _ | refine Below.drew ?_ | refine below_drewN ?_ _))
          · have HM := Lib.hid (mkF_pos n d p x y hp0 (by omega) hnx hdy hyp)
            have HG := Lib.hid hg
            clear hg hnx hdy hxa hya hx1 hy1 hgp hy0
            by_cases hf : -1073741824 ≤ x ∧ x ≤ 1073741824 ∧ y ≤ 1073741824
            · obtain ⟨f1, f2, f3⟩ := hf
              have HM2 : Hid (mkF n d = some ⟨x, y⟩) := Lib.hid (by rw [HM.out, if_pos ⟨f1, f2, f3⟩])
              go_wp2
              refine bodyPost_ret (v := .tuple #[.agg #[.int .i64 (x), .int .i64 (y)], .int .i64 0]) (by simp [results, Try.results78, go_sem]) rfl (HR.out _ _ ⟨?_, ?_⟩)
              · unfold makeE; rw [if_neg h0, HM2.out]; rfl
              · (repeat (first | exact Below.refl _ _ | assumption | refine Below.setCell ?_ (by first | omega | (simp; done) | (simp; omega)) _ | refine Below.alloc ?_ (by first | omega | (simp; done) | (simp; omega)) _ | refine Below.drew ?_ | refine below_drewN ?_ _))
            · have HM2 : Hid (mkF n d = none) := Lib.hid (by rw [HM.out, if_neg hf])
              go_wp2
              all_goals
                refine bodyPost_ret (v := .tuple #[.agg #[.int .i64 0, .int .i64 0], .int .i64 6]) (by simp [results, Try.results78, go_sem]) rfl (HR.out _ _ ⟨?_, ?_⟩)
                · unfold makeE; rw [if_neg h0, HM2.out]; rfl
                · (repeat (first | exact Below.refl _ _ | assumption | refine Below.setCell ?_ (by first | omega | (simp; done) | (simp; omega)) _ | refine Below.alloc ?_ (by first | omega | (simp; done) | (simp; omega)) _ | refine Below.drew ?_ | refine below_drewN ?_ _))
        · have HG := Lib.hid hg
          clear hg
          have b1 : (-(q : Int) != 0) = true := by simp; omega
          have b2 : (-(q : Int) == 0) = false := by simp; omega
          have ht := tmod_neg_neg p q
          go_wp2
          go_quiet (fail)
          go_wp2
          have hlt : p % q < q := Nat.mod_lt _ (by omega)
          go_roundw
          case rel => exact ⟨q, p % q, hq, by omega, rfl, by first | rfl | (congr 1; omega), by rw [← HG.out, Nat.gcd_comm q, ← Nat.gcd_rec, Nat.gcd_comm], k + nq, by rw [World.drewN_drewN]⟩
          case measure => simp only [intOf]; omega

end Go.Proofs.Ytjkdeidjmejmeaa
end
section
namespace Go.Proofs.Ytjkdeidjmejmeaa
set_option linter.unusedSimpArgs false
set_option linter.unusedVariables false
open Go.RowKit

theorem makeE_ok {a : Fr} (h : a.ok) : makeE a.n a.d = ⟨a.n, a.d, 0⟩ := by
  unfold makeE
  rw [if_neg (by have := h.2.2.1; omega), mkF_of_ok h]
  rfl
theorem makeE_not {an ad : Int} (h3 : 1 ≤ ad) (hg : Int.gcd an ad ≠ 1) : (makeE an ad).d ≠ ad := by
  unfold makeE
  rw [if_neg (by omega)]
  have hgp : 0 < Int.gcd an ad := Int.gcd_pos_iff.2 (Or.inr (by omega))
  unfold mkF
  split
  · simp only [FE.of, nf]
    obtain ⟨c, hc⟩ : (Int.gcd an ad : Int) ∣ ad := Int.gcd_dvd_right ..
    rw [Int.natAbs_of_nonneg (by omega)]
    generalize (Int.gcd an ad : Nat) = g at *
    subst hc
    rw [Int.mul_ediv_cancel_left _ (by omega)]
    intro e
    have hc0 : 0 < c := Int.pos_of_mul_pos_right (by omega) (show (0:Int) < g by omega)
    have h2 : 2 * c ≤ (g : Int) * c := Int.mul_le_mul_of_nonneg_right (by omega) (by omega)
    omega
  · simp only [FE.of]; omega

set_option maxHeartbeats 1000000 in
theorem rvalid_any (a : Fr) (w : World) :
    Calls Try.prog 56 #[.agg #[.int .i64 (a).n, .int .i64 (a).d]] w fun e w' => e = .returned (.bool a.okB) ∧ Below w.heap.size w w' := by
  obtain ⟨an, ad⟩ := a
  refine calls_cps fun R hR => ?_
  have HR := Lib.hid hR
  clear hR
  by_cases hr : -1073741824 ≤ an ∧ an ≤ 1073741824 ∧ 1 ≤ ad ∧ ad ≤ 1073741824
  · obtain ⟨h1, h2, h3, h4⟩ := hr
    by_cases hg : Int.gcd an ad = 1
    · have hok : (Fr.mk an ad).ok := ⟨h1, h2, h3, h4, hg⟩
      have HO := Lib.hid (Fr.okB_of hok)
      have HM := Lib.hid (makeE_ok hok)
      clear hok hg
      go_enter Try.func56, Try.ntmps56
      go_wp2_with (go_at_call 78; refine (make_any _ _ _ (by omega) (by omega)).mono ?_; rintro e w1 ⟨rfl, hb1⟩; obtain ⟨p1, p2, p3, p4, p5⟩ := B2.after (g := w.heap.size) (x := .int .i64 an) (y := .int .i64 ad) hb1 (by simp [B2, go_sem]) (by first | omega | (simp; done) | (simp; omega)); have HB := Lib.hid (Below.step ((Below.refl w.heap.size w).alloc (Nat.le_refl _) _) hb1 (by simp)); clear hb1; rw [HM.out])
      refine HR.out _ _ ⟨by rw [HO.out]; rfl, ?_⟩
      have := HB.out
      have := this.size
      (repeat (first | exact Below.refl _ _ | assumption | refine Below.setCell ?_ (by first | omega | (simp; done) | (simp; omega)) _ | refine Below.alloc ?_ (by first | omega | (simp; done) | (simp; omega)) _ | refine Below.drew ?_ | refine below_drewN ?_ _))
    · have HO := Lib.hid (Fr.okB_not (a := ⟨an, ad⟩) (fun h => hg h.2.2.2.2))
      have hne := makeE_not h3 hg
      have hne2 : ((makeE an ad).d == ad) = false := by simpa using hne
      clear hg
      go_enter Try.func56, Try.ntmps56
      go_wp2_with (go_at_call 78; refine (make_any _ _ _ (by omega) (by omega)).mono ?_; rintro e w1 ⟨rfl, hb1⟩; obtain ⟨p1, p2, p3, p4, p5⟩ := B2.after (g := w.heap.size) (x := .int .i64 an) (y := .int .i64 ad) hb1 (by simp [B2, go_sem]) (by first | omega | (simp; done) | (simp; omega)); have HB := Lib.hid (Below.step ((Below.refl w.heap.size w).alloc (Nat.le_refl _) _) hb1 (by simp)); clear hb1)
      all_goals
        refine HR.out _ _ ⟨by rw [HO.out]; rfl, ?_⟩
        have := HB.out
        have := this.size
        (repeat (first | exact Below.refl _ _ | assumption | refine Below.setCell ?_ (by first | omega | (simp; done) | (simp; omega)) _ | refine Below.alloc ?_ (by first | omega | (simp; done) | (simp; omega)) _ | refine Below.drew ?_ | refine below_drewN ?_ _))
  · have HO := Lib.hid (Fr.okB_not (a := ⟨an, ad⟩) (fun h => hr ⟨h.1, h.2.1, h.2.2.1, h.2.2.2.1⟩))
    go_enter Try.func56, Try.ntmps56
    go_wp2_with fail
    all_goals
      refine HR.out _ _ ⟨(by first | (rw [HO.out]; done) | (rw [HO.out]; rfl)), ?_⟩
      (repeat (first | exact Below.refl _ _ | assumption | refine Below.setCell ?_ (by first | omega | (simp; done) | (simp; omega)) _ | refine Below.alloc ?_ (by first | omega | (simp; done) | (simp; omega)) _ | refine Below.drew ?_ | refine below_drewN ?_ _))

set_option maxHeartbeats 400000 in
theorem rof_any (n : Int) (w : World) :
    Calls Try.prog 65 #[.int .i64 n] w fun e w' => e = .returned (.agg #[.int .i64 n, .int .i64 1]) ∧ Below w.heap.size w w' := by
  refine calls_cps fun R hR => ?_
  have HR := Lib.hid hR
  clear hR
  go_enter Try.func65, Try.ntmps65
  go_wp2
  refine bodyPost_ret (v := .agg #[.int .i64 n, .int .i64 1]) (by simp [results, Try.results65, go_sem]) rfl (HR.out _ _ ⟨rfl, ?_⟩)
  (repeat (first | exact Below.refl _ _ | assumption | refine Below.setCell ?_ (by first | omega | (simp; done) | (simp; omega)) _ | refine Below.alloc ?_ (by first | omega | (simp; done) | (simp; omega)) _ | refine Below.drew ?_ | refine below_drewN ?_ _))

set_option maxHeartbeats 2000000 in
theorem radd_any (a b : Fr) (w : World) :
    Calls Try.prog 67 #[.agg #[.int .i64 (a).n, .int .i64 (a).d], .agg #[.int .i64 (b).n, .int .i64 (b).d]] w fun e w' =>
      e = .returned (.tuple #[.agg #[.int .i64 (addE a b).n, .int .i64 (addE a b).d], .int .i64 (addE a b).e]) ∧ Below w.heap.size w w' := by
  refine calls_cps fun R hR => ?_
  have HR := Lib.hid hR
  clear hR
  go_enter Try.func67, Try.ntmps67
  go_wp2_with fail
  refine (rvalid_any a _).mono ?_
  rintro e w1 ⟨rfl, hb1⟩
  obtain ⟨p1, p2, p3, p4, p5⟩ := B2.after (g := w.heap.size) (x := .int .i64 a.n) (y := .int .i64 a.d) hb1 (by simp [B2, go_sem]) (by first | omega | (simp; done) | (simp; omega))
  obtain ⟨q1, q2, q3, q4, q5⟩ := B2.after (g := w.heap.size + 1) (x := .int .i64 b.n) (y := .int .i64 b.d) hb1 (by simp [B2, go_sem]) (by first | omega | (simp; done) | (simp; omega))
  obtain ⟨k1, k2, k3, k4, k5⟩ := B2.after (g := w.heap.size + 1 + 1) (x := .int .i64 0) (y := .int .i64 0) hb1 (by simp [B2, go_sem]) (by first | omega | (simp; done) | (simp; omega))
  have HB : Hid (Below w.heap.size w w1) := Lib.hid (by refine Below.step ?_ hb1 (by first | omega | (simp; done) | (simp; omega)); (repeat (first | exact Below.refl _ _ | assumption | refine Below.setCell ?_ (by first | omega | (simp; done) | (simp; omega)) _ | refine Below.alloc ?_ (by first | omega | (simp; done) | (simp; omega)) _ | refine Below.drew ?_ | refine below_drewN ?_ _)))
  clear hb1
  cases hva : a.okB with
  | false =>
    have HV := Lib.hid hva
    clear hva
    go_wp2
    refine bodyPost_ret (v := .tuple #[.agg #[.int .i64 0, .int .i64 0], .int .i64 1]) (by simp [results, Try.results67, go_sem, k1, k2]) rfl (HR.out _ _ ⟨?_, ?_⟩)
    · simp [addE, HV.out, FE.err]
    · have := HB.out; (repeat (first | exact Below.refl _ _ | assumption | refine Below.setCell ?_ (by first | omega | (simp; done) | (simp; omega)) _ | refine Below.alloc ?_ (by first | omega | (simp; done) | (simp; omega)) _ | refine Below.drew ?_ | refine below_drewN ?_ _))
  | true =>
    go_wp2_with fail
    refine (rvalid_any b _).mono ?_
    rintro e w2 ⟨rfl, hb2⟩
    obtain ⟨p1', p2', p3', p4', p5'⟩ := B2.after hb2 (g := w.heap.size) ⟨p1, p2, p3, p4, p5⟩ (by first | omega | (simp; done) | (simp; omega))
    obtain ⟨q1', q2', q3', q4', q5'⟩ := B2.after hb2 (g := w.heap.size + 1) ⟨q1, q2, q3, q4, q5⟩ (by first | omega | (simp; done) | (simp; omega))
    obtain ⟨k1', k2', k3', k4', k5'⟩ := B2.after hb2 (g := w.heap.size + 1 + 1) ⟨k1, k2, k3, k4, k5⟩ (by first | omega | (simp; done) | (simp; omega))
    have HB2 : Hid (Below w.heap.size w w2) := Lib.hid (Below.step HB.out hb2 (by omega))
    clear hb2 HB p1 p2 p3 p4 p5 q1 q2 q3 q4 q5 k1 k2 k3 k4 k5
    cases hvb : b.okB with
    | false =>
      have HV := Lib.hid hvb
      clear hvb
      go_wp2
      refine bodyPost_ret (v := .tuple #[.agg #[.int .i64 0, .int .i64 0], .int .i64 1]) (by simp [results, Try.results67, go_sem, k1', k2']) rfl (HR.out _ _ ⟨?_, ?_⟩)
      · simp [addE, HV.out, FE.err]
      · have := HB2.out; (repeat (first | exact Below.refl _ _ | assumption | refine Below.setCell ?_ (by first | omega | (simp; done) | (simp; omega)) _ | refine Below.alloc ?_ (by first | omega | (simp; done) | (simp; omega)) _ | refine Below.drew ?_ | refine below_drewN ?_ _))
    | true =>
      have HVA := Lib.hid hva
      have HVB := Lib.hid hvb
      have hoka := (Fr.okB_iff a).1 hva
      have hokb := (Fr.okB_iff b).1 hvb
      have ⟨a1, a2, a3, a4, _⟩ := hoka
      have ⟨b1, b2, b3, b4, _⟩ := hokb
      have bx := mul_bd a.n b.d a1 a2 (by omega) (by omega)
      have bY := mul_bd b.n a.d b1 b2 (by omega) (by omega)
      have bz := mul_bd a.d b.d (by omega) a4 (by omega) b4
      have bz2 : 0 < a.d * b.d := Int.mul_pos (by omega) (by omega)
      have HE : Hid (makeE (a.n * b.d + b.n * a.d) (a.d * b.d) = addE a b) := Lib.hid (by unfold makeE addE; rw [if_neg (by omega), HVA.out, HVB.out]; rfl)
      clear hva hvb hoka hokb
      go_wp2_with fail
      refine (make_any (a.n * b.d + b.n * a.d) (a.d * b.d) _ (by omega) (by omega)).mono ?_
      rintro e w4 ⟨rfl, hb4⟩
      obtain ⟨g1, g2, g3, g4, g5⟩ := B2.after (g := w.heap.size + 1 + 1) (x := .int .i64 0) (y := .int .i64 0) hb4 ⟨k1', k2', k3', k4', k5'⟩ (by first | omega | (simp; done) | (simp; omega))
      have HB4 : Hid (Below w.heap.size w w4) := Lib.hid (Below.step HB2.out hb4 (by omega))
      clear hb4
      go_wp2
      refine bodyPost_ret (v := .tuple #[.agg #[.int .i64 (makeE (a.n * b.d + b.n * a.d) (a.d * b.d)).n, .int .i64 (makeE (a.n * b.d + b.n * a.d) (a.d * b.d)).d], .int .i64 (makeE (a.n * b.d + b.n * a.d) (a.d * b.d)).e]) (by simp [results, Try.results67, go_sem, g1, g2]) rfl (HR.out _ _ ⟨?_, ?_⟩)
      · rw [HE.out]
      · have := HB4.out; (repeat (first | exact Below.refl _ _ | assumption | refine Below.setCell ?_ (by first | omega | (simp; done) | (simp; omega)) _ | refine Below.alloc ?_ (by first | omega | (simp; done) | (simp; omega)) _ | refine Below.drew ?_ | refine below_drewN ?_ _))

set_option maxHeartbeats 2000000 in
theorem rmul_any (a b : Fr) (w : World) :
    Calls Try.prog 66 #[.agg #[.int .i64 (a).n, .int .i64 (a).d], .agg #[.int .i64 (b).n, .int .i64 (b).d]] w fun e w' =>
      e = .returned (.tuple #[.agg #[.int .i64 (mulE a b).n, .int .i64 (mulE a b).d], .int .i64 (mulE a b).e]) ∧ Below w.heap.size w w' := by
  refine calls_cps fun R hR => ?_
  have HR := Lib.hid hR
  clear hR
  go_enter Try.func66, Try.ntmps66
  go_wp2_with fail
  refine (rvalid_any a _).mono ?_
  rintro e w1 ⟨rfl, hb1⟩
  obtain ⟨p1, p2, p3, p4, p5⟩ := B2.after (g := w.heap.size) (x := .int .i64 a.n) (y := .int .i64 a.d) hb1 (by simp [B2, go_sem]) (by first | omega | (simp; done) | (simp; omega))
  obtain ⟨q1, q2, q3, q4, q5⟩ := B2.after (g := w.heap.size + 1) (x := .int .i64 b.n) (y := .int .i64 b.d) hb1 (by simp [B2, go_sem]) (by first | omega | (simp; done) | (simp; omega))
  obtain ⟨k1, k2, k3, k4, k5⟩ := B2.after (g := w.heap.size + 1 + 1) (x := .int .i64 0) (y := .int .i64 0) hb1 (by simp [B2, go_sem]) (by first | omega | (simp; done) | (simp; omega))
  have HB : Hid (Below w.heap.size w w1) := Lib.hid (by refine Below.step ?_ hb1 (by first | omega | (simp; done) | (simp; omega)); (repeat (first | exact Below.refl _ _ | assumption | refine Below.setCell ?_ (by first | omega | (simp; done) | (simp; omega)) _ | refine Below.alloc ?_ (by first | omega | (simp; done) | (simp; omega)) _ | refine Below.drew ?_ | refine below_drewN ?_ _)))
  clear hb1
  cases hva : a.okB with
  | false =>
    have HV := Lib.hid hva
    clear hva
    go_wp2
    refine bodyPost_ret (v := .tuple #[.agg #[.int .i64 0, .int .i64 0], .int .i64 1]) (by simp [results, Try.results66, go_sem, k1, k2]) rfl (HR.out _ _ ⟨?_, ?_⟩)
    · simp [mulE, HV.out, FE.err]
    · have := HB.out; (repeat (first | exact Below.refl _ _ | assumption | refine Below.setCell ?_ (by first | omega | (simp; done) | (simp; omega)) _ | refine Below.alloc ?_ (by first | omega | (simp; done) | (simp; omega)) _ | refine Below.drew ?_ | refine below_drewN ?_ _))
  | true =>
    go_wp2_with fail
    refine (rvalid_any b _).mono ?_
    rintro e w2 ⟨rfl, hb2⟩
    obtain ⟨p1', p2', p3', p4', p5'⟩ := B2.after hb2 (g := w.heap.size) ⟨p1, p2, p3, p4, p5⟩ (by first | omega | (simp; done) | (simp; omega))
    obtain ⟨q1', q2', q3', q4', q5'⟩ := B2.after hb2 (g := w.heap.size + 1) ⟨q1, q2, q3, q4, q5⟩ (by first | omega | (simp; done) | (simp; omega))
    obtain ⟨k1', k2', k3', k4', k5'⟩ := B2.after hb2 (g := w.heap.size + 1 + 1) ⟨k1, k2, k3, k4, k5⟩ (by first | omega | (simp; done) | (simp; omega))
    have HB2 : Hid (Below w.heap.size w w2) := Lib.hid (Below.step HB.out hb2 (by omega))
    clear hb2 HB p1 p2 p3 p4 p5 q1 q2 q3 q4 q5 k1 k2 k3 k4 k5
    cases hvb : b.okB with
    | false =>
      have HV := Lib.hid hvb
      clear hvb
      go_wp2
      refine bodyPost_ret (v := .tuple #[.agg #[.int .i64 0, .int .i64 0], .int .i64 1]) (by simp [results, Try.results66, go_sem, k1', k2']) rfl (HR.out _ _ ⟨?_, ?_⟩)
      · simp [mulE, HV.out, FE.err]
      · have := HB2.out; (repeat (first | exact Below.refl _ _ | assumption | refine Below.setCell ?_ (by first | omega | (simp; done) | (simp; omega)) _ | refine Below.alloc ?_ (by first | omega | (simp; done) | (simp; omega)) _ | refine Below.drew ?_ | refine below_drewN ?_ _))
    | true =>
      have HVA := Lib.hid hva
      have HVB := Lib.hid hvb
      have hoka := (Fr.okB_iff a).1 hva
      have hokb := (Fr.okB_iff b).1 hvb
      have ⟨a1, a2, a3, a4, _⟩ := hoka
      have ⟨b1, b2, b3, b4, _⟩ := hokb
      have bx := mul_bd' a.n b.n a1 a2 b1 b2
      have bz := mul_bd a.d b.d (by omega) a4 (by omega) b4
      have bz2 : 0 < a.d * b.d := Int.mul_pos (by omega) (by omega)
      have HE : Hid (makeE (a.n * b.n) (a.d * b.d) = mulE a b) := Lib.hid (by unfold makeE mulE; rw [if_neg (by omega), HVA.out, HVB.out]; rfl)
      clear hva hvb hoka hokb
      go_wp2_with fail
      refine (make_any (a.n * b.n) (a.d * b.d) _ (by omega) (by omega)).mono ?_
      rintro e w4 ⟨rfl, hb4⟩
      obtain ⟨g1, g2, g3, g4, g5⟩ := B2.after (g := w.heap.size + 1 + 1) (x := .int .i64 0) (y := .int .i64 0) hb4 ⟨k1', k2', k3', k4', k5'⟩ (by first | omega | (simp; done) | (simp; omega))
      have HB4 : Hid (Below w.heap.size w w4) := Lib.hid (Below.step HB2.out hb4 (by omega))
      clear hb4
      go_wp2
      refine bodyPost_ret (v := .tuple #[.agg #[.int .i64 (makeE (a.n * b.n) (a.d * b.d)).n, .int .i64 (makeE (a.n * b.n) (a.d * b.d)).d], .int .i64 (makeE (a.n * b.n) (a.d * b.d)).e]) (by simp [results, Try.results66, go_sem, g1, g2]) rfl (HR.out _ _ ⟨?_, ?_⟩)
      · rw [HE.out]
      · have := HB4.out; (repeat (first | exact Below.refl _ _ | assumption | refine Below.setCell ?_ (by first | omega | (simp; done) | (simp; omega)) _ | refine Below.alloc ?_ (by first | omega | (simp; done) | (simp; omega)) _ | refine Below.drew ?_ | refine below_drewN ?_ _))

end Go.Proofs.Ytjkdeidjmejmeaa
end
section
namespace Go.Proofs.Ytjkdeidjmejmeaa.Aw
set_option linter.unusedSimpArgs false
set_option linter.unusedVariables false
open Go.RowKit Go.Proofs
variable {P : Program} [IsP P]

theorem pure_prog {f : FuncId} {args : List AV} {r : AV} (h : Pure Try.prog f args r) : Pure P f args r := by rw [IsP.eq (P := P)]; exact h
theorem gti_mem {α : Type} [Inhabited α] {l : List α} {k : Nat} (h : k < l.length) : gti l k ∈ l := List.mem_of_getElem? (gti_get h)
instance : Inhabited Fr := ⟨⟨0, 0⟩⟩
def eF (a : Fr) : AV := .agg [eI a.n, eI a.d]
def eFE (x : FE) : AV := .tup [.agg [eI x.n, eI x.d], eI x.e]
theorem lo_F (a : Fr) : Lo 0 (eF a) := .agg _ (lo_cons (.s _) (lo_cons (.s _) lo_nil))
theorem rep_F {G : Cx} {v : Value} {a : Fr} (h : Rep G v (eF a)) : v = .agg #[.int .i64 a.n, .int .i64 a.d] := by
  generalize hx : eF a = x at h
  cases h with
  | agg vs cs hl h1 hr =>
    unfold eF at hx
    injection hx with hx
    subst hx
    obtain ⟨q⟩ := vs
    match q, hl with
    | [u, w], _ =>
      have e1 := rep_s (hr 0 u _ rfl rfl)
      have e2 := rep_s (hr 1 w _ rfl rfl)
      rw [e1, e2]
  | _ => unfold eF at hx; cases hx
theorem rep_mkF (G : Cx) (n d : Int) : Rep G (.agg #[.int .i64 n, .int .i64 d]) (.agg [eI n, eI d]) :=
  .agg _ _ rfl (fun c hc => by simp at hc; rcases hc with rfl | rfl <;> rfl) (fun j v c hv hc => by
    match j, hv, hc with
    | 0, hv, hc => simp at hv hc; subst hv hc; exact .s _
    | 1, hv, hc => simp at hv hc; subst hv hc; exact .s _
    | j + 2, hv, hc => simp at hv)
theorem retFE_pure {f : FuncId} {args : List AV} {x : FE} (he : Ent f) (h : ∀ (G : Cx) (vargs : Array Value), vargs.size = args.length → (∀ (j : Nat) v x, vargs[j]? = some v → args[j]? = some x → Rep G v x) → Calls Try.prog f vargs G.w fun e w' => e = .returned (.tuple #[.agg #[.int .i64 (x).n, .int .i64 (x).d], .int .i64 (x).e]) ∧ Below G.w.heap.size G.w w') : Pure P f args (eFE x) :=
  pure_prog (pure_mk he (.tup _ (lo_cons (.agg _ (lo_cons (.s _) (lo_cons (.s _) lo_nil))) (lo_cons (.s _) lo_nil))) fun G vargs hst hsz hrep => (h G vargs hsz hrep).mono (by
    rintro e w' ⟨rfl, hb⟩
    refine ⟨_, rfl, hb, .tup _ _ rfl (fun j v c hv hc => ?_)⟩
    match j, hv, hc with
    | 0, hv, hc => simp at hv hc; subst hv hc; exact rep_mkF _ _ _
    | 1, hv, hc => simp at hv hc; subst hv hc; exact .s _
    | j + 2, hv, hc => simp at hv))
theorem args_FF {G : Cx} {vargs : Array Value} {a b : Fr} (hsz : vargs.size = [eF a, eF b].length) (hrep : ∀ (j : Nat) v x, vargs[j]? = some v → [eF a, eF b][j]? = some x → Rep G v x) : vargs = #[.agg #[.int .i64 (a).n, .int .i64 (a).d], .agg #[.int .i64 (b).n, .int .i64 (b).d]] := by
  obtain ⟨q⟩ := vargs
  match q, hsz with
  | [u, w], _ => rw [rep_F (hrep 0 u _ rfl rfl), rep_F (hrep 1 w _ rfl rfl)]
theorem args_F {G : Cx} {vargs : Array Value} {a : Fr} (hsz : vargs.size = [eF a].length) (hrep : ∀ (j : Nat) v x, vargs[j]? = some v → [eF a][j]? = some x → Rep G v x) : vargs = #[.agg #[.int .i64 (a).n, .int .i64 (a).d]] := by
  obtain ⟨q⟩ := vargs
  match q, hsz with
  | [u], _ => rw [rep_F (hrep 0 u _ rfl rfl)]
theorem ret_s_pure {f : FuncId} {args : List AV} {u : Value} (he : Ent f) (h : ∀ (G : Cx) (vargs : Array Value), vargs.size = args.length → (∀ (j : Nat) v x, vargs[j]? = some v → args[j]? = some x → Rep G v x) → Calls Try.prog f vargs G.w fun e w' => e = .returned u ∧ Below G.w.heap.size G.w w') : Pure P f args (.s u) :=
  pure_prog (pure_mk he (.s _) fun G vargs hst hsz hrep => (h G vargs hsz hrep).mono (by
    rintro e w' ⟨rfl, hb⟩
    exact ⟨_, rfl, hb, .s _⟩))
theorem retF_pure {f : FuncId} {args : List AV} {a : Fr} (he : Ent f) (h : ∀ (G : Cx) (vargs : Array Value), vargs.size = args.length → (∀ (j : Nat) v x, vargs[j]? = some v → args[j]? = some x → Rep G v x) → Calls Try.prog f vargs G.w fun e w' => e = .returned (.agg #[.int .i64 (a).n, .int .i64 (a).d]) ∧ Below G.w.heap.size G.w w') : Pure P f args (eF a) :=
  pure_prog (pure_mk he (lo_F a) fun G vargs hst hsz hrep => (h G vargs hsz hrep).mono (by
    rintro e w' ⟨rfl, hb⟩
    exact ⟨_, rfl, hb, rep_mkF _ _ _⟩))

theorem fAdd_pf (a b : Fr) : Pure P 43 [eF a, eF b] (eFE (addE a b)) :=
  retFE_pure (ent_of Try.func43 rfl rfl) fun G vargs hsz hrep => by rw [args_FF hsz hrep]; exact add_any a b G.w
theorem fSub_pf (a b : Fr) : Pure P 46 [eF a, eF b] (eFE (subE a b)) :=
  retFE_pure (ent_of Try.func46 rfl rfl) fun G vargs hsz hrep => by rw [args_FF hsz hrep]; exact sub_any a b G.w
theorem fMul_pf (a b : Fr) : Pure P 63 [eF a, eF b] (eFE (mulE a b)) :=
  retFE_pure (ent_of Try.func63 rfl rfl) fun G vargs hsz hrep => by rw [args_FF hsz hrep]; exact mul_any a b G.w
theorem fDiv_pf (a b : Fr) : Pure P 73 [eF a, eF b] (eFE (divE a b)) :=
  retFE_pure (ent_of Try.func73 rfl rfl) fun G vargs hsz hrep => by rw [args_FF hsz hrep]; exact div_any a b G.w
theorem fValid_pf (a : Fr) : Pure P 54 [eF a] (eB a.okB) :=
  ret_s_pure (ent_of Try.func54 rfl rfl) fun G vargs hsz hrep => by rw [args_F hsz hrep]; exact fracValid_any a G.w
theorem rValid_pf (a : Fr) : Pure P 56 [eF a] (eB a.okB) :=
  ret_s_pure (ent_of Try.func56 rfl rfl) fun G vargs hsz hrep => by rw [args_F hsz hrep]; exact rvalid_any a G.w
theorem rOf_pf (n : Int) : Pure P 65 [eI n] (eF (Fr.of n)) :=
  retF_pure (ent_of Try.func65 rfl rfl) fun G vargs hsz hrep => by
    obtain ⟨q⟩ := vargs
    match q, hsz with
    | [u], _ => rw [rep_s (hrep 0 u _ rfl rfl)]; exact rof_any n G.w
theorem rAdd_pf (a b : Fr) : Pure P 67 [eF a, eF b] (eFE (addE a b)) :=
  retFE_pure (ent_of Try.func67 rfl rfl) fun G vargs hsz hrep => by rw [args_FF hsz hrep]; exact radd_any a b G.w
theorem rMul_pf (a b : Fr) : Pure P 66 [eF a, eF b] (eFE (mulE a b)) :=
  retFE_pure (ent_of Try.func66 rfl rfl) fun G vargs hsz hrep => by rw [args_FF hsz hrep]; exact rmul_any a b G.w
theorem indexFF_pf (f : FuncId) (caps : List AV) (p : Fr → Bool) (l : List Fr) (hlo : ∀ a : Fr, Lo 0 (eF a)) (hlc : Lo 0 (.fn f caps)) (hf : ∀ a ∈ l, Pure P f ([eF a] ++ caps) (eB (p a))) :
    Pure P 77 [eL eF l, .fn f caps] (eI (firstAt p l)) := by
  refine aw_fn (by rw [IsP.eq (P := P)]; exact Try.func77) rfl rfl rfl rfl rfl (lo_cons (lo_map hlo) (lo_cons hlc lo_nil)) (.s _) (by simp only [argF]; rfl) ?_
  refine aw_bdm (d := 0) rfl (fun hmx => ?_)
  unfold maxLen at hmx
  repeat (first | refine aw_seq ?_ | refine ath_n ?_ | refine aw_skip ?_ | refine abl_n ?_ | refine aw_block ?_)
  refine aw_region ?_
  refine ops_op rfl rfl (runs_none rfl) (mv_s (.inr rfl) rfl) ?_
  refine ops_nil ?_
  repeat (first | refine aw_seq ?_ | refine ath_n ?_ | refine aw_skip ?_ | refine abl_n ?_ | refine aw_block ?_)
  refine aw_region ?_
  first | refine ops_op rfl rfl (runs_none rfl) (mv_own (.inl rfl) rfl) ?_ | refine ops_op rfl rfl (runs_none rfl) (mv_sl (.inl rfl) rfl) ?_ | refine ops_op rfl rfl (runs_none rfl) (mv_s (.inl rfl) rfl) ?_ | refine ops_op rfl rfl (runs_none rfl) (mv_emp (.inl rfl) rfl) ?_
  first | refine ops_op rfl rfl (runs_none rfl) (does_len_map rfl ts36 rfl) ?_ | refine ops_op rfl rfl (runs_none rfl) (does_len_sl rfl ts36 rfl) ?_ | refine ops_op rfl rfl (runs_none rfl) (does_len_own rfl ts36 rfl) ?_ | refine ops_op rfl rfl (runs_none rfl) (does_len_s rfl ts36 rfl) ?_ | refine ops_op rfl rfl (runs_none rfl) (does_len_emp rfl ts36 rfl) ?_
  refine ops_op rfl rfl (runs_none rfl) (mv_s (.inl rfl) rfl) ?_
  refine ops_nil ?_
  repeat (first | refine aw_seq ?_ | refine ath_n ?_ | refine aw_skip ?_ | refine abl_n ?_ | refine aw_block ?_)
  refine aw_loops (S := Nat) (fun k => [(0, eL eF l), (1, .fn f caps), (7, eI l.length), (8, eI k)]) (fun _ => []) (fun k => k ≤ l.length ∧ ∀ j a, j < k → l[j]? = some a → p a = false) (fun k => l.length - k) 0 (wk_sub _ ⟨rfl, rfl, rfl, rfl, trivial⟩) ⟨by omega, fun j a hj => by omega⟩ (fun k hk => ?_)
  repeat (first | refine aw_seq ?_ | refine ath_n ?_ | refine aw_skip ?_ | refine abl_n ?_ | refine aw_block ?_)
  refine aw_region ?_
  refine ops_op rfl rfl (runs_none rfl) (does_lss rfl rfl rfl) ?_
  refine ops_nil ?_
  repeat (first | refine aw_seq ?_ | refine ath_n ?_ | refine aw_skip ?_ | refine abl_n ?_ | refine aw_block ?_)
  refine aw_if rfl (fun h => ?_) (fun h => ?_)
  · have hlt : k < l.length := by omega
    repeat (first | refine aw_seq ?_ | refine ath_n ?_ | refine aw_skip ?_ | refine abl_n ?_ | refine aw_block ?_)
    refine aw_region ?_
    refine ops_op rfl rfl (runs_none rfl) (mv_s (.inl rfl) rfl) ?_
    refine ops_op rfl rfl (runs_none rfl) (mv_s (.inr rfl) rfl) ?_
    refine ops_nil ?_
    repeat (first | refine aw_seq ?_ | refine ath_n ?_ | refine aw_skip ?_ | refine abl_n ?_ | refine aw_block ?_)
    have hp := hf (gti l k) (gti_mem hlt)
    refine aw_region ?_
    first | refine ops_op rfl rfl (runs_none rfl) (mv_fn (.inl rfl) rfl) ?_ | refine ops_op rfl rfl (runs_none rfl) (mv_s (.inl rfl) rfl) ?_
    first | refine ops_op rfl rfl (runs_none rfl) (mv_own (.inl rfl) rfl) ?_ | refine ops_op rfl rfl (runs_none rfl) (mv_sl (.inl rfl) rfl) ?_ | refine ops_op rfl rfl (runs_none rfl) (mv_s (.inl rfl) rfl) ?_ | refine ops_op rfl rfl (runs_none rfl) (mv_emp (.inl rfl) rfl) ?_
    refine ops_op rfl rfl (runs_none rfl) (mv_s (.inl rfl) rfl) ?_
    first | refine ops_op rfl rfl (runs_none rfl) (does_index_sl rfl ts36 ti48 rfl rfl rfl (ix_map (by omega)) rfl) ?_ | refine ops_op rfl rfl (runs_none rfl) (does_index_own rfl ts36 ti48 rfl rfl rfl (by omega)) ?_
    first | refine ops_op rfl rfl (runs_none rfl) (does_load_refw rfl ta48 ti48 rfl rfl) ?_ | refine ops_op rfl rfl (runs_none rfl) (does_load_whole rfl ta48 ti48 rfl rfl rfl rfl rfl) ?_ | refine ops_op rfl rfl (runs_none rfl) (does_load_refs rfl ta48 ti48 rfl (Nat.le_of_ble_eq_true rfl)) ?_ | refine ops_op rfl rfl (runs_none rfl) (does_load_ptrs rfl ta48 ti48 rfl rfl rfl rfl (Nat.le_of_ble_eq_true rfl)) ?_
    refine ops_op rfl rfl (runs_none rfl) (does_call rfl rfl (hp) (evc_cons rfl evc_nil)) ?_
    refine ops_nil ?_
    repeat (first | refine aw_seq ?_ | refine ath_n ?_ | refine aw_skip ?_ | refine abl_n ?_ | refine aw_block ?_)
    refine aw_cond rfl (fun h => ?_) (fun h => ?_)
    · repeat (first | refine aw_seq ?_ | refine ath_n ?_ | refine aw_skip ?_ | refine abl_n ?_ | refine aw_block ?_)
      refine aw_region ?_
      refine ops_op rfl rfl (runs_none rfl) (mv_s (.inl rfl) rfl) ?_
      refine ops_op rfl rfl (runs_none rfl) (mv_s (.inr rfl) rfl) ?_
      refine ops_nil ?_
      repeat (first | refine aw_seq ?_ | refine ath_n ?_ | refine aw_skip ?_ | refine abl_n ?_ | refine aw_block ?_)
      (refine aw_ret ?_; repeat (first | refine ath_r ?_ | refine abl_r ?_))
      exact post1 (.inr rfl) rfl (congrArg eI (firstAt_some (gti_get hlt) h hk.2).symm)
    · repeat (first | refine aw_seq ?_ | refine ath_n ?_ | refine aw_skip ?_ | refine abl_n ?_ | refine aw_block ?_)
      refine aw_region ?_
      refine ops_op rfl rfl (runs_none rfl) (does_add rfl rfl rfl (IntWalk.i64_in _ (by omega))) ?_
      refine ops_op rfl rfl (runs_none rfl) (mv_s (.inl rfl) rfl) ?_
      refine ops_nil ?_
      repeat (first | refine aw_seq ?_ | refine ath_n ?_ | refine aw_skip ?_ | refine abl_n ?_ | refine aw_block ?_)
      refine ⟨k + 1, ⟨by omega, fun j a hj ha => ?_⟩, by omega, wk_sub _ ⟨rfl, rfl, rfl, rfl, trivial⟩⟩
      by_cases e : j = k
      · subst e
        rw [gti_get hlt] at ha
        cases ha
        exact h
      · exact hk.2 j a (by omega) ha
  · (refine aw_exit ?_; repeat (first | refine ath_x ?_ | refine abl_hit ?_ | refine abl_miss rfl ?_ | refine abl_n ?_ | refine ath_n ?_ | refine aw_seq ?_ | refine aw_skip ?_ | refine aw_block ?_))
    refine aw_region ?_
    refine ops_op rfl rfl (runs_none rfl) (mv_s (.inr rfl) rfl) ?_
    refine ops_nil ?_
    repeat (first | refine aw_seq ?_ | refine ath_n ?_ | refine aw_skip ?_ | refine abl_n ?_ | refine aw_block ?_)
    (refine aw_ret ?_; repeat (first | refine ath_r ?_ | refine abl_r ?_))
    exact post1 (.inr rfl) rfl (congrArg eI (firstAt_none (fun j a hj ha => hk.2 j a (by omega) ha)).symm)
theorem containsFF_pf (f : FuncId) (caps : List AV) (p : Fr → Bool) (l : List Fr) (hlo : ∀ a : Fr, Lo 0 (eF a)) (hlc : Lo 0 (.fn f caps)) (hf : ∀ a ∈ l, Pure P f ([eF a] ++ caps) (eB (p a))) :
    Pure P 52 [eL eF l, .fn f caps] (eB (l.any p)) := by
  refine aw_fn (by rw [IsP.eq (P := P)]; exact Try.func52) rfl rfl rfl rfl rfl (lo_cons (lo_map hlo) (lo_cons hlc lo_nil)) (.s _) (by simp only [argF]; rfl) ?_
  have hi := indexFF_pf f caps p l hlo hlc hf
  repeat (first | refine aw_seq ?_ | refine ath_n ?_ | refine aw_skip ?_ | refine abl_n ?_ | refine aw_block ?_)
  refine aw_region ?_
  refine ops_op rfl rfl (runs_none rfl) (mv_s (.inr rfl) rfl) ?_
  refine ops_nil ?_
  repeat (first | refine aw_seq ?_ | refine ath_n ?_ | refine aw_skip ?_ | refine abl_n ?_ | refine aw_block ?_)
  refine aw_region ?_
  first | refine ops_op rfl rfl (runs_none rfl) (mv_own (.inl rfl) rfl) ?_ | refine ops_op rfl rfl (runs_none rfl) (mv_sl (.inl rfl) rfl) ?_ | refine ops_op rfl rfl (runs_none rfl) (mv_s (.inl rfl) rfl) ?_ | refine ops_op rfl rfl (runs_none rfl) (mv_emp (.inl rfl) rfl) ?_
  first | refine ops_op rfl rfl (runs_none rfl) (mv_fn (.inl rfl) rfl) ?_ | refine ops_op rfl rfl (runs_none rfl) (mv_s (.inl rfl) rfl) ?_
  refine ops_op rfl rfl (runs_none rfl) (does_call rfl rfl (hi) (evc_cons rfl (evc_cons rfl evc_nil))) ?_
  refine ops_op rfl rfl (runs_none rfl) (does_geq rfl rfl rfl) ?_
  refine ops_op rfl rfl (runs_none rfl) (mv_s (.inr rfl) rfl) ?_
  refine ops_nil ?_
  repeat (first | refine aw_seq ?_ | refine ath_n ?_ | refine aw_skip ?_ | refine abl_n ?_ | refine aw_block ?_)
  (refine aw_ret ?_; repeat (first | refine ath_r ?_ | refine abl_r ?_))
  exact post1 (.inr rfl) rfl (congrArg eB (firstAt_any p l))
end Go.Proofs.Ytjkdeidjmejmeaa.Aw
end
section
namespace Go.Proofs.Ytjkdeidjmejmeaa.Aw
set_option linter.unusedSimpArgs false
set_option linter.unusedVariables false
open Go.RowKit
section
variable {P : Program} {N : Nat} {F : Frm} {σ : List Ob} {Q : Exit → Frm → List Ob → Prop} {ops : Array Oper} {o : Oper} {l : List Oper} {d : Nat}
theorem ops_opP {p : Prop} [Decidable p] (hd : o.dst = some d) (hN : Nat.blt d N = true) (hr : Runs ops F o true) (hD : Does P o F σ (.s (.bool (decide p))) σ) (k1 : p → AOps P N ops l ((d, .s (.bool true)) :: F) σ Q) (k2 : ¬ p → AOps P N ops l ((d, .s (.bool false)) :: F) σ Q) : AOps P N ops (o :: l) F σ Q := by
  by_cases h : p
  · exact ops_op hd hN hr (dec_t h hD) (k1 h)
  · exact ops_op hd hN hr (dec_f h hD) (k2 h)
theorem ops_opB {b : Bool} (hd : o.dst = some d) (hN : Nat.blt d N = true) (hr : Runs ops F o true) (hD : Does P o F σ (.s (.bool b)) σ) (k1 : b = true → AOps P N ops l ((d, .s (.bool true)) :: F) σ Q) (k2 : b = false → AOps P N ops l ((d, .s (.bool false)) :: F) σ Q) : AOps P N ops (o :: l) F σ Q := by
  cases b with
  | true => exact ops_op hd hN hr hD (k1 rfl)
  | false => exact ops_op hd hN hr hD (k2 rfl)
theorem qx_opP {K : Frm → Prop} {p : Prop} [Decidable p] (hd : o.dst = some d) (hN : Nat.blt d N = true) (hr : Runs ops F o true) (hD : Does P o F σ (.s (.bool (decide p))) σ) (k1 : p → QX P N ops σ l ((d, .s (.bool true)) :: F) K) (k2 : ¬ p → QX P N ops σ l ((d, .s (.bool false)) :: F) K) : QX P N ops σ (o :: l) F K := by
  by_cases h : p
  · exact qx_op hd hN hr (dec_t h hD) (k1 h)
  · exact qx_op hd hN hr (dec_f h hD) (k2 h)
theorem qx_opB {K : Frm → Prop} {b : Bool} (hd : o.dst = some d) (hN : Nat.blt d N = true) (hr : Runs ops F o true) (hD : Does P o F σ (.s (.bool b)) σ) (k1 : b = true → QX P N ops σ l ((d, .s (.bool true)) :: F) K) (k2 : b = false → QX P N ops σ l ((d, .s (.bool false)) :: F) K) : QX P N ops σ (o :: l) F K := by
  cases b with
  | true => exact qx_op hd hN hr hD (k1 rfl)
  | false => exact qx_op hd hN hr hD (k2 rfl)
end
end Go.Proofs.Ytjkdeidjmejmeaa.Aw
end
section
namespace Go.Proofs.Ytjkdeidjmejmeaa.Aw
set_option linter.unusedSimpArgs false
set_option linter.unusedVariables false
open Go.RowKit Go.Proofs
variable {P : Program} [IsP P]

def eFs (l : List Fr) : AV := eL eF l
theorem lo_Fs (l : List Fr) : Lo 0 (eL eF l) := lo_map lo_F
theorem all_okB (l : List Fr) : l.all Fr.okB = !l.any (fun a => !a.okB) := by simp [List.all_eq_not_any_not]
theorem rValidAll_pf (l : List Fr) : Pure P 64 [eL eF l] (eB (l.all Fr.okB)) := by
  refine aw_fn (by rw [IsP.eq (P := P)]; exact Try.func64) rfl rfl rfl rfl rfl (by repeat' (first | exact Lo.s _ | exact Lo.emp | exact Lo.any | exact lo_nil | exact lo_nilE | refine lo_cons ?_ ?_ | refine lo_consE ?_ ?_ | refine lo_map ?_ | refine lo_mapE ?_ | refine Lo.cells ?_ | refine Lo.agg _ ?_ | refine Lo.ref _ ?_ | refine Lo.tup _ ?_ | refine Lo.fn _ _ ?_ | refine Lo.sl _ ?_ | intro _)) (by repeat' (first | exact Lo.s _ | exact Lo.emp | exact Lo.any | exact lo_nil | exact lo_nilE | refine lo_cons ?_ ?_ | refine lo_consE ?_ ?_ | refine lo_map ?_ | refine lo_mapE ?_ | refine Lo.cells ?_ | refine Lo.agg _ ?_ | refine Lo.ref _ ?_ | refine Lo.tup _ ?_ | refine Lo.fn _ _ ?_ | refine Lo.sl _ ?_ | intro _)) (by simp only [argF]; rfl) ?_
  repeat (first | refine aw_seq ?_ | refine ath_n ?_ | refine aw_skip ?_ | refine abl_n ?_ | refine aw_block ?_)
  refine aw_bdm (d := 0) rfl (fun hmx => ?_)
  unfold maxLen at hmx
  refine aw_region ?_
  refine ops_op rfl rfl (runs_none rfl) (mv_s (.inr rfl) rfl) ?_
  refine ops_nil ?_
  repeat (first | refine aw_seq ?_ | refine ath_n ?_ | refine aw_skip ?_ | refine abl_n ?_ | refine aw_block ?_)
  refine aw_region ?_
  refine ops_op rfl rfl (runs_none rfl) (mv_s (.inr rfl) rfl) ?_
  refine ops_nil ?_
  repeat (first | refine aw_seq ?_ | refine ath_n ?_ | refine aw_skip ?_ | refine abl_n ?_ | refine aw_block ?_)
  refine aw_loops (S := Nat) (fun k => [(0, eL eF l), (3, eI k)]) (fun _ => []) (fun k => k ≤ l.length ∧ ∀ j, j < k → (gti l j).okB = true) (fun k => l.length - k) 0 (wk_sub _ ⟨rfl, rfl, trivial⟩) ⟨by omega, fun j hj => by omega⟩ (fun k hk => ?_)
  repeat (first | refine aw_seq ?_ | refine ath_n ?_ | refine aw_skip ?_ | refine abl_n ?_ | refine aw_block ?_)
  all_goals refine aw_region ?_
  all_goals refine ops_op rfl rfl (runs_none rfl) (mv_s (.inl rfl) rfl) ?_
  all_goals (first | refine ops_op rfl rfl (runs_none rfl) (mv_own (.inl rfl) rfl) ?_ | refine ops_op rfl rfl (runs_none rfl) (mv_sl (.inl rfl) rfl) ?_ | refine ops_op rfl rfl (runs_none rfl) (mv_s (.inl rfl) rfl) ?_ | refine ops_op rfl rfl (runs_none rfl) (mv_emp (.inl rfl) rfl) ?_)
  all_goals (first | refine ops_op rfl rfl (runs_none rfl) (does_len_map rfl ts36 rfl) ?_ | refine ops_op rfl rfl (runs_none rfl) (does_len_sl rfl ts36 rfl) ?_ | refine ops_op rfl rfl (runs_none rfl) (does_len_own rfl ts36 rfl) ?_ | refine ops_op rfl rfl (runs_none rfl) (does_len_s rfl ts36 rfl) ?_ | refine ops_op rfl rfl (runs_none rfl) (does_len_emp rfl ts36 rfl) ?_)
  all_goals (first | refine ops_opP rfl rfl (runs_none rfl) (does_lss rfl rfl rfl) (fun h7 => ?_) (fun h7 => ?_) | refine ops_opB rfl rfl (runs_none rfl) (does_lss rfl rfl rfl) (fun h7 => ?_) (fun h7 => ?_))
  all_goals refine ops_nil ?_
  all_goals (repeat (first | refine aw_seq ?_ | refine ath_n ?_ | refine aw_skip ?_ | refine abl_n ?_ | refine aw_block ?_))
  all_goals (first | refine aw_true rfl ?_ | refine aw_false rfl ?_)
  all_goals (repeat (first | refine aw_seq ?_ | refine ath_n ?_ | refine aw_skip ?_ | refine abl_n ?_ | refine aw_block ?_))
  · have hlt : k < l.length := by omega
    all_goals refine aw_region ?_
    all_goals (first | refine ops_op rfl rfl (runs_none rfl) (mv_own (.inl rfl) rfl) ?_ | refine ops_op rfl rfl (runs_none rfl) (mv_sl (.inl rfl) rfl) ?_ | refine ops_op rfl rfl (runs_none rfl) (mv_s (.inl rfl) rfl) ?_ | refine ops_op rfl rfl (runs_none rfl) (mv_emp (.inl rfl) rfl) ?_)
    all_goals refine ops_op rfl rfl (runs_none rfl) (mv_s (.inl rfl) rfl) ?_
    all_goals (first | refine ops_op rfl rfl (runs_none rfl) (does_index_sl rfl ts36 ti48 rfl rfl rfl (ix_map (by omega)) rfl) ?_ | refine ops_op rfl rfl (runs_none rfl) (does_index_own rfl ts36 ti48 rfl rfl rfl (by omega)) ?_)
    all_goals (first | refine ops_op rfl rfl (runs_none rfl) (does_load_refw rfl ta48 ti48 rfl rfl) ?_ | refine ops_op rfl rfl (runs_none rfl) (does_load_whole rfl ta48 ti48 rfl rfl rfl rfl rfl) ?_ | refine ops_op rfl rfl (runs_none rfl) (does_load_refs rfl ta48 ti48 rfl (Nat.le_of_ble_eq_true rfl)) ?_ | refine ops_op rfl rfl (runs_none rfl) (does_load_ptrs rfl ta48 ti48 rfl rfl rfl rfl (Nat.le_of_ble_eq_true rfl)) ?_)
    all_goals (first | refine ops_opP rfl rfl (runs_none rfl) (does_call rfl rfl (rValid_pf _) (evc_cons rfl evc_nil)) (fun h14 => ?_) (fun h14 => ?_) | refine ops_opB rfl rfl (runs_none rfl) (does_call rfl rfl (rValid_pf _) (evc_cons rfl evc_nil)) (fun h14 => ?_) (fun h14 => ?_))
    all_goals (first | refine ops_op rfl rfl (runs_none rfl) (does_notp rfl rfl) ?_ | refine ops_op rfl rfl (runs_none rfl) (does_not rfl rfl) ?_)
    all_goals refine ops_nil ?_
    all_goals (repeat (first | refine aw_seq ?_ | refine ath_n ?_ | refine aw_skip ?_ | refine abl_n ?_ | refine aw_block ?_))
    all_goals (first | refine aw_true rfl ?_ | refine aw_false rfl ?_)
    all_goals (repeat (first | refine aw_seq ?_ | refine ath_n ?_ | refine aw_skip ?_ | refine abl_n ?_ | refine aw_block ?_))
    · skip
      refine aw_region ?_
      refine ops_op rfl rfl (runs_none rfl) (mv_s (.inl rfl) rfl) ?_
      refine ops_op rfl rfl (runs_none rfl) (does_add rfl rfl rfl (IntWalk.i64_in _ (by omega))) ?_
      refine ops_op rfl rfl (runs_none rfl) (mv_s (.inr rfl) rfl) ?_
      refine ops_nil ?_
      repeat (first | refine aw_seq ?_ | refine ath_n ?_ | refine aw_skip ?_ | refine abl_n ?_ | refine aw_block ?_)
      refine ⟨k + 1, ⟨by omega, fun j hj => ?_⟩, by omega, wk_sub _ ⟨rfl, rfl, trivial⟩⟩
      by_cases e : j = k
      · subst e; exact Fr.okB_of h14
      · exact hk.2 j (by omega)
    · skip
      refine aw_region ?_
      refine ops_op rfl rfl (runs_none rfl) (mv_s (.inr rfl) rfl) ?_
      refine ops_nil ?_
      repeat (first | refine aw_seq ?_ | refine ath_n ?_ | refine aw_skip ?_ | refine abl_n ?_ | refine aw_block ?_)
      (refine aw_ret ?_; repeat (first | refine ath_r ?_ | refine abl_r ?_))
      refine post1 (.inr rfl) rfl (congrArg eB ?_)
      symm
      rw [List.all_eq_false]
      exact ⟨gti l k, gti_mem hlt, by rw [Fr.okB_not h14]; simp⟩
  · (refine aw_exit ?_; repeat (first | refine ath_x ?_ | refine abl_hit ?_ | refine abl_miss rfl ?_ | refine abl_n ?_ | refine ath_n ?_ | refine aw_seq ?_ | refine aw_skip ?_ | refine aw_block ?_))
    refine aw_region ?_
    refine ops_op rfl rfl (runs_none rfl) (mv_s (.inr rfl) rfl) ?_
    refine ops_nil ?_
    repeat (first | refine aw_seq ?_ | refine ath_n ?_ | refine aw_skip ?_ | refine abl_n ?_ | refine aw_block ?_)
    (refine aw_ret ?_; repeat (first | refine ath_r ?_ | refine abl_r ?_))
    refine post1 (.inr rfl) rfl (congrArg eB ?_)
    symm
    rw [List.all_eq_true]
    intro a ha
    obtain ⟨j, hj, rfl⟩ := List.mem_iff_getElem.1 ha
    have h1 := hk.2 j (by omega)
    have h2 := gti_get hj
    rw [List.getElem?_eq_getElem hj] at h2
    rw [Option.some.inj h2]; exact h1

end Go.Proofs.Ytjkdeidjmejmeaa.Aw
end
section
namespace Go.Proofs.Ytjkdeidjmejmeaa.Aw
set_option linter.unusedSimpArgs false
set_option linter.unusedVariables false
open Go.RowKit

def liftE (N : Nat) (G : Cx) (Q : Exit → Frm → List Ob → Prop) : Exit → Act → World → Prop :=
  fun e a' w' => ∃ G' F' σ', G'.w = w' ∧ G.Ext G' ∧ S8 N G' a' F' σ' ∧ Q e F' σ'
theorem liftE_mono {N : Nat} {G G1 : Cx} (h : G.Ext G1) {Q Q' : Exit → Frm → List Ob → Prop} (hq : ∀ e F σ, Q e F σ → Q' e F σ) {e : Exit} {a : Act} {w : World} (x : liftE N G1 Q e a w) : liftE N G Q' e a w := by
  obtain ⟨G', F', σ', h1, h2, h3, h4⟩ := x
  exact ⟨G', F', σ', h1, h.trans h2, h3, hq _ _ _ h4⟩

def EWp (P : Program) (N : Nat) (c : Code) (F : Frm) (σ : List Ob) (Q : Exit → Frm → List Ob → Prop) : Prop :=
  ∀ G a, S8 N G a F σ → c.wp P (liftE N G Q) a G.w
def EOps (P : Program) (N : Nat) (ops : Array Oper) (l : List Oper) (F : Frm) (σ : List Ob) (Q : Exit → Frm → List Ob → Prop) : Prop :=
  ∀ G a, S8 N G a F σ → wpList P ops (liftE N G Q) l a G.w

section
variable {P : Program} {N : Nat} {F : Frm} {σ : List Ob} {Q : Exit → Frm → List Ob → Prop}

theorem ew_seq {x y : Code} (h : EWp P N x F σ (AThen (fun F σ => EWp P N y F σ Q) Q)) : EWp P N (.seq x y) F σ Q := fun G a hs => by
  refine wp_seq (Code.wp_mono (fun e a1 w1 q => ?_) (h G a hs))
  obtain ⟨G', F', σ', rfl, h2, h3, h4⟩ := q
  cases e with
  | normal => exact Code.wp_mono (fun e a w q => liftE_mono h2 (fun _ _ _ x => x) q) (h4 G' a1 h3)
  | _ => exact ⟨G', F', σ', rfl, h2, h3, h4⟩
theorem ew_skip (h : Q .normal F σ) : EWp P N .skip F σ Q := fun G a hs => wp_skip ⟨G, F, σ, rfl, .refl G, hs, h⟩
theorem ew_exit {id : Nat} (h : Q (.exit id) F σ) : EWp P N (.exit id) F σ Q := fun G a hs => wp_exit ⟨G, F, σ, rfl, .refl G, hs, h⟩
theorem ew_ret (h : Q .ret F σ) : EWp P N .ret F σ Q := fun G a hs => wp_ret ⟨G, F, σ, rfl, .refl G, hs, h⟩
theorem ew_block {id : Nat} {c : Code} (h : EWp P N c F σ (ABlk id Q)) : EWp P N (.block id c) F σ Q := fun G a hs => by
  refine wp_block (Code.wp_mono (fun e a1 w1 q => ?_) (h G a hs))
  obtain ⟨G', F', σ', rfl, h2, h3, h4⟩ := q
  cases e with
  | exit id' =>
    simp only [ABlk] at h4
    simp only [Exit.inBlock]
    split
    · rename_i e; rw [if_pos e] at h4; exact ⟨G', F', σ', rfl, h2, h3, h4⟩
    · rename_i e; rw [if_neg e] at h4; exact ⟨G', F', σ', rfl, h2, h3, h4⟩
  | _ => exact ⟨G', F', σ', rfl, h2, h3, h4⟩
theorem ew_cond {c : Operand} {x y : Code} {b : Bool} (hc : F.eval c = .s (.bool b)) (ht : b = true → EWp P N x F σ Q) (hf : b = false → EWp P N y F σ Q) : EWp P N (.cond c x y) F σ Q := fun G a hs =>
  wp_cond_split (rep_bool hs.fr hc) (fun e => ht e G a hs) (fun e => hf e G a hs)
theorem ew_true {c : Operand} {x y : Code} (hc : F.eval c = .s (.bool true)) (ht : EWp P N x F σ Q) : EWp P N (.cond c x y) F σ Q := ew_cond hc (fun _ => ht) (fun e => by cases e)
theorem ew_false {c : Operand} {x y : Code} (hc : F.eval c = .s (.bool false)) (ht : EWp P N y F σ Q) : EWp P N (.cond c x y) F σ Q := ew_cond hc (fun e => by cases e) (fun _ => ht)
theorem ew_loop {c : Code} (I : Nat → Frm → List Ob → Prop) (m : Nat) (h0 : I m F σ)
    (round : ∀ m F σ, I m F σ → EWp P N c F σ (AThen (fun F' σ' => ∃ m', m' < m ∧ I m' F' σ') Q)) : EWp P N (.loop c) F σ Q := fun G a hs => by
  refine wp_loop_ghost (fun n a w => ∃ G' F' σ', G'.w = w ∧ G.Ext G' ∧ S8 N G' a F' σ' ∧ I n F' σ') m ⟨G, F, σ, rfl, .refl G, hs, h0⟩ ?_
  rintro n a w ⟨G', F', σ', rfl, h2, h3, h4⟩
  refine Code.wp_mono (fun e a1 w1 q => ?_) (round n F' σ' h4 G' a h3)
  obtain ⟨G2, F2, σ2, rfl, h5, h6, h7⟩ := q
  cases e with
  | normal => obtain ⟨m', hm, hi⟩ := h7; exact ⟨m', hm, ⟨G2, F2, σ2, rfl, h2.trans h5, h6, hi⟩⟩
  | _ => exact ⟨G2, F2, σ2, rfl, h2.trans h5, h6, h7⟩

theorem ew_region {id : Nat} {l : List Oper} (h : EOps P N l.toArray l F σ Q) : EWp P N (.region id l.toArray false) F σ Q := fun G a hs => wp_region_lit (h G a hs)
theorem ew_mono {c : Code} {Q' : Exit → Frm → List Ob → Prop} (h : EWp P N c F σ Q) (hq : ∀ e F σ, Q e F σ → Q' e F σ) : EWp P N c F σ Q' := fun G a hs =>
  Code.wp_mono (fun e a w q => liftE_mono (.refl G) hq q) (h G a hs)

end

section
variable {P : Program} {N : Nat} {F : Frm} {σ σ' : List Ob} {Q : Exit → Frm → List Ob → Prop} {ops : Array Oper} {o : Oper} {l : List Oper} {x : AV}

theorem eops_nil (h : Q .normal F σ) : EOps P N ops [] F σ Q := fun G a hs => ⟨G, F, σ, rfl, .refl G, hs, h⟩
end

end Go.Proofs.Ytjkdeidjmejmeaa.Aw
end
