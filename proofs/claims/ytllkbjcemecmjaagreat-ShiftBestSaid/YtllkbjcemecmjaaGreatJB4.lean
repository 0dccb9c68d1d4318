import Derived.Test.YtllkbjcemecmjaaGreatJB3
import Derived.Test.YtllkbjcemecmjaaGreatJB2
set_option linter.unusedSimpArgs false
set_option linter.unusedVariables false
set_option linter.unusedSectionVars false
section
namespace Go.Proofs.YtllkbjcemecmjaaGreat
open Go.RowKit
theorem makeE_ok {a : Fr} (h : a.ok) : makeE a.n a.d = ⟨a.n, a.d, 0⟩ := by
 unfold makeE
 rw [if_neg (by have := h.2.2.1; omega), mkF_of_ok h]
 rfl
theorem makeE_not {an ad : Int} (h3 : 1 ≤ ad) (hg : Int.gcd an ad ≠ 1) : (makeE an ad).d ≠ ad := by
 unfold makeE
 rw [if_neg xd]
 have hgp : 0 < Int.gcd an ad := Int.gcd_pos_iff.2 (Or.inr xd)
 unfold mkF
 split
 ·
  simp only [FE.of, nf]
  obtain ⟨c, hc⟩ : (Int.gcd an ad : Int) ∣ ad := Int.gcd_dvd_right ..
  rw [Int.natAbs_of_nonneg xd]
  generalize (Int.gcd an ad : Nat) = g at *
  subst hc
  rw [Int.mul_ediv_cancel_left _ xd]
  intro e
  have hc0 : 0 < c := Int.pos_of_mul_pos_right xd (show (0:Int) < g by omega)
  have h2 : 2 * c ≤ (g : Int) * c := Int.mul_le_mul_of_nonneg_right xd xd
  omega
 ·
  simp only [FE.of]; omega
set_option maxHeartbeats 1000000 in
theorem rvalid_any (a : Fr) (w : World) :
  Calls Tryz.prog 78 #[.agg #[.int .i64 (a).n, .int .i64 (a).d]] w fun e w' => e = .returned (.bool a.okB) ∧ Below w.heap.size w w' := by
 obtain ⟨an, ad⟩ := a
 refine zc3 fun R hR => ?_
 have HR := Lib.hid hR
 clear hR
 by_cases hr : -1073741824 ≤ an ∧ an ≤ 1073741824 ∧ 1 ≤ ad ∧ ad ≤ 1073741824
 ·
  obtain ⟨h1, h2, h3, h4⟩ := hr
  by_cases hg : Int.gcd an ad = 1
  ·
   have hok : (Fr.mk an ad).ok := ⟨h1, h2, h3, h4, hg⟩
   have HO := Lib.hid (Fr.okB_of hok)
   have HM := Lib.hid (makeE_ok hok)
   clear hok hg
   go_enter Tryz.func78, Tryz.ntmps78
   go_wp2_with (go_at_call 80; refine (make_any _ _ _ xd xd).mono ?_; rintro e w1 ⟨rfl, hb1⟩; obtain ⟨p1, p2, p3, p4, p5⟩ := B2.after (g := w.heap.size) (x := .int .i64 an) (y := .int .i64 ad) hb1 (by simp [B2, go_sem]) xl; have HB := Lib.hid (Below.step ((Below.refl w.heap.size w).alloc (Nat.le_refl _) _) hb1 xo); clear hb1; rw [HM.out])
   refine HR.out _ _ ⟨by rw [HO.out]; rfl, ?_⟩
   have := HB.out
   have := this.size
   (repeat (first | exact Below.refl _ _ | assumption | refine Below.setCell ?_ (by first | omega | (simp; done) | (simp; omega)) _ | refine Below.alloc ?_ (by first | omega | (simp; done) | (simp; omega)) _ | refine Below.drew ?_ | refine below_drewN ?_ _))
  ·
   have HO := Lib.hid (Fr.okB_not (a := ⟨an, ad⟩) (fun h => hg h.2.2.2.2))
   have hne := makeE_not h3 hg
   have hne2 : ((makeE an ad).d == ad) = false := by simpa using hne
   clear hg
   go_enter Tryz.func78, Tryz.ntmps78
   go_wp2_with (go_at_call 80; refine (make_any _ _ _ xd xd).mono ?_; rintro e w1 ⟨rfl, hb1⟩; obtain ⟨p1, p2, p3, p4, p5⟩ := B2.after (g := w.heap.size) (x := .int .i64 an) (y := .int .i64 ad) hb1 (by simp [B2, go_sem]) xl; have HB := Lib.hid (Below.step ((Below.refl w.heap.size w).alloc (Nat.le_refl _) _) hb1 xo); clear hb1)
   all_goals
    refine HR.out _ _ ⟨by rw [HO.out]; rfl, ?_⟩
    have := HB.out
    have := this.size
    (repeat (first | exact Below.refl _ _ | assumption | refine Below.setCell ?_ (by first | omega | (simp; done) | (simp; omega)) _ | refine Below.alloc ?_ (by first | omega | (simp; done) | (simp; omega)) _ | refine Below.drew ?_ | refine below_drewN ?_ _))
 ·
  have HO := Lib.hid (Fr.okB_not (a := ⟨an, ad⟩) (fun h => hr ⟨h.1, h.2.1, h.2.2.1, h.2.2.2.1⟩))
  go_enter Tryz.func78, Tryz.ntmps78
  go_wp2_with fail
  all_goals
   refine HR.out _ _ ⟨(by first | (rw [HO.out]; done) | (rw [HO.out]; rfl)), ?_⟩
   (repeat (first | exact Below.refl _ _ | assumption | refine Below.setCell ?_ (by first | omega | (simp; done) | (simp; omega)) _ | refine Below.alloc ?_ (by first | omega | (simp; done) | (simp; omega)) _ | refine Below.drew ?_ | refine below_drewN ?_ _))
set_option maxHeartbeats 400000 in
theorem rof_any (n : Int) (w : World) :
  Calls Tryz.prog 42 #[.int .i64 n] w fun e w' => e = .returned (.agg #[.int .i64 n, .int .i64 1]) ∧ Below w.heap.size w w' := by
 refine zc3 fun R hR => ?_
 have HR := Lib.hid hR
 clear hR
 go_enter Tryz.func42, Tryz.ntmps42
 go_wp2
 refine bodyPost_ret (v := .agg #[.int .i64 n, .int .i64 1]) (by simp [results, Tryz.results42, go_sem]) rfl (HR.out _ _ ⟨rfl, ?_⟩)
 (repeat (first | exact Below.refl _ _ | assumption | refine Below.setCell ?_ (by first | omega | (simp; done) | (simp; omega)) _ | refine Below.alloc ?_ (by first | omega | (simp; done) | (simp; omega)) _ | refine Below.drew ?_ | refine below_drewN ?_ _))
set_option maxHeartbeats 400000 in
theorem rneg_any (a : Fr) (w : World) (h : -1073741824 ≤ a.n ∧ a.n ≤ 1073741824) :
  Calls Tryz.prog 79 #[.agg #[.int .i64 (a).n, .int .i64 (a).d]] w fun e w' => e = .returned (.agg #[.int .i64 (fneg a).n, .int .i64 (fneg a).d]) ∧ Below w.heap.size w w' := by
 refine zc3 fun R hR => ?_
 have HR := Lib.hid hR
 clear hR
 go_enter Tryz.func79, Tryz.ntmps79
 go_wp2
 refine bodyPost_ret (v := .agg #[.int .i64 (fneg a).n, .int .i64 (fneg a).d]) (by simp [results, Tryz.results79, go_sem, fneg]) rfl (HR.out _ _ ⟨rfl, ?_⟩)
 (repeat (first | exact Below.refl _ _ | assumption | refine Below.setCell ?_ (by first | omega | (simp; done) | (simp; omega)) _ | refine Below.alloc ?_ (by first | omega | (simp; done) | (simp; omega)) _ | refine Below.drew ?_ | refine below_drewN ?_ _))
set_option maxHeartbeats 2000000 in
theorem radd_any (a b : Fr) (w : World) :
  Calls Tryz.prog 59 #[.agg #[.int .i64 (a).n, .int .i64 (a).d], .agg #[.int .i64 (b).n, .int .i64 (b).d]] w fun e w' =>
   e = .returned (.tuple #[.agg #[.int .i64 (addE a b).n, .int .i64 (addE a b).d], .int .i64 (addE a b).e]) ∧ Below w.heap.size w w' := by
 refine zc3 fun R hR => ?_
 have HR := Lib.hid hR
 clear hR
 go_enter Tryz.func59, Tryz.ntmps59
 go_wp2_with fail
 refine (rvalid_any a _).mono ?_
 rintro e w1 ⟨rfl, hb1⟩
 obtain ⟨p1, p2, p3, p4, p5⟩ := B2.after (g := w.heap.size) (x := .int .i64 a.n) (y := .int .i64 a.d) hb1 (by simp [B2, go_sem]) xl
 obtain ⟨q1, q2, q3, q4, q5⟩ := B2.after (g := w.heap.size + 1) (x := .int .i64 b.n) (y := .int .i64 b.d) hb1 (by simp [B2, go_sem]) xl
 obtain ⟨k1, k2, k3, k4, k5⟩ := B2.after (g := w.heap.size + 1 + 1) (x := .int .i64 0) (y := .int .i64 0) hb1 (by simp [B2, go_sem]) xl
 have HB : Hid (Below w.heap.size w w1) := Lib.hid (by refine Below.step ?_ hb1 (by first | omega | (simp; done) | (simp; omega)); (repeat (first | exact Below.refl _ _ | assumption | refine Below.setCell ?_ (by first | omega | (simp; done) | (simp; omega)) _ | refine Below.alloc ?_ (by first | omega | (simp; done) | (simp; omega)) _ | refine Below.drew ?_ | refine below_drewN ?_ _)))
 clear hb1
 cases hva : a.okB with
 | false =>
  have HV := Lib.hid hva
  clear hva
  go_wp2
  refine bodyPost_ret (v := .tuple #[.agg #[.int .i64 0, .int .i64 0], .int .i64 1]) (by simp [results, Tryz.results59, go_sem, k1, k2]) rfl (HR.out _ _ ⟨?_, ?_⟩)
  ·
   simp [addE, HV.out, FE.err]
  ·
   have := HB.out; (repeat (first | exact Below.refl _ _ | assumption | refine Below.setCell ?_ (by first | omega | (simp; done) | (simp; omega)) _ | refine Below.alloc ?_ (by first | omega | (simp; done) | (simp; omega)) _ | refine Below.drew ?_ | refine below_drewN ?_ _))
 | true =>
  go_wp2_with fail
  refine (rvalid_any b _).mono ?_
  rintro e w2 ⟨rfl, hb2⟩
  obtain ⟨p1', p2', p3', p4', p5'⟩ := B2.after hb2 (g := w.heap.size) ⟨p1, p2, p3, p4, p5⟩ xl
  obtain ⟨q1', q2', q3', q4', q5'⟩ := B2.after hb2 (g := w.heap.size + 1) ⟨q1, q2, q3, q4, q5⟩ xl
  obtain ⟨k1', k2', k3', k4', k5'⟩ := B2.after hb2 (g := w.heap.size + 1 + 1) ⟨k1, k2, k3, k4, k5⟩ xl
  have HB2 : Hid (Below w.heap.size w w2) := Lib.hid (Below.step HB.out hb2 xd)
  clear hb2 HB p1 p2 p3 p4 p5 q1 q2 q3 q4 q5 k1 k2 k3 k4 k5
  cases hvb : b.okB with
  | false =>
   have HV := Lib.hid hvb
   clear hvb
   go_wp2
   refine bodyPost_ret (v := .tuple #[.agg #[.int .i64 0, .int .i64 0], .int .i64 1]) (by simp [results, Tryz.results59, go_sem, k1', k2']) rfl (HR.out _ _ ⟨?_, ?_⟩)
   ·
    simp [addE, HV.out, FE.err]
   ·
    have := HB2.out; (repeat (first | exact Below.refl _ _ | assumption | refine Below.setCell ?_ (by first | omega | (simp; done) | (simp; omega)) _ | refine Below.alloc ?_ (by first | omega | (simp; done) | (simp; omega)) _ | refine Below.drew ?_ | refine below_drewN ?_ _))
  | true =>
   have HVA := Lib.hid hva
   have HVB := Lib.hid hvb
   have hoka := (Fr.okB_iff a).1 hva
   have hokb := (Fr.okB_iff b).1 hvb
   have ⟨a1, a2, a3, a4, _⟩ := hoka
   have ⟨b1, b2, b3, b4, _⟩ := hokb
   have bx := mul_bd a.n b.d a1 a2 xd xd
   have bY := mul_bd b.n a.d b1 b2 xd xd
   have bz := mul_bd a.d b.d xd a4 xd b4
   have bz2 : 0 < a.d * b.d := Int.mul_pos xd xd
   have HE : Hid (makeE (a.n * b.d + b.n * a.d) (a.d * b.d) = addE a b) := Lib.hid (by unfold makeE addE; rw [if_neg xd, HVA.out, HVB.out]; rfl)
   clear hva hvb hoka hokb
   go_wp2_with fail
   refine (make_any (a.n * b.d + b.n * a.d) (a.d * b.d) _ xd xd).mono ?_
   rintro e w4 ⟨rfl, hb4⟩
   obtain ⟨g1, g2, g3, g4, g5⟩ := B2.after (g := w.heap.size + 1 + 1) (x := .int .i64 0) (y := .int .i64 0) hb4 ⟨k1', k2', k3', k4', k5'⟩ xl
   have HB4 : Hid (Below w.heap.size w w4) := Lib.hid (Below.step HB2.out hb4 xd)
   clear hb4
   go_wp2
   refine bodyPost_ret (v := .tuple #[.agg #[.int .i64 (makeE (a.n * b.d + b.n * a.d) (a.d * b.d)).n, .int .i64 (makeE (a.n * b.d + b.n * a.d) (a.d * b.d)).d], .int .i64 (makeE (a.n * b.d + b.n * a.d) (a.d * b.d)).e]) (by simp [results, Tryz.results59, go_sem, g1, g2]) rfl (HR.out _ _ ⟨?_, ?_⟩)
   ·
    rw [HE.out]
   ·
    have := HB4.out; (repeat (first | exact Below.refl _ _ | assumption | refine Below.setCell ?_ (by first | omega | (simp; done) | (simp; omega)) _ | refine Below.alloc ?_ (by first | omega | (simp; done) | (simp; omega)) _ | refine Below.drew ?_ | refine below_drewN ?_ _))
set_option maxHeartbeats 2000000 in
theorem rmul_any (a b : Fr) (w : World) :
  Calls Tryz.prog 58 #[.agg #[.int .i64 (a).n, .int .i64 (a).d], .agg #[.int .i64 (b).n, .int .i64 (b).d]] w fun e w' =>
   e = .returned (.tuple #[.agg #[.int .i64 (mulE a b).n, .int .i64 (mulE a b).d], .int .i64 (mulE a b).e]) ∧ Below w.heap.size w w' := by
 refine zc3 fun R hR => ?_
 have HR := Lib.hid hR
 clear hR
 go_enter Tryz.func58, Tryz.ntmps58
 go_wp2_with fail
 refine (rvalid_any a _).mono ?_
 rintro e w1 ⟨rfl, hb1⟩
 obtain ⟨p1, p2, p3, p4, p5⟩ := B2.after (g := w.heap.size) (x := .int .i64 a.n) (y := .int .i64 a.d) hb1 (by simp [B2, go_sem]) xl
 obtain ⟨q1, q2, q3, q4, q5⟩ := B2.after (g := w.heap.size + 1) (x := .int .i64 b.n) (y := .int .i64 b.d) hb1 (by simp [B2, go_sem]) xl
 obtain ⟨k1, k2, k3, k4, k5⟩ := B2.after (g := w.heap.size + 1 + 1) (x := .int .i64 0) (y := .int .i64 0) hb1 (by simp [B2, go_sem]) xl
 have HB : Hid (Below w.heap.size w w1) := Lib.hid (by refine Below.step ?_ hb1 (by first | omega | (simp; done) | (simp; omega)); (repeat (first | exact Below.refl _ _ | assumption | refine Below.setCell ?_ (by first | omega | (simp; done) | (simp; omega)) _ | refine Below.alloc ?_ (by first | omega | (simp; done) | (simp; omega)) _ | refine Below.drew ?_ | refine below_drewN ?_ _)))
 clear hb1
 cases hva : a.okB with
 | false =>
  have HV := Lib.hid hva
  clear hva
  go_wp2
  refine bodyPost_ret (v := .tuple #[.agg #[.int .i64 0, .int .i64 0], .int .i64 1]) (by simp [results, Tryz.results58, go_sem, k1, k2]) rfl (HR.out _ _ ⟨?_, ?_⟩)
  ·
   simp [mulE, HV.out, FE.err]
  ·
   have := HB.out; (repeat (first | exact Below.refl _ _ | assumption | refine Below.setCell ?_ (by first | omega | (simp; done) | (simp; omega)) _ | refine Below.alloc ?_ (by first | omega | (simp; done) | (simp; omega)) _ | refine Below.drew ?_ | refine below_drewN ?_ _))
 | true =>
  go_wp2_with fail
  refine (rvalid_any b _).mono ?_
  rintro e w2 ⟨rfl, hb2⟩
  obtain ⟨p1', p2', p3', p4', p5'⟩ := B2.after hb2 (g := w.heap.size) ⟨p1, p2, p3, p4, p5⟩ xl
  obtain ⟨q1', q2', q3', q4', q5'⟩ := B2.after hb2 (g := w.heap.size + 1) ⟨q1, q2, q3, q4, q5⟩ xl
  obtain ⟨k1', k2', k3', k4', k5'⟩ := B2.after hb2 (g := w.heap.size + 1 + 1) ⟨k1, k2, k3, k4, k5⟩ xl
  have HB2 : Hid (Below w.heap.size w w2) := Lib.hid (Below.step HB.out hb2 xd)
  clear hb2 HB p1 p2 p3 p4 p5 q1 q2 q3 q4 q5 k1 k2 k3 k4 k5
  cases hvb : b.okB with
  | false =>
   have HV := Lib.hid hvb
   clear hvb
   go_wp2
   refine bodyPost_ret (v := .tuple #[.agg #[.int .i64 0, .int .i64 0], .int .i64 1]) (by simp [results, Tryz.results58, go_sem, k1', k2']) rfl (HR.out _ _ ⟨?_, ?_⟩)
   ·
    simp [mulE, HV.out, FE.err]
   ·
    have := HB2.out; (repeat (first | exact Below.refl _ _ | assumption | refine Below.setCell ?_ (by first | omega | (simp; done) | (simp; omega)) _ | refine Below.alloc ?_ (by first | omega | (simp; done) | (simp; omega)) _ | refine Below.drew ?_ | refine below_drewN ?_ _))
  | true =>
   have HVA := Lib.hid hva
   have HVB := Lib.hid hvb
   have hoka := (Fr.okB_iff a).1 hva
   have hokb := (Fr.okB_iff b).1 hvb
   have ⟨a1, a2, a3, a4, _⟩ := hoka
   have ⟨b1, b2, b3, b4, _⟩ := hokb
   have bx := mul_bd' a.n b.n a1 a2 b1 b2
   have bz := mul_bd a.d b.d xd a4 xd b4
   have bz2 : 0 < a.d * b.d := Int.mul_pos xd xd
   have HE : Hid (makeE (a.n * b.n) (a.d * b.d) = mulE a b) := Lib.hid (by unfold makeE mulE; rw [if_neg xd, HVA.out, HVB.out]; rfl)
   clear hva hvb hoka hokb
   go_wp2_with fail
   refine (make_any (a.n * b.n) (a.d * b.d) _ xd xd).mono ?_
   rintro e w4 ⟨rfl, hb4⟩
   obtain ⟨g1, g2, g3, g4, g5⟩ := B2.after (g := w.heap.size + 1 + 1) (x := .int .i64 0) (y := .int .i64 0) hb4 ⟨k1', k2', k3', k4', k5'⟩ xl
   have HB4 : Hid (Below w.heap.size w w4) := Lib.hid (Below.step HB2.out hb4 xd)
   clear hb4
   go_wp2
   refine bodyPost_ret (v := .tuple #[.agg #[.int .i64 (makeE (a.n * b.n) (a.d * b.d)).n, .int .i64 (makeE (a.n * b.n) (a.d * b.d)).d], .int .i64 (makeE (a.n * b.n) (a.d * b.d)).e]) (by simp [results, Tryz.results58, go_sem, g1, g2]) rfl (HR.out _ _ ⟨?_, ?_⟩)
   ·
    rw [HE.out]
   ·
    have := HB4.out; (repeat (first | exact Below.refl _ _ | assumption | refine Below.setCell ?_ (by first | omega | (simp; done) | (simp; omega)) _ | refine Below.alloc ?_ (by first | omega | (simp; done) | (simp; omega)) _ | refine Below.drew ?_ | refine below_drewN ?_ _))
set_option maxHeartbeats 400000 in
theorem rcmp_any (a b : Fr) (w : World) (ha : a.ok) (hb : b.ok) :
  Calls Tryz.prog 41 #[.agg #[.int .i64 (a).n, .int .i64 (a).d], .agg #[.int .i64 (b).n, .int .i64 (b).d]] w fun e w' => e = .returned (.int .i64 (cmpN a b)) ∧ Below w.heap.size w w' := by
 refine zc3 fun R hR => ?_
 have HR := Lib.hid hR
 clear hR
 have ⟨a1, a2, a3, a4, _⟩ := ha
 have ⟨b1, b2, b3, b4, _⟩ := hb
 have bx := mul_bd a.n b.d a1 a2 xd xd
 have bY := mul_bd b.n a.d b1 b2 xd xd
 have HC : Hid (cmpN a b = if a.n * b.d < b.n * a.d then -1 else if a.n * b.d > b.n * a.d then 1 else 0) := Lib.hid rfl
 obtain ⟨x, hx⟩ : ∃ x, a.n * b.d = x := ⟨_, rfl⟩
 obtain ⟨y, hy⟩ : ∃ y, b.n * a.d = y := ⟨_, rfl⟩
 rw [hx] at bx HC
 rw [hy] at bY HC
 clear ha hb
 rcases Int.lt_trichotomy x y with h | h | h
 ·
  have HCV : Hid (cmpN a b = -1) := Lib.hid (by rw [HC.out, if_pos h])
  go_enter Tryz.func41, Tryz.ntmps41
  go_wp2
  refine HR.out _ _ ⟨by rw [HCV.out]; rfl, ?_⟩
  (repeat (first | exact Below.refl _ _ | assumption | refine Below.setCell ?_ (by first | omega | (simp; done) | (simp; omega)) _ | refine Below.alloc ?_ (by first | omega | (simp; done) | (simp; omega)) _ | refine Below.drew ?_ | refine below_drewN ?_ _))
 ·
  have HCV : Hid (cmpN a b = 0) := Lib.hid (by rw [HC.out, if_neg xd, if_neg xd])
  subst h
  go_enter Tryz.func41, Tryz.ntmps41
  go_wp2
  refine HR.out _ _ ⟨by rw [HCV.out]; rfl, ?_⟩
  (repeat (first | exact Below.refl _ _ | assumption | refine Below.setCell ?_ (by first | omega | (simp; done) | (simp; omega)) _ | refine Below.alloc ?_ (by first | omega | (simp; done) | (simp; omega)) _ | refine Below.drew ?_ | refine below_drewN ?_ _))
 ·
  have HCV : Hid (cmpN a b = 1) := Lib.hid (by rw [HC.out, if_neg xd, if_pos h])
  go_enter Tryz.func41, Tryz.ntmps41
  go_wp2
  refine HR.out _ _ ⟨by rw [HCV.out]; rfl, ?_⟩
  (repeat (first | exact Below.refl _ _ | assumption | refine Below.setCell ?_ (by first | omega | (simp; done) | (simp; omega)) _ | refine Below.alloc ?_ (by first | omega | (simp; done) | (simp; omega)) _ | refine Below.drew ?_ | refine below_drewN ?_ _))
end Go.Proofs.YtllkbjcemecmjaaGreat
end
section
namespace Go.Proofs.YtllkbjcemecmjaaGreat.Aw
open Go.RowKit Go.Proofs
variable {P : Program} [IsP P]
theorem pure_prog {f : FuncId} {args : List AV} {r : AV} (h : Pure Tryz.prog f args r) : Pure P f args r := by rw [IsP.eq (P := P)]; exact h
theorem zds {α : Type} [Inhabited α] {l : List α} {k : Nat} (h : k < l.length) : gti l k ∈ l := List.mem_of_getElem? (zdh h)
instance : Inhabited Fr := ⟨⟨0, 0⟩⟩
def eF (a : Fr) : AV := .agg [eI a.n, eI a.d]
def eFE (x : FE) : AV := .tup [.agg [eI x.n, eI x.d], eI x.e]
theorem lo_F (a : Fr) : Lo 0 (eF a) := .agg _ (zah (.s _) (zah (.s _) zak))
theorem rep_F {G : Cx} {v : Value} {a : Fr} (h : Rep G v (eF a)) : v = .agg #[.int .i64 a.n, .int .i64 a.d] := by
 generalize hx : eF a = x at h
 cases h with
 | agg vs cs hl h1 hr =>
  unfold eF at hx
  injection hx with hx
  subst hx
  obtain ⟨q⟩ := vs
  match q, hl with
  | [u, w], _ =>
   have e1 := rep_s (hr 0 u _ rfl rfl)
   have e2 := rep_s (hr 1 w _ rfl rfl)
   rw [e1, e2]
 | _ => unfold eF at hx; cases hx
theorem rep_mkF (G : Cx) (n d : Int) : Rep G (.agg #[.int .i64 n, .int .i64 d]) (.agg [eI n, eI d]) :=
 .agg _ _ rfl (fun c hc => by simp at hc; rcases hc with rfl | rfl <;> rfl) (fun j v c hv hc => by
  match j, hv, hc with
  | 0, hv, hc => simp at hv hc; subst hv hc; exact .s _
  | 1, hv, hc => simp at hv hc; subst hv hc; exact .s _
  | j + 2, hv, hc => simp at hv)
theorem retFE_pure {f : FuncId} {args : List AV} {x : FE} (he : Ent f) (h : ∀ (G : Cx) (vargs : Array Value), vargs.size = args.length → (∀ (j : Nat) v x, vargs[j]? = some v → args[j]? = some x → Rep G v x) → Calls Tryz.prog f vargs G.w fun e w' => e = .returned (.tuple #[.agg #[.int .i64 (x).n, .int .i64 (x).d], .int .i64 (x).e]) ∧ Below G.w.heap.size G.w w') : Pure P f args (eFE x) :=
 pure_prog (pure_mk he (.tup _ (zah (.agg _ (zah (.s _) (zah (.s _) zak))) (zah (.s _) zak))) fun G vargs hst hsz hrep => (h G vargs hsz hrep).mono (by
  rintro e w' ⟨rfl, hb⟩
  refine ⟨_, rfl, hb, .tup _ _ rfl (fun j v c hv hc => ?_)⟩
  match j, hv, hc with
  | 0, hv, hc => simp at hv hc; subst hv hc; exact rep_mkF _ _ _
  | 1, hv, hc => simp at hv hc; subst hv hc; exact .s _
  | j + 2, hv, hc => simp at hv))
theorem args_FF {G : Cx} {vargs : Array Value} {a b : Fr} (hsz : vargs.size = [eF a, eF b].length) (hrep : ∀ (j : Nat) v x, vargs[j]? = some v → [eF a, eF b][j]? = some x → Rep G v x) : vargs = #[.agg #[.int .i64 (a).n, .int .i64 (a).d], .agg #[.int .i64 (b).n, .int .i64 (b).d]] := by
 obtain ⟨q⟩ := vargs
 match q, hsz with
 | [u, w], _ => rw [rep_F (hrep 0 u _ rfl rfl), rep_F (hrep 1 w _ rfl rfl)]
theorem args_F {G : Cx} {vargs : Array Value} {a : Fr} (hsz : vargs.size = [eF a].length) (hrep : ∀ (j : Nat) v x, vargs[j]? = some v → [eF a][j]? = some x → Rep G v x) : vargs = #[.agg #[.int .i64 (a).n, .int .i64 (a).d]] := by
 obtain ⟨q⟩ := vargs
 match q, hsz with
 | [u], _ => rw [rep_F (hrep 0 u _ rfl rfl)]
theorem ret_s_pure {f : FuncId} {args : List AV} {u : Value} (he : Ent f) (h : ∀ (G : Cx) (vargs : Array Value), vargs.size = args.length → (∀ (j : Nat) v x, vargs[j]? = some v → args[j]? = some x → Rep G v x) → Calls Tryz.prog f vargs G.w fun e w' => e = .returned u ∧ Below G.w.heap.size G.w w') : Pure P f args (.s u) :=
 pure_prog (pure_mk he (.s _) fun G vargs hst hsz hrep => (h G vargs hsz hrep).mono (by
  rintro e w' ⟨rfl, hb⟩
  exact ⟨_, rfl, hb, .s _⟩))
theorem retF_pure {f : FuncId} {args : List AV} {a : Fr} (he : Ent f) (h : ∀ (G : Cx) (vargs : Array Value), vargs.size = args.length → (∀ (j : Nat) v x, vargs[j]? = some v → args[j]? = some x → Rep G v x) → Calls Tryz.prog f vargs G.w fun e w' => e = .returned (.agg #[.int .i64 (a).n, .int .i64 (a).d]) ∧ Below G.w.heap.size G.w w') : Pure P f args (eF a) :=
 pure_prog (pure_mk he (lo_F a) fun G vargs hst hsz hrep => (h G vargs hsz hrep).mono (by
  rintro e w' ⟨rfl, hb⟩
  exact ⟨_, rfl, hb, rep_mkF _ _ _⟩))
theorem fAdd_pf (a b : Fr) : Pure P 77 [eF a, eF b] (eFE (addE a b)) :=
 retFE_pure (ent_of Tryz.func77 rfl rfl) fun G vargs hsz hrep => by rw [args_FF hsz hrep]; exact add_any a b G.w
theorem fSub_pf (a b : Fr) : Pure P 76 [eF a, eF b] (eFE (subE a b)) :=
 retFE_pure (ent_of Tryz.func76 rfl rfl) fun G vargs hsz hrep => by rw [args_FF hsz hrep]; exact sub_any a b G.w
theorem fMul_pf (a b : Fr) : Pure P 49 [eF a, eF b] (eFE (mulE a b)) :=
 retFE_pure (ent_of Tryz.func49 rfl rfl) fun G vargs hsz hrep => by rw [args_FF hsz hrep]; exact mul_any a b G.w
theorem fDiv_pf (a b : Fr) : Pure P 106 [eF a, eF b] (eFE (divE a b)) :=
 retFE_pure (ent_of Tryz.func106 rfl rfl) fun G vargs hsz hrep => by rw [args_FF hsz hrep]; exact div_any a b G.w
def cmpE (a b : Fr) : Int × Int := if a.okB && b.okB then (cmpN a b, 0) else (0, 1)
theorem fCmp_pf (a b : Fr) : Pure P 54 [eF a, eF b] (.tup [eI (cmpE a b).1, eI (cmpE a b).2]) :=
 pure_prog (pure_mk (ent_of Tryz.func54 rfl rfl) (.tup _ (zah (.s _) (zah (.s _) zak))) fun G vargs hst hsz hrep => by
  rw [args_FF hsz hrep]
  refine (cmp_any a b G.w).mono ?_
  rintro e w' ⟨rfl, hb⟩
  refine ⟨_, rfl, hb, .tup _ _ rfl (fun j v c hv hc => ?_)⟩
  match j, hv, hc with
  | 0, hv, hc => simp at hv hc; subst hv hc; unfold cmpE eI; cases a.okB <;> cases b.okB <;> exact .s _
  | 1, hv, hc => simp at hv hc; subst hv hc; unfold cmpE eI; cases a.okB <;> cases b.okB <;> exact .s _
  | j + 2, hv, hc => simp at hv)
theorem fValid_pf (a : Fr) : Pure P 52 [eF a] (eB a.okB) :=
 ret_s_pure (ent_of Tryz.func52 rfl rfl) fun G vargs hsz hrep => by rw [args_F hsz hrep]; exact fracValid_any a G.w
theorem rValid_pf (a : Fr) : Pure P 78 [eF a] (eB a.okB) :=
 ret_s_pure (ent_of Tryz.func78 rfl rfl) fun G vargs hsz hrep => by rw [args_F hsz hrep]; exact rvalid_any a G.w
theorem rOf_pf (n : Int) : Pure P 42 [eI n] (eF (Fr.of n)) :=
 retF_pure (ent_of Tryz.func42 rfl rfl) fun G vargs hsz hrep => by
  obtain ⟨q⟩ := vargs
  match q, hsz with
  | [u], _ => rw [rep_s (hrep 0 u _ rfl rfl)]; exact rof_any n G.w
theorem rNeg_pf (a : Fr) (h : -1073741824 ≤ a.n ∧ a.n ≤ 1073741824) : Pure P 79 [eF a] (eF (fneg a)) :=
 retF_pure (ent_of Tryz.func79 rfl rfl) fun G vargs hsz hrep => by rw [args_F hsz hrep]; exact rneg_any a G.w h
theorem rCmp_pf (a b : Fr) (ha : a.ok) (hb : b.ok) : Pure P 41 [eF a, eF b] (eI (cmpN a b)) :=
 ret_s_pure (ent_of Tryz.func41 rfl rfl) fun G vargs hsz hrep => by rw [args_FF hsz hrep]; exact rcmp_any a b G.w ha hb
theorem rAdd_pf (a b : Fr) : Pure P 59 [eF a, eF b] (eFE (addE a b)) :=
 retFE_pure (ent_of Tryz.func59 rfl rfl) fun G vargs hsz hrep => by rw [args_FF hsz hrep]; exact radd_any a b G.w
theorem rMul_pf (a b : Fr) : Pure P 58 [eF a, eF b] (eFE (mulE a b)) :=
 retFE_pure (ent_of Tryz.func58 rfl rfl) fun G vargs hsz hrep => by rw [args_FF hsz hrep]; exact rmul_any a b G.w
theorem indexFF_pf (f : FuncId) (caps : List AV) (p : Fr → Bool) (l : List Fr) (hlo : ∀ a : Fr, Lo 0 (eF a)) (hlc : Lo 0 (.fn f caps)) (hf : ∀ a ∈ l, Pure P f ([eF a] ++ caps) (eB (p a))) :
  Pure P 73 [eL eF l, .fn f caps] (eI (zc2 p l)) := by
 refine zcl (by rw [IsP.eq (P := P)]; exact Tryz.func73) rfl rfl rfl rfl rfl (zah (zan hlo) (zah hlc zak)) (.s _) (by simp only [argF]; rfl) ?_
 refine zda (d := 0) rfl (fun hmx => ?_)
 unfold maxLen at hmx
 refine zag (zab (zac rfl (zad (zag (zag (zab (zac rfl (zaf rfl rfl (zaa rfl) (zao rfl ts30 rfl) (zac rfl (zad (zai (zas ?_))))))))))))
 refine zb1 (S := Nat) (fun k => [(0, eL eF l), (1, .fn f caps), (7, eI l.length), (8, eI k)]) (fun _ => []) (fun k => k ≤ l.length ∧ ∀ j a, j < k → l[j]? = some a → p a = false) (fun k => l.length - k) 0 (wk_sub _ ⟨rfl, rfl, rfl, rfl, trivial⟩) ⟨by omega, fun j a hj => by omega⟩ (fun k hk => ?_)
 refine zag (zab (zaf rfl rfl (zaa rfl) (za2 rfl rfl rfl) (zad (zag ?_))))
 refine aw_if rfl (fun h => ?_) (fun h => ?_)
 ·
  have hlt : k < l.length := by omega
  refine zar (zag (zas (zag (zab (zac rfl (zac rfl (zad (zag ?_))))))))
  have hp := hf (gti l k) (zds hlt)
  refine zab (zac rfl (zac rfl (zac rfl (zaf rfl rfl (zaa rfl) (zal rfl ts30 ti45 rfl rfl rfl (zbb xd) rfl) (zcx ta45 ti45 rfl (zaf rfl rfl (zaa rfl) (zam rfl rfl (hp) (zae rfl zap)) (zad (zai ?_))))))))
  refine aw_cond rfl (fun h => ?_) (fun h => ?_)
  ·
   refine zag (zab (zac rfl (zac rfl (zad (zai ?_)))))
   (refine za7 ?_; repeat (first | refine zbc ?_ | refine zbe ?_))
   exact zb6 (.inr rfl) rfl (congrArg eI (firstAt_some (zdh hlt) h hk.2).symm)
  ·
   refine zar (zbl (zai (zab (zaf rfl rfl (zaa rfl) (zax rfl rfl rfl (IntWalk.i64_in _ xd)) (zac rfl (zad (zai ?_)))))))
   refine ⟨k + 1, ⟨by omega, fun j a hj ha => ?_⟩, by omega, wk_sub _ ⟨rfl, rfl, rfl, rfl, trivial⟩⟩
   by_cases e : j = k
   ·
    subst e
    rw [zdh hlt] at ha
    cases ha
    exact h
   ·
    exact hk.2 j a xd ha
 ·
  (refine zb9 ?_; repeat (first | refine zcr ?_ | refine zbt ?_ | refine zbk rfl ?_ | refine zbl ?_ | refine zai ?_ | refine zag ?_ | refine zar ?_ | refine zas ?_))
  refine zab (zac rfl (zad (zai ?_)))
  (refine za7 ?_; repeat (first | refine zbc ?_ | refine zbe ?_))
  exact zb6 (.inr rfl) rfl (congrArg eI (firstAt_none (fun j a hj ha => hk.2 j a xd ha)).symm)
theorem containsFF_pf (f : FuncId) (caps : List AV) (p : Fr → Bool) (l : List Fr) (hlo : ∀ a : Fr, Lo 0 (eF a)) (hlc : Lo 0 (.fn f caps)) (hf : ∀ a ∈ l, Pure P f ([eF a] ++ caps) (eB (p a))) :
  Pure P 50 [eL eF l, .fn f caps] (eB (l.any p)) := by
 refine zcl (by rw [IsP.eq (P := P)]; exact Tryz.func50) rfl rfl rfl rfl rfl (zah (zan hlo) (zah hlc zak)) (.s _) (by simp only [argF]; rfl) ?_
 have hi := indexFF_pf f caps p l hlo hlc hf
 refine zag (zab (zac rfl (zad (zag (zab (zac rfl (zac rfl (zaf rfl rfl (zaa rfl) (zam rfl rfl (hi) (zae rfl (zae rfl zap))) (zaf rfl rfl (zaa rfl) (zcp rfl rfl rfl) (zac rfl (zad (zai ?_))))))))))))
 (refine za7 ?_; repeat (first | refine zbc ?_ | refine zbe ?_))
 exact zb6 (.inr rfl) rfl (congrArg eB (firstAt_any p l))
end Go.Proofs.YtllkbjcemecmjaaGreat.Aw
end
section
namespace Go.Proofs.YtllkbjcemecmjaaGreat.Aw
open Go.RowKit
section
variable {P : Program} {N : Nat} {F : Frm} {σ : List Ob} {Q : Exit → Frm → List Ob → Prop} {ops : Array Oper} {o : Oper} {l : List Oper} {d : Nat}
theorem za3 {p : Prop} [Decidable p] (hd : o.dst = some d) (hN : Nat.blt d N = true) (hr : Runs ops F o true) (hD : Does P o F σ (.s (.bool (decide p))) σ) (k1 : p → AOps P N ops l ((d, .s (.bool true)) :: F) σ Q) (k2 : ¬ p → AOps P N ops l ((d, .s (.bool false)) :: F) σ Q) : AOps P N ops (o :: l) F σ Q := by
 by_cases h : p
 ·
  exact zaf hd hN hr (zdc h hD) (k1 h)
 ·
  exact zaf hd hN hr (dec_f h hD) (k2 h)
theorem zcn {b : Bool} (hd : o.dst = some d) (hN : Nat.blt d N = true) (hr : Runs ops F o true) (hD : Does P o F σ (.s (.bool b)) σ) (k1 : b = true → AOps P N ops l ((d, .s (.bool true)) :: F) σ Q) (k2 : b = false → AOps P N ops l ((d, .s (.bool false)) :: F) σ Q) : AOps P N ops (o :: l) F σ Q := by
 cases b with
 | true => exact zaf hd hN hr hD (k1 rfl)
 | false => exact zaf hd hN hr hD (k2 rfl)
theorem qx_opP {K : Frm → Prop} {p : Prop} [Decidable p] (hd : o.dst = some d) (hN : Nat.blt d N = true) (hr : Runs ops F o true) (hD : Does P o F σ (.s (.bool (decide p))) σ) (k1 : p → QX P N ops σ l ((d, .s (.bool true)) :: F) K) (k2 : ¬ p → QX P N ops σ l ((d, .s (.bool false)) :: F) K) : QX P N ops σ (o :: l) F K := by
 by_cases h : p
 ·
  exact zby hd hN hr (zdc h hD) (k1 h)
 ·
  exact zby hd hN hr (dec_f h hD) (k2 h)
theorem qx_opB {K : Frm → Prop} {b : Bool} (hd : o.dst = some d) (hN : Nat.blt d N = true) (hr : Runs ops F o true) (hD : Does P o F σ (.s (.bool b)) σ) (k1 : b = true → QX P N ops σ l ((d, .s (.bool true)) :: F) K) (k2 : b = false → QX P N ops σ l ((d, .s (.bool false)) :: F) K) : QX P N ops σ (o :: l) F K := by
 cases b with
 | true => exact zby hd hN hr hD (k1 rfl)
 | false => exact zby hd hN hr hD (k2 rfl)
end
end Go.Proofs.YtllkbjcemecmjaaGreat.Aw
end
section
namespace Go.Proofs.YtllkbjcemecmjaaGreat.Aw
open Go.RowKit Go.Proofs
variable {P : Program} [IsP P]
theorem lo_Fs (l : List Fr) : Lo 0 (eL eF l) := zan lo_F
theorem fine1_pf (a : Fr) : Pure P 101 [eF a] (eB (!a.okB)) := by
 refine zcl (by rw [IsP.eq (P := P)]; exact Tryz.func101) rfl rfl rfl rfl rfl xa (.s _) (by simp only [argF]; rfl) ?_
 refine zag (zab (zaf rfl rfl (zaa rfl) (zb3 rfl rfl rfl rfl) ?_))
 refine za6 (zbm (id := 0) rfl) (za6 (zcb (d := 1) rfl rfl rfl) ?_)
 refine zac rfl (zad (zag (zab (zcx ta45 ti45 rfl (zaf rfl rfl (zaa rfl) (zam rfl rfl (fValid_pf _) (zae rfl zap)) (zaf rfl rfl (zaa rfl) (does_notp rfl rfl) (zac rfl (zad (zai ?_)))))))))
 (refine za7 ?_; repeat (first | refine zbc ?_ | refine zbe ?_))
 exact zb6 (.inr rfl) rfl (congrArg eB (by simp [Fr.okB]))
def fineB (l : List Fr) (n : Int) : Bool := decide ((l.length : Int) = n) && l.all Fr.okB
theorem all_okB (l : List Fr) : l.all Fr.okB = !l.any (fun a => !a.okB) := by simp [List.all_eq_not_any_not]
theorem fine_pf (l : List Fr) (n : Int) : Pure P 84 [eL eF l, eI n] (eB (fineB l n)) := by
 have hc := containsFF_pf (P := P) 101 [] (fun a => !a.okB) l lo_F (.fn _ _ xo) (fun a _ => fine1_pf a)
 refine zcl (by rw [IsP.eq (P := P)]; exact Tryz.func84) rfl rfl rfl rfl rfl xa (.s _) (by simp only [argF]; rfl) ?_
 refine zag (zab (zac rfl (zad (zag (zab (zac rfl (zaf rfl rfl (zaa rfl) (zao rfl ts30 rfl) (zac rfl ?_))))))))
 refine za3 rfl rfl (zaa rfl) (zbn rfl rfl rfl) (fun h8 => ?_) (fun h8 => ?_)
 all_goals refine zac rfl ?_
 all_goals (first | refine zac rfl ?_ | refine za4 rfl ?_)
 all_goals (first | refine zcn rfl rfl (zat rfl rfl rfl) (zam rfl rfl (hc) (zae rfl (zae rfl zap))) (fun h11 => ?_) (fun h11 => ?_) | refine za4 rfl ?_)
 all_goals (first | refine zaf rfl rfl (zat rfl rfl rfl) (zbj rfl rfl) ?_ | refine za4 rfl ?_)
 all_goals refine zac rfl (zac rfl (zad (zai (za7 ?_))))
 all_goals exact zb6 (.inr rfl) rfl (congrArg eB (by simp_all [fineB]))
theorem rValidAll_pf (l : List Fr) : Pure P 55 [eL eF l] (eB (l.all Fr.okB)) := by
 refine zcl (by rw [IsP.eq (P := P)]; exact Tryz.func55) rfl rfl rfl rfl rfl xa (.s _) (by simp only [argF]; rfl) ?_
 refine zag ?_
 refine zda (d := 0) rfl (fun hmx => ?_)
 unfold maxLen at hmx
 refine zab (zac rfl (zad (zag (zag (zab (zac rfl (zad (zai (zas ?_)))))))))
 refine zb1 (S := Nat) (fun k => [(0, eL eF l), (3, eI k)]) (fun _ => []) (fun k => k ≤ l.length ∧ ∀ j, j < k → (gti l j).okB = true) (fun k => l.length - k) 0 (wk_sub _ ⟨rfl, rfl, trivial⟩) ⟨by omega, fun j hj => by omega⟩ (fun k hk => ?_)
 refine zag (zag (zab (zac rfl (zac rfl (zaf rfl rfl (zaa rfl) (zao rfl ts30 rfl) ?_)))))
 refine za3 rfl rfl (zaa rfl) (za2 rfl rfl rfl) (fun h7 => ?_) (fun h7 => ?_)
 all_goals refine zad (zai ?_)
 all_goals (first | refine za5 rfl ?_ | refine zau rfl ?_)
 all_goals (repeat (first | refine zag ?_ | refine zar ?_ | refine zas ?_))
 ·
  have hlt : k < l.length := by omega
  refine zab (zac rfl (zac rfl (zaf rfl rfl (zaa rfl) (zal rfl ts30 ti45 rfl rfl rfl (zbb xd) rfl) (zcx ta45 ti45 rfl ?_))))
  refine za3 rfl rfl (zaa rfl) (zam rfl rfl (rValid_pf _) (zae rfl zap)) (fun h14 => ?_) (fun h14 => ?_)
  all_goals refine zaf rfl rfl (zaa rfl) (zbj rfl rfl) (zad (zai ?_))
  all_goals (first | refine za5 rfl ?_ | refine zau rfl ?_)
  all_goals (repeat (first | refine zag ?_ | refine zai ?_ | refine zar ?_ | refine zbl ?_))
  ·
   refine zab (zac rfl (zaf rfl rfl (zaa rfl) (zax rfl rfl rfl (IntWalk.i64_in _ xd)) (zac rfl (zad (zai ?_)))))
   refine ⟨k + 1, ⟨by omega, fun j hj => ?_⟩, by omega, wk_sub _ ⟨rfl, rfl, trivial⟩⟩
   by_cases e : j = k
   ·
    subst e; exact Fr.okB_of h14
   ·
    exact hk.2 j xd
  ·
   refine zab (zac rfl (zad (zai ?_)))
   (refine za7 ?_; repeat (first | refine zbc ?_ | refine zbe ?_))
   refine zb6 (.inr rfl) rfl (congrArg eB ?_)
   symm
   rw [List.all_eq_false]
   exact ⟨gti l k, zds hlt, by rw [Fr.okB_not h14]; simp⟩
 ·
  (refine zb9 ?_; repeat (first | refine zcr ?_ | refine zbt ?_ | refine zbk rfl ?_ | refine zbl ?_ | refine zai ?_ | refine zag ?_ | refine zar ?_ | refine zas ?_))
  refine zab (zac rfl (zad (zai ?_)))
  (refine za7 ?_; repeat (first | refine zbc ?_ | refine zbe ?_))
  refine zb6 (.inr rfl) rfl (congrArg eB ?_)
  symm
  rw [List.all_eq_true]
  intro a ha
  obtain ⟨j, hj, rfl⟩ := List.mem_iff_getElem.1 ha
  have h1 := hk.2 j xd
  have h2 := zdh hj
  rw [List.getElem?_eq_getElem hj] at h2
  rw [Option.some.inj h2]; exact h1
structure LP where
 c : List Fr
 a : List (List Fr)
 rel : List Int
 b : List Fr
def eP (p : LP) : AV := .agg [eL eF p.c, eL (eL eF) p.a, eL eI p.rel, eL eF p.b]
def relB (r : Int) : Bool := decide (r = 1 ∨ r = 2 ∨ r = 3)
def rowB (p : LP) (k : Nat) : Bool := fineB (gti p.a k) p.c.length && relB (gti p.rel k)
def headB (p : LP) : Bool := decide (1 ≤ p.c.length) && decide (p.c.length ≤ 12) && decide (1 ≤ p.a.length) && decide (p.a.length ≤ 12) && decide (p.rel.length = p.a.length) && fineB p.c p.c.length && fineB p.b p.a.length
def validP (p : LP) : Bool := headB p && (List.range p.a.length).all (rowB p)
theorem validP_t {p : LP} (h : headB p = true) (h2 : ∀ j, j < p.a.length → rowB p j = true) : validP p = true := by
 unfold validP
 rw [h, Bool.true_and, List.all_eq_true]
 intro j hj
 exact h2 j (by simpa using hj)
theorem validP_f {p : LP} {k : Nat} (hk : k < p.a.length) (h : rowB p k = false) : validP p = false := by
 unfold validP
 rw [Bool.and_eq_false_iff]
 right
 rw [List.all_eq_false]
 exact ⟨k, by simpa using hk, by rw [h]; simp⟩
theorem validP_h {p : LP} (h : headB p = false) : validP p = false := by unfold validP; rw [h]; rfl
theorem headB_iff {p : LP} : headB p = true ↔ 1 ≤ p.c.length ∧ p.c.length ≤ 12 ∧ 1 ≤ p.a.length ∧ p.a.length ≤ 12 ∧ p.rel.length = p.a.length ∧ p.c.all Fr.okB = true ∧ p.b.length = p.a.length ∧ p.b.all Fr.okB = true := by
 simp only [headB, fineB, Bool.and_eq_true, decide_eq_true_eq]
 constructor
 ·
  rintro ⟨⟨⟨⟨⟨⟨h1, h2⟩, h3⟩, h4⟩, h5⟩, ⟨_, h6⟩⟩, ⟨h7, h8⟩⟩
  exact ⟨h1, h2, h3, h4, h5, h6, by omega, h8⟩
 ·
  rintro ⟨h1, h2, h3, h4, h5, h6, h7, h8⟩
  exact ⟨⟨⟨⟨⟨⟨h1, h2⟩, h3⟩, h4⟩, h5⟩, ⟨trivial, h6⟩⟩, ⟨by omega, h8⟩⟩
theorem fineB_iff {l : List Fr} {n : Int} : fineB l n = true ↔ (l.length : Int) = n ∧ l.all Fr.okB = true := by simp only [fineB, Bool.and_eq_true, decide_eq_true_eq]
theorem fineB_f {l : List Fr} {n : Int} (h : fineB l n = false) : ¬ ((l.length : Int) = n ∧ l.all Fr.okB = true) := by rw [← fineB_iff, h]; simp
theorem headB_f {p : LP} (h : ¬ (1 ≤ p.c.length ∧ p.c.length ≤ 12 ∧ 1 ≤ p.a.length ∧ p.a.length ≤ 12 ∧ p.rel.length = p.a.length ∧ p.c.all Fr.okB = true ∧ p.b.length = p.a.length ∧ p.b.all Fr.okB = true)) : headB p = false := by
 rw [← headB_iff] at h; simpa using h
set_option maxHeartbeats 1000000 in
theorem sValid_pf (p : LP) : Pure P 67 [eP p] (eB (validP p)) := by
 refine zcl (by rw [IsP.eq (P := P)]; exact Tryz.func67) rfl rfl rfl rfl rfl xa (.s _) (by simp only [argF]; rfl) ?_
 refine zag (zab (zaf rfl rfl (zaa rfl) (zb3 rfl rfl rfl rfl) ?_))
 refine za6 (zbm (id := 0) rfl) (za6 (zcb (d := 1) rfl rfl rfl) ?_)
 refine zac rfl (zad (zag ?_))
 refine zb2 hmix ?_
 refine zbx xi ?_
 refine qx_f tf88_0 rfl (qx_l ta30 rfl (zby rfl rfl (zaa rfl) (zao rfl ts30 rfl) (qx_f tf88_1 rfl (qx_l ta86 rfl (zby rfl rfl (zaa rfl) (zao rfl ts86 rfl) (qx_s rfl (qx_s rfl ?_)))))))
 refine zdg ?_
 refine zag (zag (zab (zac rfl ?_)))
 refine za3 rfl rfl (zaa rfl) (za2 rfl rfl rfl) (fun h14 => ?_) (fun h14 => ?_)
 all_goals refine zac rfl ?_
 all_goals (first | refine zac rfl ?_ | refine za4 rfl ?_)
 all_goals (first | refine za3 rfl rfl (zat rfl rfl rfl) (zb0 rfl rfl rfl) (fun h17 => ?_) (fun h17 => ?_) | refine za4 rfl ?_)
 all_goals refine zac rfl (zac rfl ?_)
 all_goals (first | refine zac rfl ?_ | refine za4 rfl ?_)
 all_goals (first | refine za3 rfl rfl (zat rfl rfl rfl) (za2 rfl rfl rfl) (fun h21 => ?_) (fun h21 => ?_) | refine za4 rfl ?_)
 all_goals refine zac rfl (zac rfl ?_)
 all_goals (first | refine zac rfl ?_ | refine za4 rfl ?_)
 all_goals (first | refine za3 rfl rfl (zat rfl rfl rfl) (zb0 rfl rfl rfl) (fun h25 => ?_) (fun h25 => ?_) | refine za4 rfl ?_)
 all_goals refine zac rfl (zac rfl ?_)
 all_goals (first | refine zbz tf88_2 rfl ?_ | refine za4 rfl ?_)
 all_goals (first | refine zbu ta22 rfl ?_ | refine za4 rfl ?_)
 all_goals (first | refine zaf rfl rfl (zat rfl rfl rfl) (zao rfl ts22 rfl) ?_ | refine za4 rfl ?_)
 all_goals (first | refine zac rfl ?_ | refine za4 rfl ?_)
 all_goals (first | refine za3 rfl rfl (zat rfl rfl rfl) (zbp rfl rfl rfl) (fun h32 => ?_) (fun h32 => ?_) | refine za4 rfl ?_)
 all_goals refine zac rfl (zac rfl ?_)
 all_goals (first | refine zbz tf88_0 rfl ?_ | refine za4 rfl ?_)
 all_goals (first | refine zbu ta30 rfl ?_ | refine za4 rfl ?_)
 all_goals (first | refine zac rfl ?_ | refine za4 rfl ?_)
 all_goals (first | refine zcn rfl rfl (zat rfl rfl rfl) (zam rfl rfl (fine_pf _ _) (zae rfl (zae rfl zap))) (fun h38 => ?_) (fun h38 => ?_) | refine za4 rfl ?_)
 all_goals (first | refine zaf rfl rfl (zat rfl rfl rfl) (zbj rfl rfl) ?_ | refine za4 rfl ?_)
 all_goals refine zac rfl (zac rfl ?_)
 all_goals (first | refine zbz tf88_3 rfl ?_ | refine za4 rfl ?_)
 all_goals (first | refine zbu ta30 rfl ?_ | refine za4 rfl ?_)
 all_goals (first | refine zac rfl ?_ | refine za4 rfl ?_)
 all_goals (first | refine zcn rfl rfl (zat rfl rfl rfl) (zam rfl rfl (fine_pf _ _) (zae rfl (zae rfl zap))) (fun h45 => ?_) (fun h45 => ?_) | refine za4 rfl ?_)
 all_goals (first | refine zaf rfl rfl (zat rfl rfl rfl) (zbj rfl rfl) ?_ | refine za4 rfl ?_)
 all_goals refine zac rfl (zad (zai ?_))
 all_goals (first | refine za5 rfl ?_ | refine zau rfl ?_)
 all_goals (repeat (first | refine zag ?_ | refine zar ?_))
 rotate_left 5
 ·
  have hh : headB p = true := headB_iff.2 ⟨by omega, by omega, by omega, by omega, by omega, (fineB_iff.1 h38).2, by have := (fineB_iff.1 h45).1; omega, (fineB_iff.1 h45).2⟩
  obtain ⟨q1, q2, q3, q4, q5, q6, q7, q8⟩ := headB_iff.1 hh
  refine zab (zbz tf88_1 rfl (zbu ta86 rfl (zaf rfl rfl (zaa rfl) (zao rfl ts86 rfl) (zac rfl (zad (zai (zas ?_)))))))
  refine zb1 (S := Nat) (fun k => [(1, .ref (eP p).cells), (3, eI p.c.length), (4, eI p.a.length), (49, eL (eL eF) p.a), (50, eI p.a.length), (51, eI k)]) (fun _ => []) (fun k => k ≤ p.a.length ∧ ∀ j, j < k → rowB p j = true) (fun k => p.a.length - k) 0 (zb8 [] xf trivial ⟨.lo _ xc, .lo _ (.s _), .lo _ (.s _), .lo _ xa, .lo _ (.s _), .lo _ (.s _), trivial⟩) ⟨by omega, fun j hj => by omega⟩ (fun k hk => ?_)
  refine zag (zab ?_)
  refine za3 rfl rfl (zaa rfl) (za2 rfl rfl rfl) (fun h52 => ?_) (fun h52 => ?_)
  all_goals refine zad (zag ?_)
  all_goals (first | refine za5 rfl ?_ | refine zau rfl ?_)
  all_goals (repeat (first | refine zag ?_ | refine zar ?_ | refine zas ?_))
  ·
   have hlt : k < p.a.length := by omega
   refine zab (zac rfl (zaf rfl rfl (zaa rfl) (zal rfl ts86 ti30 rfl rfl rfl (zbb xd) rfl) (zbu ta30 rfl (zac rfl (zac rfl (zad (zag (zab (zac rfl (zac rfl ?_))))))))))
   refine zcn rfl rfl (zaa rfl) (zam rfl rfl (fine_pf _ _) (zae rfl (zae rfl zap))) (fun h58 => ?_) (fun h58 => ?_)
   all_goals refine zaf rfl rfl (zaa rfl) (zbj rfl rfl) (zac rfl ?_)
   all_goals (first | refine zbz tf88_2 rfl ?_ | refine za4 rfl ?_)
   all_goals (first | refine zbu ta22 rfl ?_ | refine za4 rfl ?_)
   all_goals (first | refine zac rfl ?_ | refine za4 rfl ?_)
   all_goals (first | refine zaf rfl rfl (zat rfl rfl rfl) (zal rfl ts22 ti3 rfl rfl rfl (zbb (by omega)) rfl) ?_ | refine za4 rfl ?_)
   all_goals (first | refine zbu ta3 rfl ?_ | refine za4 rfl ?_)
   all_goals (first | refine za3 rfl rfl (zat rfl rfl rfl) (zbp rfl rfl rfl) (fun h66 => ?_) (fun h66 => ?_) | refine za4 rfl ?_)
   all_goals (first | refine zac rfl ?_ | refine za4 rfl ?_)
   all_goals (first | refine zbz tf88_2 rfl ?_ | refine za4 rfl ?_ | refine zcj rfl rfl (zbi rfl rfl rfl) ?_)
   all_goals (first | refine zbu ta22 rfl ?_ | refine za4 rfl ?_ | refine zcj rfl rfl (zbi rfl rfl rfl) ?_)
   all_goals (first | refine zac rfl ?_ | refine za4 rfl ?_ | refine zcj rfl rfl (zbi rfl rfl rfl) ?_)
   all_goals (first | refine zaf rfl rfl (zat rfl rfl rfl) (zal rfl ts22 ti3 rfl rfl rfl (zbb (by omega)) rfl) ?_ | refine za4 rfl ?_ | refine zcj rfl rfl (zbi rfl rfl rfl) ?_)
   all_goals (first | refine zbu ta3 rfl ?_ | refine za4 rfl ?_ | refine zcj rfl rfl (zbi rfl rfl rfl) ?_)
   all_goals (first | refine za3 rfl rfl (zat rfl rfl rfl) (zbp rfl rfl rfl) (fun h73 => ?_) (fun h73 => ?_) | refine za4 rfl ?_ | refine zcj rfl rfl (zbi rfl rfl rfl) ?_)
   all_goals (first | refine zac rfl ?_ | refine za4 rfl ?_)
   all_goals (first | refine zac rfl ?_ | refine za4 rfl ?_)
   all_goals (first | refine zbz tf88_2 rfl ?_ | refine za4 rfl ?_ | refine zcj rfl rfl (zbi rfl rfl rfl) ?_)
   all_goals (first | refine zbu ta22 rfl ?_ | refine za4 rfl ?_ | refine zcj rfl rfl (zbi rfl rfl rfl) ?_)
   all_goals (first | refine zac rfl ?_ | refine za4 rfl ?_ | refine zcj rfl rfl (zbi rfl rfl rfl) ?_)
   all_goals (first | refine zaf rfl rfl (zat rfl rfl rfl) (zal rfl ts22 ti3 rfl rfl rfl (zbb (by omega)) rfl) ?_ | refine za4 rfl ?_ | refine zcj rfl rfl (zbi rfl rfl rfl) ?_)
   all_goals (first | refine zbu ta3 rfl ?_ | refine za4 rfl ?_ | refine zcj rfl rfl (zbi rfl rfl rfl) ?_)
   all_goals (first | refine za3 rfl rfl (zat rfl rfl rfl) (zbp rfl rfl rfl) (fun h81 => ?_) (fun h81 => ?_) | refine za4 rfl ?_ | refine zcj rfl rfl (zbi rfl rfl rfl) ?_)
   all_goals (first | refine zac rfl ?_ | refine za4 rfl ?_)
   all_goals refine zac rfl (zad (zai ?_))
   all_goals (first | refine za5 rfl ?_ | refine zau rfl ?_)
   all_goals (repeat (first | refine zag ?_ | refine zai ?_ | refine zar ?_ | refine zbl ?_))
   all_goals first
    |
     refine zab (zac rfl (zad (zai ?_)))
     (refine za7 ?_; repeat (first | refine zbc ?_ | refine zbe ?_))
     exact zb6 (.inr rfl) rfl (congrArg eB (validP_f hlt (by simp_all [rowB, relB])).symm)
    |
     refine zab (zaf rfl rfl (zaa rfl) (zax rfl rfl rfl (IntWalk.i64_in _ xd)) (zac rfl (zad (zai ?_))))
     have hrow : rowB p k = true := by unfold rowB relB; rw [h58, Bool.true_and, decide_eq_true_eq]; omega
     refine ⟨k + 1, ⟨by omega, fun j hj => ?_⟩, by omega, wk_sub _ ⟨rfl, rfl, rfl, rfl, rfl, rfl, trivial⟩⟩
     by_cases e : j = k
     ·
      subst e; exact hrow
     ·
      exact hk.2 j xd
  ·
   (refine zb9 ?_; repeat (first | refine zcr ?_ | refine zbt ?_ | refine zbk rfl ?_ | refine zbl ?_ | refine zai ?_ | refine zag ?_ | refine zar ?_ | refine zas ?_))
   refine zab (zac rfl (zad (zai ?_)))
   (refine za7 ?_; repeat (first | refine zbc ?_ | refine zbe ?_))
   exact zb6 (.inr rfl) rfl (congrArg eB (validP_t hh (fun j hj => hk.2 j xd)).symm)
 all_goals refine zab (zac rfl (zad (zai (za7 (zbc ?_)))))
 all_goals refine zb6 (.inr rfl) rfl (congrArg eB (validP_h (headB_f ?_)).symm)
 all_goals rintro ⟨q1, q2, q3, q4, q5, q6, q7, q8⟩
 all_goals (first | omega | exact fineB_f h38 ⟨rfl, q6⟩ | exact fineB_f h45 ⟨by omega, q8⟩)
end Go.Proofs.YtllkbjcemecmjaaGreat.Aw
end
section
namespace Go.Proofs.YtllkbjcemecmjaaGreat.Aw
open Go.RowKit
def liftE (N : Nat) (G : Cx) (Q : Exit → Frm → List Ob → Prop) : Exit → Act → World → Prop :=
 fun e a' w' => ∃ G' F' σ', G'.w = w' ∧ G.Ext G' ∧ S8 N G' a' F' σ' ∧ Q e F' σ'
theorem liftE_mono {N : Nat} {G G1 : Cx} (h : G.Ext G1) {Q Q' : Exit → Frm → List Ob → Prop} (hq : ∀ e F σ, Q e F σ → Q' e F σ) {e : Exit} {a : Act} {w : World} (x : liftE N G1 Q e a w) : liftE N G Q' e a w := by
 obtain ⟨G', F', σ', h1, h2, h3, h4⟩ := x
 exact ⟨G', F', σ', h1, h.trans h2, h3, hq _ _ _ h4⟩
def EWp (P : Program) (N : Nat) (c : Code) (F : Frm) (σ : List Ob) (Q : Exit → Frm → List Ob → Prop) : Prop :=
 ∀ G a, S8 N G a F σ → c.wp P (liftE N G Q) a G.w
def EOps (P : Program) (N : Nat) (ops : Array Oper) (l : List Oper) (F : Frm) (σ : List Ob) (Q : Exit → Frm → List Ob → Prop) : Prop :=
 ∀ G a, S8 N G a F σ → wpList P ops (liftE N G Q) l a G.w
section
variable {P : Program} {N : Nat} {F : Frm} {σ : List Ob} {Q : Exit → Frm → List Ob → Prop}
theorem ew_seq {x y : Code} (h : EWp P N x F σ (AThen (fun F σ => EWp P N y F σ Q) Q)) : EWp P N (.seq x y) F σ Q := fun G a hs => by
 refine wp_seq (Code.wp_mono (fun e a1 w1 q => ?_) (h G a hs))
 obtain ⟨G', F', σ', rfl, h2, h3, h4⟩ := q
 cases e with
 | normal => exact Code.wp_mono (fun e a w q => liftE_mono h2 (fun _ _ _ x => x) q) (h4 G' a1 h3)
 | _ => exact ⟨G', F', σ', rfl, h2, h3, h4⟩
theorem ew_skip (h : Q .normal F σ) : EWp P N .skip F σ Q := fun G a hs => wp_skip ⟨G, F, σ, rfl, .refl G, hs, h⟩
theorem ew_ret (h : Q .ret F σ) : EWp P N .ret F σ Q := fun G a hs => wp_ret ⟨G, F, σ, rfl, .refl G, hs, h⟩
theorem ew_cond {c : Operand} {x y : Code} {b : Bool} (hc : F.eval c = .s (.bool b)) (ht : b = true → EWp P N x F σ Q) (hf : b = false → EWp P N y F σ Q) : EWp P N (.cond c x y) F σ Q := fun G a hs =>
 wp_cond_split (rep_bool hs.fr hc) (fun e => ht e G a hs) (fun e => hf e G a hs)
theorem ew_if {c : Operand} {x y : Code} {p : Prop} [Decidable p] (hc : F.eval c = .s (.bool (decide p))) (ht : p → EWp P N x F σ Q) (hf : ¬ p → EWp P N y F σ Q) : EWp P N (.cond c x y) F σ Q :=
 ew_cond hc (fun e => ht (of_decide_eq_true e)) (fun e => hf (of_decide_eq_false e))
theorem ew_false {c : Operand} {x y : Code} (hc : F.eval c = .s (.bool false)) (ht : EWp P N y F σ Q) : EWp P N (.cond c x y) F σ Q := ew_cond hc (fun e => by cases e) (fun _ => ht)
theorem ew_region {id : Nat} {l : List Oper} (h : EOps P N l.toArray l F σ Q) : EWp P N (.region id l.toArray false) F σ Q := fun G a hs => wp_region_lit (h G a hs)
end
section
variable {P : Program} {N : Nat} {F : Frm} {σ σ' : List Ob} {Q : Exit → Frm → List Ob → Prop} {ops : Array Oper} {o : Oper} {l : List Oper} {x : AV}
theorem zdj (h : Q .normal F σ) : EOps P N ops [] F σ Q := fun G a hs => ⟨G, F, σ, rfl, .refl G, hs, h⟩
theorem eops_op {d : Nat} (hd : o.dst = some d) (hN : Nat.blt d N = true) (hr : Runs ops F o true) (hD : Does P o F σ x σ') (k : EOps P N ops l ((d, x) :: F) σ' Q) : EOps P N ops (o :: l) F σ Q := fun G a hs => by
 unfold wpList
 rw [if_pos (hr.wanted hs.fr)]
 left
 refine hD G a _ _ hs.rel (fun y _ => zc4 hs.fr y) (fun v G' e r hv => ?_)
 rw [hd]
 exact zcm (fun e' a w q => liftE_mono e (fun _ _ _ x => x) q) _ _ _ (k G' _ ((hs.step e r).put (by simpa [Nat.blt_eq] using hN) hv))
theorem eops_eff (hd : o.dst = none) (hr : Runs ops F o true) (hD : Does P o F σ x σ') (k : EOps P N ops l F σ' Q) : EOps P N ops (o :: l) F σ Q := fun G a hs => by
 unfold wpList
 rw [if_pos (hr.wanted hs.fr)]
 left
 refine hD G a _ _ hs.rel (fun y _ => zc4 hs.fr y) (fun v G' e r hv => ?_)
 rw [hd]
 exact zcm (fun e' a w q => liftE_mono e (fun _ _ _ x => x) q) _ _ _ (k G' _ (hs.step e r))
end
end Go.Proofs.YtllkbjcemecmjaaGreat.Aw
end
section
namespace Go.Proofs.YtllkbjcemecmjaaGreat.Aw
open Go.RowKit
inductive Kd where
 | free
 | look (R : List Nat)
 | eff (W : List Nat)
def meets : List Nat → List Nat → Bool
 | [], _ => false
 | r :: R, W => W.any (fun w => Nat.beq r w) || meets R W
theorem meets_of {R W : List Nat} (h : meets R W = false) : ∀ r ∈ R, r ∉ W := by
 induction R with
 | nil => simp
 | cons a R ih =>
  simp only [meets, Bool.or_eq_false_iff] at h
  intro r hr hw
  rcases List.mem_cons.1 hr with rfl | hr
  ·
   have h2 := List.any_eq_false.1 h.1 r hw
   simp at h2
  ·
   exact ih h.2 r hr hw
def kdClash : Kd → Kd → Bool
 | .look R, .eff W => meets R W
 | .eff W, .look R => meets R W
 | .eff _, .eff _ => true
 | _, _ => false
def kPairs : Nat → List (Nat × Kd) → List Kd → List Nat → Bool
 | j, prev, k :: ks, m :: ms => (prev.all fun p => !(kdClash p.2 k) || m.testBit p.1) && kPairs (j + 1) (match k with | .free => prev | _ => (j, k) :: prev) ks ms
 | _, _, [], _ => true
 | _, _, _ :: _, [] => false
theorem kPairs_of : ∀ (ks : List Kd) (ms : List Nat) (j0 : Nat) (prev : List (Nat × Kd)), kPairs j0 prev ks ms = true →
  (∀ (j : Nat) b, ks[j]? = some b → ∀ p ∈ prev, kdClash p.2 b = true → (ms.getD j 0).testBit p.1 = true) ∧
  ∀ (i j : Nat) a b, i < j → ks[i]? = some a → ks[j]? = some b → kdClash a b = true → (ms.getD j 0).testBit (j0 + i) = true
 | [], ms, j0, prev, h => ⟨by simp, by simp⟩
 | k :: ks, [], j0, prev, h => by simp [kPairs] at h
 | k :: ks, m :: ms, j0, prev, h => by
  simp only [kPairs, Bool.and_eq_true] at h
  obtain ⟨h1, h2⟩ := h
  obtain ⟨h3, h4⟩ := kPairs_of ks ms (j0 + 1) _ h2
  refine ⟨fun j b hb p hp hc => ?_, fun i j a b hij ha hb hc => ?_⟩
  ·
   cases j with
   | zero =>
    simp at hb
    subst hb
    have := List.all_eq_true.1 h1 p hp
    simpa [hc] using this
   | succ j =>
    have := h3 j b (by simpa using hb) p (by cases k <;> first | exact hp | exact List.mem_cons_of_mem _ hp) hc
    simpa using this
  ·
   cases j with
   | zero => omega
   | succ j =>
    cases i with
    | zero =>
     simp at ha
     subst ha
     have := h3 j b (by simpa using hb) (j0, k) (by cases k <;> first | (cases b <;> simp [kdClash] at hc; done) | simp) hc
     simpa using this
    | succ i =>
     have := h4 i j a b xd (by simpa using ha) (by simpa using hb) hc
     rw [show j0 + (i + 1) = j0 + 1 + i by omega]
     simpa using this
def sOk (l : List Oper) (N : Nat) : Bool := qOk l && l.all fun o => (o.looksAt l.toArray).all fun t => Nat.blt t N
def eOk (l : List Oper) (N : Nat) (ks : List Kd) : Bool := sOk l N && kPairs 0 [] ks (masks l [])
theorem kdClash_symm (a b : Kd) : kdClash a b = kdClash b a := by cases a <;> cases b <;> rfl
def ent (N : Nat) (o : Oper) (x : AV) : Nat × AV := match o.dst with
 | some d => (d, x)
 | none => (N, .any)
def dOk (N : Nat) (o : Oper) : Bool := match o.dst with
 | some d => Nat.blt d N
 | none => true
theorem zc0 {N : Nat} {o : Oper} {x : AV} {d : Nat} (h : o.dst = some d) : ent N o x = (d, x) := by unfold ent; rw [h]
theorem ent_none {N : Nat} {o : Oper} {x : AV} (h : o.dst = none) : ent N o x = (N, .any) := by unfold ent; rw [h]
theorem ent_at {N : Nat} {o : Oper} {x : AV} {t : Nat} (h : (ent N o x).1 = t) (ht : t < N) : o.dst = some t := by
 cases hd : o.dst with
 | none => rw [ent_none hd] at h; have h : N = t := h; exact absurd ht (by rw [h]; exact Nat.lt_irrefl _)
 | some d => rw [zc0 hd] at h; have h : d = t := h; rw [h]
theorem ent_top {N : Nat} {o : Oper} {x : AV} (h : (ent N o x).1 = N) (hk : dOk N o = true) : (ent N o x).2 = .any := by
 cases hd : o.dst with
 | none => rw [ent_none hd]
 | some d =>
  rw [zc0 hd] at h
  have h : d = N := h
  unfold dOk at hk
  rw [hd] at hk
  simp [h] at hk
theorem dOk_lt {N : Nat} {o : Oper} {d : Nat} (h : dOk N o = true) (hd : o.dst = some d) : d < N := by unfold dOk at h; rw [hd] at h; simpa [Nat.blt_eq] using h
inductive ESteps (P : Program) (N : Nat) (ops : Array Oper) : List Oper → Frm → List Ob → Frm → List Ob → List (Nat × AV) → List Kd → List (List Ob) → Prop
 | nil (F : Frm) (σ : List Ob) : ESteps P N ops [] F σ F σ [] [] []
 | free (o : Oper) (l : List Oper) (F F' : Frm) (σ σ' : List Ob) (x : AV) (out : List (Nat × AV)) (ks : List Kd) (sts : List (List Ob)) (hd : dOk N o = true) (hr : Runs ops F o true) (hD : ∀ σ, Does P o F σ x σ) (h : ESteps P N ops l (ent N o x :: F) σ F' σ' out ks sts) : ESteps P N ops (o :: l) F σ F' σ' (ent N o x :: out) (.free :: ks) (σ :: sts)
 | skip (o : Oper) (l : List Oper) (F F' : Frm) (σ σ' : List Ob) (out : List (Nat × AV)) (ks : List Kd) (sts : List (List Ob)) (hd : dOk N o = true) (hr : Runs ops F o false) (h : ESteps P N ops l (ent N o (.s undef) :: F) σ F' σ' out ks sts) : ESteps P N ops (o :: l) F σ F' σ' (ent N o (.s undef) :: out) (.free :: ks) (σ :: sts)
 | look (o : Oper) (l : List Oper) (F F' : Frm) (σ σ' : List Ob) (x : AV) (out : List (Nat × AV)) (ks : List Kd) (sts : List (List Ob)) (R : List Nat) (hd : dOk N o = true) (hr : Runs ops F o true) (hD : ∀ σ2, (∀ id ∈ R, σ2[id]? = σ[id]?) → Does P o F σ2 x σ2) (h : ESteps P N ops l (ent N o x :: F) σ F' σ' out ks sts) : ESteps P N ops (o :: l) F σ F' σ' (ent N o x :: out) (.look R :: ks) (σ :: sts)
 | eff (o : Oper) (l : List Oper) (F F' : Frm) (σ σ1 σ' : List Ob) (x : AV) (out : List (Nat × AV)) (ks : List Kd) (sts : List (List Ob)) (W : List Nat) (hd : dOk N o = true) (hr : Runs ops F o true) (hD : Does P o F σ x σ1) (hW : ∀ id, id ∉ W → σ1[id]? = σ[id]?) (h : ESteps P N ops l (ent N o x :: F) σ1 F' σ' out ks sts) : ESteps P N ops (o :: l) F σ F' σ' (ent N o x :: out) (.eff W :: ks) (σ :: sts)
def EAt (P : Program) (ops : Array Oper) (o : Oper) (F : Frm) (x : AV) (k : Option Kd) (s s1 : List Ob) : Prop :=
 (k = some .free ∧ s1 = s ∧ ((Runs ops F o true ∧ ∀ σ, Does P o F σ x σ) ∨ (Runs ops F o false ∧ x = .s undef))) ∨
 (∃ R, k = some (.look R) ∧ s1 = s ∧ Runs ops F o true ∧ ∀ σ2, (∀ id ∈ R, σ2[id]? = s[id]?) → Does P o F σ2 x σ2) ∨
 (∃ W, k = some (.eff W) ∧ Runs ops F o true ∧ Does P o F s x s1 ∧ ∀ id, id ∉ W → s1[id]? = s[id]?)
theorem esteps_at {P : Program} {N : Nat} {ops : Array Oper} : ∀ {l : List Oper} {F F' : Frm} {σ σ' : List Ob} {out : List (Nat × AV)} {ks : List Kd} {sts : List (List Ob)}, ESteps P N ops l F σ F' σ' out ks sts → l.length = out.length ∧ F' = out.reverse ++ F ∧ ks.length = l.length ∧ sts.length = l.length ∧ (sts ++ [σ']).getD 0 [] = σ ∧
  ∀ (i : Nat) o, l[i]? = some o → ∃ x, out[i]? = some (ent N o x) ∧ dOk N o = true ∧ EAt P ops o ((out.take i).reverse ++ F) x ks[i]? ((sts ++ [σ']).getD i []) ((sts ++ [σ']).getD (i + 1) []) := by
 intro l F F' σ σ' out ks sts h
 induction h with
 | nil F σ => exact ⟨rfl, rfl, rfl, rfl, rfl, by simp⟩
 | free o l F F' σ σ' x out ks sts hd hr hD h ih =>
  obtain ⟨h1, h2, h3, h4, h0, h5⟩ := ih
  refine ⟨by simp [h1], by simp [h2], by simp [h3], by simp [h4], rfl, fun i o' hi => ?_⟩
  cases i with
  | zero => simp at hi; subst hi; exact ⟨x, rfl, hd, .inl ⟨rfl, h0, .inl ⟨by simpa using hr, by simpa using hD⟩⟩⟩
  | succ i =>
   obtain ⟨x', g1, g2, g3⟩ := h5 i o' (by simpa using hi)
   exact ⟨x', by simpa using g1, g2, by simpa using g3⟩
 | skip o l F F' σ σ' out ks sts hd hr h ih =>
  obtain ⟨h1, h2, h3, h4, h0, h5⟩ := ih
  refine ⟨by simp [h1], by simp [h2], by simp [h3], by simp [h4], rfl, fun i o' hi => ?_⟩
  cases i with
  | zero => simp at hi; subst hi; exact ⟨.s undef, rfl, hd, .inl ⟨rfl, h0, .inr ⟨by simpa using hr, rfl⟩⟩⟩
  | succ i =>
   obtain ⟨x', g1, g2, g3⟩ := h5 i o' (by simpa using hi)
   exact ⟨x', by simpa using g1, g2, by simpa using g3⟩
 | look o l F F' σ σ' x out ks sts R hd hr hD h ih =>
  obtain ⟨h1, h2, h3, h4, h0, h5⟩ := ih
  refine ⟨by simp [h1], by simp [h2], by simp [h3], by simp [h4], rfl, fun i o' hi => ?_⟩
  cases i with
  | zero => simp at hi; subst hi; exact ⟨x, rfl, hd, .inr (.inl ⟨R, rfl, h0, by simpa using hr, by simpa using hD⟩)⟩
  | succ i =>
   obtain ⟨x', g1, g2, g3⟩ := h5 i o' (by simpa using hi)
   exact ⟨x', by simpa using g1, g2, by simpa using g3⟩
 | eff o l F F' σ σ1 σ' x out ks sts W hd hr hD hW h ih =>
  obtain ⟨h1, h2, h3, h4, h0, h5⟩ := ih
  refine ⟨by simp [h1], by simp [h2], by simp [h3], by simp [h4], rfl, fun i o' hi => ?_⟩
  cases i with
  | zero =>
   simp at hi; subst hi
   have e : ((σ :: sts) ++ [σ']).getD (0 + 1) [] = σ1 := h0
   refine ⟨x, rfl, hd, .inr (.inr ⟨W, rfl, by simpa using hr, ?_, ?_⟩)⟩
   ·
    rw [e]; simpa using hD
   ·
    rw [e]; exact hW
  | succ i =>
   obtain ⟨x', g1, g2, g3⟩ := h5 i o' (by simpa using hi)
   exact ⟨x', by simpa using g1, g2, by simpa using g3⟩
theorem fr_rep {G : Cx} {v : Value} {t : Nat} {sel : Nat → Bool} : ∀ (out : List (Nat × AV)) (k : Nat) (F : Frm), Rep G v (F.get t) → (∀ p ∈ out, p.1 = t → Rep G v p.2) → Rep G v ((fr sel k out F).get t)
 | [], k, F, h, _ => h
 | p :: out, k, F, h, hp => by
  refine fr_rep out (k + 1) _ ?_ (fun q hq => hp q (by simp [hq]))
  cases sel k with
  | false => exact h
  | true =>
   obtain ⟨d, x⟩ := p
   simp only [cond_true, Frm.get]
   cases e : Nat.beq d t with
   | true => exact hp (d, x) xo (Nat.eq_of_beq_eq_true e)
   | false => exact h
def EDraw (P : Program) (N : Nat) (l : List Oper) (F : Frm) (σ : List Ob) (Q : Exit → Frm → List Ob → Prop) : Prop :=
 ∀ G a, S8 N G a F σ → wpAny P .any l.toArray (liftE N G Q) l.length (Array.replicate l.length false) a G.w
section
variable {P : Program} {N : Nat} {l : List Oper} {F F' : Frm} {σ : List Ob} {out : List (Nat × AV)} {Q : Exit → Frm → List Ob → Prop}
theorem egen_any {σ' : List Ob} {ks : List Kd} {sts : List (List Ob)} (hq : eOk l N ks = true) (hs : ESteps P N l.toArray l F σ F' σ' out ks sts) (hQ : Q .normal F' σ') (G0 : Cx) :
  ∀ (fuel : Nat) (L : Array Bool) (G : Cx) (a : Act) (m : Nat), G0.Ext G → L.size = l.length → left L.toList = fuel → Closed l (fun j => L.getD j false = true) → m ≤ l.length → (∀ j W, ks[j]? = some (.eff W) → (L.getD j false = true ↔ j < m)) → Rep G (a.tmps.getD N undef) (F.get N) → S8 N G a (fr (fun j => L.getD j false) 0 out F) ((sts ++ [σ']).getD m []) → wpAny P .any l.toArray (liftE N G0 Q) fuel L a G.w := by
 obtain ⟨hlen, hF', hkl, hsl, _, hat⟩ := esteps_at hs
 unfold eOk sOk at hq
 simp only [Bool.and_eq_true] at hq
 obtain ⟨⟨hq, hlk⟩, hkp⟩ := hq
 obtain ⟨_, hkp⟩ := kPairs_of _ _ _ _ hkp
 have hq2 : ∀ (i j : Nat) a b, i < j → ks[i]? = some a → ks[j]? = some b → kdClash a b = true → ((masks l []).getD j 0).testBit i = true := fun i j a b h1 h2 h3 h4 => by
  have := hkp i j a b h1 h2 h3 h4
  simpa using this
 have hlk' : ∀ (i : Nat) o, l[i]? = some o → ∀ t ∈ o.looksAt l.toArray, t < N := fun i o ho t ht => by
  have h1 := List.all_eq_true.1 hlk o (List.mem_of_getElem? ho)
  have h2 := List.all_eq_true.1 h1 t ht
  simpa [Nat.blt_eq] using h2
 unfold qOk at hq
 have hq' : ∀ j oj, l[j]? = some oj → (∀ e ∈ oj.after.toList, Region.binds .any e = true → e.on < j) ∧ ∀ i oi, i < j → l[i]? = some oi → clash l.toArray oi oj = true → ((masks l []).getD j 0).testBit i = true := by
  intro j oj hj
  have h1 := List.all_eq_true.1 hq j (by simpa using (List.getElem?_eq_some_iff.1 hj).1)
  rw [hj] at h1
  simp only [Bool.and_eq_true, List.all_eq_true] at h1
  refine ⟨fun e he hb => ?_, fun i oi hij hi hc => ?_⟩
  ·
   have := h1.1 e he
   rw [hb] at this
   simpa [Nat.blt_eq] using this
  ·
   have := h1.2 i (by simpa using hij)
   rw [hi] at this
   simpa [hc] using this
 have hsound : ∀ (D : Nat → Prop), Closed l D → ∀ j i, ((masks l []).getD j 0).testBit i = true → D j → D i := fun D hD => masks_sound hD l [] (fun j o h => by simpa using h) (fun j i h => by simp at h)
 have hnone : ∀ (L : Array Bool), L.size = l.length → Region.ready .any l.toArray L = [] → ∀ j, j < l.length → L.getD j false = true := by
  intro L hL hr j
  induction j using Nat.strongRecOn with
  | _ j ih =>
   intro hj
   cases hc : L.getD j false with
   | true => rfl
   | false =>
    exfalso
    obtain ⟨o, ho⟩ : ∃ o, l[j]? = some o := ⟨_, List.getElem?_eq_getElem hj⟩
    have hm : j ∈ Region.ready .any l.toArray L := by
     refine mem_ready.2 ⟨?_, o, by simpa using ho, fun e he hb => ?_⟩
     ·
      have hlt : j < L.size := by omega
      simp [Array.getD_eq_getD_getElem?, hlt] at hc ⊢
      exact hc
     ·
      have hon := (hq' j o ho).1 e (by simpa using he) hb
      exact ih e.on hon xd
    rw [hr] at hm
    cases hm
 have hstepS : ∀ (j id : Nat), j < l.length → (∀ W, ks[j]? = some (.eff W) → id ∉ W) → ((sts ++ [σ']).getD (j + 1) [])[id]? = ((sts ++ [σ']).getD j [])[id]? := by
  intro j id hj hW
  obtain ⟨x, _, _, hc⟩ := hat j _ (List.getElem?_eq_getElem hj)
  rcases hc with ⟨_, g2, _⟩ | ⟨R, _, g2, _⟩ | ⟨W, g1, _, _, g4⟩
  ·
   rw [g2]
  ·
   rw [g2]
  ·
   exact g4 id (hW W g1)
 have hstepN : ∀ (j : Nat), j < l.length → (∀ W, ks[j]? ≠ some (.eff W)) → (sts ++ [σ']).getD (j + 1) [] = (sts ++ [σ']).getD j [] := by
  intro j hj hW
  obtain ⟨x, _, _, hc⟩ := hat j _ (List.getElem?_eq_getElem hj)
  rcases hc with ⟨_, g2, _⟩ | ⟨R, _, g2, _⟩ | ⟨W, g1, _⟩
  ·
   exact g2
  ·
   exact g2
  ·
   exact absurd g1 (hW W)
 have hlookS : ∀ (id k n : Nat), n + k ≤ l.length → (∀ j W, n ≤ j → j < n + k → ks[j]? = some (.eff W) → id ∉ W) → ((sts ++ [σ']).getD (n + k) [])[id]? = ((sts ++ [σ']).getD n [])[id]? := by
  intro id k n hnk h
  induction k with
  | zero => rfl
  | succ k ihk =>
   rw [← ihk xd (fun j W h1 h2 => h j W h1 xd)]
   exact hstepS (n + k) id xd (fun W hW => h (n + k) W xd xd hW)
 have hlooks : ∀ (id m n : Nat), m ≤ l.length → n ≤ l.length → (∀ j W, ks[j]? = some (.eff W) → ¬ (j < m ↔ j < n) → id ∉ W) → ((sts ++ [σ']).getD m [])[id]? = ((sts ++ [σ']).getD n [])[id]? := by
  intro id m n hm hn h
  rcases Nat.le_total m n with h1 | h1
  ·
   obtain ⟨k, rfl⟩ := Nat.exists_eq_add_of_le h1
   exact (hlookS id k m hn (fun j W h2 h3 h4 => h j W h4 xd)).symm
  ·
   obtain ⟨k, rfl⟩ := Nat.exists_eq_add_of_le h1
   exact hlookS id k n hm (fun j W h2 h3 h4 => h j W h4 xd)
 -- states without an effect between them are the same
 have hsame : ∀ (k n : Nat), n + k ≤ l.length → (∀ j W, n ≤ j → j < n + k → ks[j]? ≠ some (.eff W)) → (sts ++ [σ']).getD (n + k) [] = (sts ++ [σ']).getD n [] := by
  intro k n hnk h
  induction k with
  | zero => rfl
  | succ k ihk =>
   rw [← ihk xd (fun j W h1 h2 => h j W h1 xd)]
   exact hstepN (n + k) xd (fun W => h (n + k) W xd xd)
 have hbetween : ∀ (m n : Nat), m ≤ l.length → n ≤ l.length → (∀ j W, ks[j]? = some (.eff W) → (j < m ↔ j < n)) → (sts ++ [σ']).getD m [] = (sts ++ [σ']).getD n [] := by
  intro m n hm hn h
  rcases Nat.le_total m n with h1 | h1
  ·
   obtain ⟨k, rfl⟩ := Nat.exists_eq_add_of_le h1
   exact (hsame k m hn (fun j W h2 h3 h4 => by have := h j W h4; omega)).symm
  ·
   obtain ⟨k, rfl⟩ := Nat.exists_eq_add_of_le h1
   exact hsame k n hm (fun j W h2 h3 h4 => by have := h j W h4; omega)
 -- when all have come up
 have hend : ∀ (L : Array Bool) (G : Cx) (a : Act) (m : Nat), G0.Ext G → L.size = l.length → Region.ready .any l.toArray L = [] → m ≤ l.length → (∀ j W, ks[j]? = some (.eff W) → (L.getD j false = true ↔ j < m)) → S8 N G a (fr (fun j => L.getD j false) 0 out F) ((sts ++ [σ']).getD m []) → liftE N G0 Q .normal a G.w := by
  intro L G a m hst hL hr hml hm h8
  have e1 : (sts ++ [σ']).getD m [] = σ' := by
   rw [hbetween m l.length hml (Nat.le_refl _) (fun j W hj => by
    have hjl : j < l.length := by rw [← hkl]; exact (List.getElem?_eq_some_iff.1 hj).1
    have := (hm j W hj).1 (hnone L hL hr j hjl)
    exact ⟨fun _ => hjl, fun _ => this⟩)]
   simp [List.getD, ← hsl]
  rw [e1] at h8
  refine ⟨G, F', σ', rfl, hst, ⟨h8.rel, fun t => ?_, h8.df, h8.nt⟩, hQ⟩
  have h1 := h8.fr t
  have h2 : (fr (fun j => L.getD j false) 0 out F).get t = (fr (fun j => decide (j < 0 + out.length)) 0 out F).get t := fr_congr out 0 F F rfl (fun j p hp _ => by
   have hj : j < out.length := (List.getElem?_eq_some_iff.1 hp).1
   simp only [Nat.zero_add]
   rw [hnone L hL hr j xd]
   simp [hj])
  rw [h2, fr_pre, List.take_length, ← hF'] at h1
  exact h1
 intro fuel
 induction fuel with
 | zero =>
  intro L G a m hst hL hlf hcl hml hm _ h8
  have hr : Region.ready .any l.toArray L = [] := by
   rw [List.eq_nil_iff_forall_not_mem]
   intro i hi
   obtain ⟨h1, o, ho, _⟩ := mem_ready.1 hi
   have hlt : i < L.size := by rw [hL]; simpa using (Array.getElem?_eq_some_iff.1 ho).1
   have : 0 < left L.toList := left_pos i (by simp [Array.getD_eq_getD_getElem?, hlt] at h1 ⊢; exact h1)
   omega
  exact ⟨hr, hend L G a m hst hL hr hml hm h8⟩
 | succ fuel ih =>
  intro L G a m hst hL hlf hcl hml hm hNr h8
  refine ⟨fun hr => hend L G a m hst hL hr hml hm h8, fun i hi => ?_⟩
  obtain ⟨h1, o, ho, hall⟩ := mem_ready.1 hi
  have hli : l[i]? = some o := by simpa using ho
  have hlt : i < L.size := by rw [hL]; exact (List.getElem?_eq_some_iff.1 hli).1
  have hfalse : L.getD i false = false := by simp [Array.getD_eq_getD_getElem?, hlt] at h1 ⊢; exact h1
  obtain ⟨x, g1, g2, g4⟩ := hat i o hli
  -- the others that touch its slots: those before it have come up, those behind it have not
  have hcl' : Closed l (fun j => j = i ∨ L.getD j false = true) := by
   intro j oj hj hD e he hb
   rcases hD with rfl | hD
   ·
    rw [hli] at hj; cases hj
    exact .inr (hall e (by simpa using he) hb)
   ·
    exact .inr (hcl j oj hj hD e he hb)
  have hord : ∀ j oj, l[j]? = some oj → j ≠ i → (j < i → clash l.toArray oj o = true → L.getD j false = true) ∧ (i < j → clash l.toArray o oj = true → L.getD j false = false) := by
   intro j oj hj hne
   refine ⟨fun hji hc => ?_, fun hij hc => ?_⟩
   ·
    rcases hsound _ hcl' i j ((hq' i o hli).2 j oj hji hj hc) (.inl rfl) with h | h
    ·
     exact absurd h hne
    ·
     exact h
   ·
    cases hx : L.getD j false with
    | false => rfl
    | true =>
     have := hsound _ hcl j i ((hq' j oj hj).2 i o hij hli hc) hx
     rw [hfalse] at this
     cases this
  have hsel : ∀ t, t ∈ o.looksAt l.toArray → Frm.get ((out.take i).reverse ++ F) t = (fr (fun j => L.getD j false) 0 out F).get t := by
   intro t ht
   rw [← fr_pre out 0 i F]
   refine (fr_congr out 0 F F rfl (fun j p hp hpt => ?_)).symm
   simp only [Nat.zero_add]
   have hj : j < l.length := by rw [hlen]; exact (List.getElem?_eq_some_iff.1 hp).1
   obtain ⟨x', k1, _, _⟩ := hat j _ (List.getElem?_eq_getElem hj)
   rw [k1] at hp
   cases hp
   have htN := hlk' i o hli t ht
   have k2 : l[j].dst = some t := ent_at hpt htN
   by_cases hji : j = i
   ·
    subst hji; rw [hfalse]; simp
   ·
    rcases Nat.lt_or_gt_of_ne hji with h | h
    ·
     rw [(hord j _ (List.getElem?_eq_getElem hj) hji).1 h (clash_of.1 k2 ht)]; simp [h]
    ·
     rw [(hord j _ (List.getElem?_eq_getElem hj) hji).2 h (clash_of.2.2 k2 ht)]; simp; omega
  -- what is known behind it
  have hnext : ∀ (m' : Nat), m' ≤ l.length → (∀ j W, ks[j]? = some (.eff W) → ((L.setIfInBounds i true).getD j false = true ↔ j < m')) → ∀ (G' : Cx) (v : Value), G.Ext G' → Rel G' ((sts ++ [σ']).getD m' []) → Rep G' v x → wpAny P .any l.toArray (liftE N G0 Q) fuel (L.setIfInBounds i true) (a.put o.dst v) G'.w := by
   intro m' hm'l hm' G' v he hr' hv
   refine ih _ G' _ m' (hst.trans he) (by simpa using hL) ?_ ?_ hm'l hm' ?_ ⟨hr', fun t => ?_, by cases o.dst <;> exact h8.df, by cases o.dst <;> simp [Act.put, h8.nt]⟩
   ·
    have := left_set L.toList i (by simp [Array.getD_eq_getD_getElem?, hlt] at hfalse ⊢; exact hfalse)
    rw [Array.toList_setIfInBounds]; omega
   ·
    intro j oj hj hD e he2 hb
    have key : ∀ k, (L.setIfInBounds i true).getD k false = true ↔ (k = i ∨ L.getD k false = true) := fun k => by
     by_cases hk : i = k
     ·
      subst hk; simp [Array.getD_eq_getD_getElem?, hlt]
     ·
      simp [Array.getD_eq_getD_getElem?, Array.getElem?_setIfInBounds, hk, Ne.symm hk]
    rw [key] at hD ⊢
    exact hcl' j oj hj hD e he2 hb
   ·
    cases ho2 : o.dst with
    | none => exact hNr.ext he
    | some d =>
     have hd := dOk_lt g2 ho2
     have : d ≠ N := Nat.ne_of_lt hd
     have h1 : (a.put (some d) v).tmps.getD N undef = a.tmps.getD N undef := by simp [Act.put, Array.getD_eq_getD_getElem?, Array.getElem?_setIfInBounds, this]
     rw [h1]; exact hNr.ext he
   ·
    have hselL : ∀ k, k ≠ i → (L.setIfInBounds i true).getD k false = L.getD k false := fun k hk => by
     simp [Array.getD_eq_getD_getElem?, Array.getElem?_setIfInBounds, Ne.symm hk]
    by_cases hte : t = (ent N o x).1
    ·
     cases ho2 : o.dst with
     | none =>
      rw [ent_none ho2] at hte
      have hte : t = N := hte
      rw [hte]
      refine fr_rep out 0 F (hNr.ext he) (fun p hp hpt => ?_)
      obtain ⟨j, hj, rfl⟩ := List.mem_iff_getElem.1 hp
      obtain ⟨x', k1, k2, _⟩ := hat j l[j] (List.getElem?_eq_getElem xd)
      have k3 : out[j] = ent N l[j] x' := by rw [List.getElem?_eq_getElem hj] at k1; exact Option.some.inj k1
      rw [k3] at hpt ⊢
      rw [ent_top hpt k2]
      exact .any _
     | some d =>
      rw [zc0 ho2] at hte g1
      dsimp only at hte
      subst hte
      have h2 : (fr (fun j => (L.setIfInBounds i true).getD j false) 0 out F).get t = x := fr_last out 0 F i g1 (by simp [Array.getD_eq_getD_getElem?, hlt]) (fun j p hp hij hc hpt => by
       simp only [Nat.zero_add] at hc
       rw [hselL j xd] at hc
       have hj : j < l.length := by rw [hlen]; exact (List.getElem?_eq_some_iff.1 hp).1
       obtain ⟨x', k1, _, _⟩ := hat j _ (List.getElem?_eq_getElem hj)
       rw [k1] at hp
       cases hp
       have htN := dOk_lt g2 ho2
       have k2 : l[j].dst = some t := ent_at hpt htN
       have := (hord j _ (List.getElem?_eq_getElem hj) xd).2 hij (clash_of.2.1 ho2 k2)
       rw [this] at hc
       cases hc)
      rw [h2]
      have : t < a.tmps.size := by rw [h8.nt]; exact dOk_lt g2 ho2
      simpa [Act.put, Array.getD_eq_getD_getElem?, this] using hv
    ·
     have h2 : (fr (fun j => (L.setIfInBounds i true).getD j false) 0 out F).get t = (fr (fun j => L.getD j false) 0 out F).get t := fr_congr out 0 F F rfl (fun j p hp hpt => by
      simp only [Nat.zero_add]
      refine hselL j (fun e => ?_)
      subst e
      rw [g1] at hp
      cases hp
      exact hte hpt.symm)
     rw [h2]
     have h3 := (h8.fr t).ext he
     cases ho2 : o.dst with
     | none => exact h3
     | some d =>
      rw [zc0 ho2] at hte
      have hte : t ≠ d := hte
      simpa [Act.put, Array.getD_eq_getD_getElem?, Array.getElem?_setIfInBounds, Ne.symm hte] using h3
  have hset : ∀ j, j ≠ i → ((L.setIfInBounds i true).getD j false = true ↔ L.getD j false = true) := fun j hj => by
   simp [Array.getD_eq_getD_getElem?, Array.getElem?_setIfInBounds, Ne.symm hj]
  have hseti : (L.setIfInBounds i true).getD i false = true := by simp [Array.getD_eq_getD_getElem?, hlt]
  have hil : i < l.length := (List.getElem?_eq_some_iff.1 hli).1
  have hkeep : (∀ W, ks[i]? ≠ some (.eff W)) → ∀ j W, ks[j]? = some (.eff W) → ((L.setIfInBounds i true).getD j false = true ↔ j < m) := fun hne j W hj => by
   have : j ≠ i := fun e => hne W (e ▸ hj)
   rw [hset j this]; exact hm j W hj
  -- an effect that is on the other side in the list is one that it does not meet
  have hside : ∀ b, ks[i]? = some b → ∀ j W, ks[j]? = some (.eff W) → kdClash b (.eff W) = true → (j < m ↔ j < i) := fun b hb j W hj hcl2 => by
   have hjl : j < l.length := by rw [← hkl]; exact (List.getElem?_eq_some_iff.1 hj).1
   rw [← hm j W hj]
   rcases Nat.lt_trichotomy j i with h | h | h
   ·
    have h3 := hq2 j i (.eff W) b h hj hb (by rw [kdClash_symm]; exact hcl2)
    rcases hsound _ hcl' i j h3 (.inl rfl) with h4 | h4
    ·
     omega
    ·
     simp [h, h4]
   ·
    subst h; rw [hfalse]; simp
   ·
    have h3 := hq2 i j b (.eff W) h hb hj hcl2
    constructor
    ·
     intro h4
     have := hsound _ hcl j i h3 h4
     rw [hfalse] at this; cases this
    ·
     intro h4; omega
  unfold wpOp
  simp only [ho]
  rcases g4 with ⟨k0, ks0, ⟨k1, k2⟩ | ⟨k1, rfl⟩⟩ | ⟨R, k0, ks0, k1, k2⟩ | ⟨W0, k0, k1, k2, _⟩
  ·
   rw [if_pos ((k1.congr hsel).wanted h8.fr)]
   left
   refine ((k2 _).congr hsel) G a _ _ h8.rel (fun y _ => zc4 h8.fr y) (fun v G' he hr' hv => ?_)
   exact hnext m hml (hkeep (by rw [k0]; simp)) G' v he hr' hv
  ·
   rw [if_neg (by rw [(k1.congr hsel).wanted h8.fr]; simp)]
   exact hnext m hml (hkeep (by rw [k0]; simp)) G undef (.refl G) h8.rel (.s _)
  ·
   rw [if_pos ((k1.congr hsel).wanted h8.fr)]
   left
   have hlooked : ∀ id ∈ R, ((sts ++ [σ']).getD m [])[id]? = ((sts ++ [σ']).getD i [])[id]? := fun id hid =>
    hlooks id m i hml (Nat.le_of_lt hil) (fun j W hj hne => by
     cases hc : kdClash (.look R) (.eff W) with
     | true => exact absurd (hside _ k0 j W hj hc) hne
     | false => exact meets_of hc id hid)
   refine ((k2 _ hlooked).congr hsel) G a _ _ h8.rel (fun y _ => zc4 h8.fr y) (fun v G' he hr' hv => ?_)
   exact hnext m hml (hkeep (by rw [k0]; simp)) G' v he hr' hv
  ·
   rw [if_pos ((k1.congr hsel).wanted h8.fr)]
   left
   have hef : ∀ j W, ks[j]? = some (.eff W) → (j < m ↔ j < i) := fun j W hj => hside _ k0 j W hj rfl
   have e1 := hbetween m i hml (Nat.le_of_lt hil) hef
   have h8r := h8.rel
   rw [e1] at h8r
   refine (k2.congr hsel) G a _ _ h8r (fun y _ => zc4 h8.fr y) (fun v G' he hr' hv => ?_)
   refine hnext (i + 1) hil (fun j W hj => ?_) G' v he hr' hv
   by_cases hji : j = i
   ·
    subst hji; rw [hseti]; simp
   ·
    rw [hset j hji, hm j W hj, hef j W hj]; omega
theorem edraw_steps {σ' : List Ob} {ks : List Kd} {sts : List (List Ob)} (hs : ESteps P N l.toArray l F σ F' σ' out ks sts) (hq : eOk l N ks = true) (hQ : Q .normal F' σ') : EDraw P N l F σ Q := fun G a h8 => by
 have hno : ∀ j, (Array.replicate l.length false).getD j false = false := fun j => by
  simp only [Array.getD_eq_getD_getElem?, Array.getElem?_replicate]
  split <;> rfl
 have h3 : ∀ (out : List (Nat × AV)) (k : Nat) (F : Frm), fr (fun j => (Array.replicate l.length false).getD j false) k out F = F := by
  intro out
  induction out with
  | nil => intro k F; rfl
  | cons p out ih =>
   intro k F
   have := hno k
   simp only [fr, this, cond_false]
   exact ih _ _
 refine egen_any hq hs hQ G l.length _ G a 0 (.refl G) xo (by simp [left_rep]) ?_ (Nat.zero_le _) ?_ (h8.fr N) ?_
 ·
  intro j o hj hD
  rw [hno] at hD
  cases hD
 ·
  intro j W hj
  rw [hno]; simp
 ·
  rw [h3, (esteps_at hs).2.2.2.2.1]; exact h8
theorem ew_draw {id : Nat} (hm : P.follows .mixedOrders = true) (h : EDraw P N l F σ Q) : EWp P N (.region id l.toArray true) F σ Q := fun G a hs => by
 refine wp_region_any hm ?_
 have he := drew_ext G
 have h1 := h _ a (hs.step he (drew_rel hs.rel))
 exact wpAny_mono (fun e a w q => liftE_mono he (fun _ _ _ x => x) q) _ _ _ _ (by simpa using h1)
end
def subs : List Nat → List (List Nat)
 | [] => [[]]
 | e :: E => subs E ++ (subs E).map (e :: ·)
theorem subs_filter (p : Nat → Bool) : ∀ E : List Nat, E.filter p ∈ subs E
 | [] => by simp [subs]
 | e :: E => by
  have ih := subs_filter p E
  simp only [List.filter_cons, subs, List.mem_append, List.mem_map]
  split
  ·
   exact .inr ⟨_, ih, rfl⟩
  ·
   exact .inl ih
def closedB (m : List Nat) (E D : List Nat) : Bool := D.all fun j => E.all fun k => !((m.getD j 0).testBit k) || D.contains k
def readyB (m : List Nat) (E D : List Nat) (i : Nat) : Bool := !(D.contains i) && E.all (fun k => !((m.getD i 0).testBit k) || D.contains k) && D.all fun j => !((m.getD j 0).testBit i)
def insE (E D : List Nat) (i : Nat) : List Nat := E.filter fun j => D.contains j || Nat.beq j i
section
variable {P : Program} {N : Nat} {l : List Oper} {F F' : Frm} {σ : List Ob} {out : List (Nat × AV)} {Q : Exit → Frm → List Ob → Prop}
end
end Go.Proofs.YtllkbjcemecmjaaGreat.Aw
end
section
namespace Go.Proofs.YtllkbjcemecmjaaGreat.Aw
inductive Tri (α : Type) where
 | nil
 | node (v : Option α) (l r : Tri α)
namespace Tri
variable {α : Type}
def get : Tri α → Nat → Option α
 | .nil, _ => none
 | .node v l r, i => bif Nat.beq i 0 then v else bif Nat.beq (i % 2) 1 then get l (i / 2) else get r (i / 2 - 1)
def set : Nat → Tri α → Nat → α → Tri α
 | 0, t, _, _ => t
 | f + 1, .nil, i, x => bif Nat.beq i 0 then .node (some x) .nil .nil else bif Nat.beq (i % 2) 1 then .node none (set f .nil (i / 2) x) .nil else .node none .nil (set f .nil (i / 2 - 1) x)
 | f + 1, .node v l r, i, x => bif Nat.beq i 0 then .node (some x) l r else bif Nat.beq (i % 2) 1 then .node v (set f l (i / 2) x) r else .node v l (set f r (i / 2 - 1) x)
theorem beq_t {a b : Nat} (h : a = b) : Nat.beq a b = true := by subst h; simp
theorem beq_f {a b : Nat} (h : a ≠ b) : Nat.beq a b = false := by
 cases hb : Nat.beq a b with
 | false => rfl
 | true => exact absurd (Nat.eq_of_beq_eq_true hb) h
theorem get_set : ∀ (f : Nat) (t : Tri α) (i j : Nat) (x : α), i < f → get (set f t i x) j = if j = i then some x else get t j
 | 0, t, i, j, x, h => by omega
 | f + 1, .nil, i, j, x, h => by
  have key : ∀ k, get (.nil : Tri α) k = none := fun _ => rfl
  unfold set
  by_cases hi : i = 0
  ·
   subst hi
   rw [beq_t rfl, cond_true]
   by_cases hj : j = 0
   ·
    subst hj; simp [get]
   ·
    simp only [get, beq_f hj, cond_false, if_neg hj]; cases Nat.beq (j % 2) 1 <;> rfl
  ·
   rw [beq_f hi, cond_false]
   by_cases hp : i % 2 = 1
   ·
    rw [beq_t hp, cond_true]
    by_cases hj : j = 0
    ·
     subst hj; rw [if_neg (Ne.symm hi)]; rfl
    ·
     simp only [get, beq_f hj, cond_false]
     by_cases hq : j % 2 = 1
     ·
      rw [beq_t hq, cond_true, get_set f .nil (i / 2) (j / 2) x xd]
      by_cases e : j = i
      ·
       subst e; simp
      ·
       rw [if_neg e, if_neg xd]; rfl
     ·
      rw [beq_f hq, cond_false, if_neg (by intro e; subst e; exact hq hp)]
   ·
    rw [beq_f hp, cond_false]
    by_cases hj : j = 0
    ·
     subst hj; rw [if_neg (Ne.symm hi)]; rfl
    ·
     simp only [get, beq_f hj, cond_false]
     by_cases hq : j % 2 = 1
     ·
      rw [beq_t hq, cond_true, if_neg (by intro e; subst e; exact hp hq)]
     ·
      rw [beq_f hq, cond_false, get_set f .nil (i / 2 - 1) (j / 2 - 1) x xd]
      by_cases e : j = i
      ·
       subst e; simp
      ·
       rw [if_neg e, if_neg xd]; rfl
 | f + 1, .node v l r, i, j, x, h => by
  unfold set
  by_cases hi : i = 0
  ·
   subst hi
   rw [beq_t rfl, cond_true]
   by_cases hj : j = 0
   ·
    subst hj; simp [get]
   ·
    simp only [get, beq_f hj, cond_false, if_neg hj]
  ·
   rw [beq_f hi, cond_false]
   by_cases hp : i % 2 = 1
   ·
    rw [beq_t hp, cond_true]
    by_cases hj : j = 0
    ·
     subst hj; rw [if_neg (Ne.symm hi)]; rfl
    ·
     simp only [get, beq_f hj, cond_false]
     by_cases hq : j % 2 = 1
     ·
      rw [beq_t hq, cond_true, get_set f l (i / 2) (j / 2) x xd]
      by_cases e : j = i
      ·
       subst e; simp
      ·
       rw [if_neg e, if_neg xd]; rfl
     ·
      rw [beq_f hq, cond_false, if_neg (by intro e; subst e; exact hq hp)]
      rfl
   ·
    rw [beq_f hp, cond_false]
    by_cases hj : j = 0
    ·
     subst hj; rw [if_neg (Ne.symm hi)]; rfl
    ·
     simp only [get, beq_f hj, cond_false]
     by_cases hq : j % 2 = 1
     ·
      rw [beq_t hq, cond_true, if_neg (by intro e; subst e; exact hp hq)]
      rfl
     ·
      rw [beq_f hq, cond_false, get_set f r (i / 2 - 1) (j / 2 - 1) x xd]
      by_cases e : j = i
      ·
       subst e; simp
      ·
       rw [if_neg e, if_neg xd]; rfl
end Tri
structure Sto where
 len : Nat
 t : Tri Ob
namespace Sto
def at_ (s : Sto) (i : Nat) : Ob := match s.t.get i with | some x => x | none => .dead
def abs (s : Sto) : List Ob := (List.range s.len).map s.at_
def get (s : Sto) (i : Nat) : Option Ob := bif Nat.blt i s.len then some (s.at_ i) else none
def set (s : Sto) (i : Nat) (x : Ob) : Sto := ⟨s.len, s.t.set (i + 1) i x⟩
def push (s : Sto) (x : Ob) : Sto := ⟨s.len + 1, s.t.set (s.len + 1) s.len x⟩
def take (s : Sto) (k : Nat) : Sto := bif Nat.ble k s.len then ⟨k, s.t⟩ else s
def nil : Sto := ⟨0, .nil⟩
end Sto
abbrev FT := Tri AV
def fget (t : FT) (d : Nat) : AV := match t.get d with | some x => x | none => .any
def fset (t : FT) (d : Nat) (x : AV) : FT := t.set (d + 1) d x
theorem fget_set (t : FT) (d e : Nat) (x : AV) : fget (fset t d x) e = if e = d then x else fget t e := by
 unfold fget fset
 rw [Tri.get_set _ _ _ _ _ (Nat.lt_succ_self d)]
 by_cases h : e = d
 ·
  rw [if_pos h, if_pos h]
 ·
  rw [if_neg h, if_neg h]
def fev (t : FT) : Operand → AV
 | .tmp d => fget t d
 | .const v => ofValue v
 | .global _ => .any
 | .func f => .fn f []
def FEq (F : Frm) (t : FT) : Prop := ∀ d, F.get d = fget t d
theorem FEq.ev {F : Frm} {t : FT} (h : FEq F t) : F.eval = fev t := by
 funext y
 cases y with
 | tmp d => exact h d
 | _ => rfl
theorem FEq.put {F : Frm} {t : FT} (h : FEq F t) (d : Nat) (x : AV) : FEq ((d, x) :: F) (fset t d x) := fun e => by
 rw [fget_set]
 simp only [Frm.get]
 by_cases he : e = d
 ·
  subst he; simp
 ·
  rw [if_neg he, Tri.beq_f (Ne.symm he), cond_false]; exact h e
end Go.Proofs.YtllkbjcemecmjaaGreat.Aw
end
section
namespace Go.Proofs.YtllkbjcemecmjaaGreat.Aw
open Go.RowKit
section
variable {P : Program} {o : Oper} {F : Frm} {σ : List Ob}
end
end Go.Proofs.YtllkbjcemecmjaaGreat.Aw
end
section
namespace Go.Proofs.YtllkbjcemecmjaaGreat.Aw
open Go.RowKit
abbrev ER := AV × Sto × Kd
inductive OpOk (P : Program) (o : Oper) (F : Frm) (s : Sto) : ER → Prop
 | free (x : AV) (h : ∀ σ, Does P o F σ x σ) : OpOk P o F s (x, s, .free)
 | look (x : AV) (R : List Nat) (h : ∀ σ2, (∀ id ∈ R, σ2[id]? = s.abs[id]?) → Does P o F σ2 x σ2) : OpOk P o F s (x, s, .look R)
 | eff (x : AV) (s1 : Sto) (W : List Nat) (h : Does P o F s.abs x s1.abs) (hW : ∀ id, id ∉ W → s1.abs[id]? = s.abs[id]?) : OpOk P o F s (x, s1, .eff W)
theorem OpOk.does {P : Program} {o : Oper} {F : Frm} {s s' : Sto} {x : AV} {k : Kd} (h : OpOk P o F s (x, s', k)) : Does P o F s.abs x s'.abs := by
 cases h with
 | free _ h => exact h s.abs
 | look _ R h => exact h s.abs (fun _ _ => rfl)
 | eff _ _ _ h => exact h
section
variable {P : Program} {o : Oper} {F : Frm} {σ : List Ob}
end
end Go.Proofs.YtllkbjcemecmjaaGreat.Aw
end
section
namespace Go.Proofs.YtllkbjcemecmjaaGreat.Aw
open Go.RowKit
section
variable {P : Program} {o : Oper} {F : Frm} {σ : List Ob} {s : Sto}
theorem zbw {σ : List Ob} {i id : Nat} {ob : Ob} (h : id ∉ [i]) : (σ.set i ob)[id]? = σ[id]? := by
 rw [List.getElem?_set_ne]; intro e; exact h (by simp [e])
theorem zdo {σ : List Ob} {id : Nat} {ob : Ob} (h : id ∉ [σ.length]) : (σ ++ [ob])[id]? = σ[id]? := by
 by_cases hl : id < σ.length
 ·
  rw [List.getElem?_append_left hl]
 ·
  have hne : id ≠ σ.length := by simpa using h
  rw [List.getElem?_eq_none (by simp; omega), List.getElem?_eq_none xd]
end
section
variable {P : Program} {N : Nat} {F : Frm} {σ : List Ob} {Q : Exit → Frm → List Ob → Prop} {ops : Array Oper} {o : Oper} {l : List Oper} {d : Nat} {x : AV}
theorem eops_s (h : stv (opv o.op F) N ops o F = some (d, x)) (k : EOps P N ops l ((d, x) :: F) σ Q) : EOps P N ops (o :: l) F σ Q := eops_op (zbo h).1 (zbo h).2.1 (zbo h).2.2.1 (opv_does (zbo h).2.2.2) k
theorem eops_f {t f off n ft : Nat} (hf : zca P t f = some (off, ft, some n)) (h : stv (fdv o.op t f off n F) N ops o F = some (d, x)) (k : EOps P N ops l ((d, x) :: F) σ Q) : EOps P N ops (o :: l) F σ Q := eops_op (zbo h).1 (zbo h).2.1 (zbo h).2.2.1 (fdv_does hf (zbo h).2.2.2) k
end
end Go.Proofs.YtllkbjcemecmjaaGreat.Aw
end
section
namespace Go.Proofs.YtllkbjcemecmjaaGreat.Aw
open Go.RowKit
section
variable {P : Program} {N : Nat} {l : List Oper} {F F' : Frm} {σ : List Ob} {out : List (Nat × AV)} {Q : Exit → Frm → List Ob → Prop}
theorem adraw_of (h : EDraw P N l F σ Q) : ADraw P N l F σ Q := fun G a hs =>
 wpAny_mono (fun e a w q => by obtain ⟨G', F', σ', h1, h2, h3, h4⟩ := q; exact ⟨G', F', σ', h1, h2.step, h3, h4⟩) _ _ _ _ (h G a hs)
def EX (P : Program) (N : Nat) (ops : Array Oper) (all : List Oper) (acc : List Kd) (l : List Oper) (F : Frm) (σ : List Ob) (K : Frm → List Ob → Prop) : Prop :=
 ∃ F' σ' out ks sts, ESteps P N ops l F σ F' σ' out ks sts ∧ eOk all N (acc.reverse ++ ks) = true ∧ K F' σ'
variable {ops : Array Oper} {all : List Oper} {acc : List Kd} {K : Frm → List Ob → Prop} {o : Oper} {d : Nat} {x : AV} {σ1 : List Ob}
theorem zcf (hk : eOk all N acc.reverse = true) (h : K F σ) : EX P N ops all acc [] F σ K := ⟨F, σ, [], [], [], .nil F σ, by simpa using hk, h⟩
theorem dOk_s (hd : o.dst = some d) (hN : Nat.blt d N = true) : dOk N o = true := by unfold dOk; rw [hd]; exact hN
theorem dOk_n (hd : o.dst = none) : dOk N o = true := by unfold dOk; rw [hd]
theorem zay (hd : o.dst = some d) (hN : Nat.blt d N = true) (hr : Runs ops F o true) (hD : ∀ σ, Does P o F σ x σ) (h : EX P N ops all (.free :: acc) l ((d, x) :: F) σ K) : EX P N ops all acc (o :: l) F σ K := by
 obtain ⟨F', σ', out, ks, sts, h1, h2, h3⟩ := h
 exact ⟨F', σ', _, _, _, .free o l F F' σ σ' x out ks sts (dOk_s hd hN) hr hD (by rw [zc0 hd]; exact h1), by simpa using h2, h3⟩
theorem zcg (hd : o.dst = some d) (hN : Nat.blt d N = true) (hr : Runs ops F o false) (h : EX P N ops all (.free :: acc) l ((d, .s undef) :: F) σ K) : EX P N ops all acc (o :: l) F σ K := by
 obtain ⟨F', σ', out, ks, sts, h1, h2, h3⟩ := h
 exact ⟨F', σ', _, _, _, .skip o l F F' σ σ' out ks sts (dOk_s hd hN) hr (by rw [zc0 hd]; exact h1), by simpa using h2, h3⟩
theorem zbv {R : List Nat} (hd : o.dst = some d) (hN : Nat.blt d N = true) (hr : Runs ops F o true) (hD : ∀ σ2, (∀ id ∈ R, σ2[id]? = σ[id]?) → Does P o F σ2 x σ2) (h : EX P N ops all (.look R :: acc) l ((d, x) :: F) σ K) : EX P N ops all acc (o :: l) F σ K := by
 obtain ⟨F', σ', out, ks, sts, h1, h2, h3⟩ := h
 exact ⟨F', σ', _, _, _, .look o l F F' σ σ' x out ks sts R (dOk_s hd hN) hr hD (by rw [zc0 hd]; exact h1), by simpa using h2, h3⟩
theorem zc9 {W : List Nat} (hd : o.dst = some d) (hN : Nat.blt d N = true) (hr : Runs ops F o true) (hD : Does P o F σ x σ1) (hW : ∀ id, id ∉ W → σ1[id]? = σ[id]?) (h : EX P N ops all (.eff W :: acc) l ((d, x) :: F) σ1 K) : EX P N ops all acc (o :: l) F σ K := by
 obtain ⟨F', σ', out, ks, sts, h1, h2, h3⟩ := h
 exact ⟨F', σ', _, _, _, .eff o l F F' σ σ1 σ' x out ks sts W (dOk_s hd hN) hr hD hW (by rw [zc0 hd]; exact h1), by simpa using h2, h3⟩
theorem zci {W : List Nat} (hd : o.dst = none) (hr : Runs ops F o true) (hD : Does P o F σ x σ1) (hW : ∀ id, id ∉ W → σ1[id]? = σ[id]?) (h : EX P N ops all (.eff W :: acc) l ((N, .any) :: F) σ1 K) : EX P N ops all acc (o :: l) F σ K := by
 obtain ⟨F', σ', out, ks, sts, h1, h2, h3⟩ := h
 exact ⟨F', σ', _, _, _, .eff o l F F' σ σ1 σ' x out ks sts W (dOk_n hd) hr hD hW (by rw [ent_none hd]; exact h1), by simpa using h2, h3⟩
theorem zc1 (h : EX P N l.toArray l [] l F σ (fun F' σ' => Q .normal F' σ')) : ADraw P N l F σ Q := by
 obtain ⟨F', σ', out, ks, sts, h1, h2, h3⟩ := h
 exact adraw_of (edraw_steps h1 (by simpa using h2) h3)
theorem zbr {t : TypeId} {x : Operand} {id sz k j : Nat} {ob : Ob} {cs : List AV} {e c : AV} (ho : o.op = .load t x) (ha : zc8 P t = some false) (hx : F.eval x = .ptr id sz k j) (hs : σ[id]? = some ob) (hb : rowOf ob = some (sz, cs)) (he : cs[k]? = some e) (hc : e.cells[j]? = some c) : ∀ σ2 : List Ob, (∀ i ∈ [id], σ2[i]? = σ[i]?) → Does P o F σ2 c σ2 :=
 fun σ2 h => zaq ho ha hx ((h id xo).trans hs) hb he hc
theorem zdq {t : TypeId} {x : Operand} {z : Option Value} {n bt : Nat} {id sz k : Nat} {ob : Ob} {cs : List AV} {e : AV} (ho : o.op = .load t x) (ha : zc8 P t = some true) (hi : zb5 P t = some (z, n, bt)) (hx : F.eval x = .ptr id sz k 0) (hs : σ[id]? = some ob) (hb : rowOf ob = some (sz, cs)) (he : cs[k]? = some e) (hn : e.cells.length = n) : ∀ σ2 : List Ob, (∀ i ∈ [id], σ2[i]? = σ[i]?) → Does P o F σ2 (.agg e.cells) σ2 :=
 fun σ2 h => za8 ho ha hi hx ((h id xo).trans hs) hb he hn
theorem look_ptrs {t : TypeId} {x : Operand} {z : Option Value} {n bt : Nat} {id sz k j : Nat} {ob : Ob} {cs : List AV} {e : AV} (ho : o.op = .load t x) (ha : zc8 P t = some true) (hi : zb5 P t = some (z, n, bt)) (hx : F.eval x = .ptr id sz k j) (hs : σ[id]? = some ob) (hb : rowOf ob = some (sz, cs)) (he : cs[k]? = some e) (hn : j + n ≤ e.cells.length) : ∀ σ2 : List Ob, (∀ i ∈ [id], σ2[i]? = σ[i]?) → Does P o F σ2 (.agg ((e.cells.drop j).take n)) σ2 :=
 fun σ2 h => does_load_ptrs ho ha hi hx ((h id xo).trans hs) hb he hn
theorem zct {id i : Nat} {ob ob' : Ob} (h : id ∉ [i, σ.length]) : (σ.set i ob ++ [ob'])[id]? = σ[id]? := by
 have h2 : id ≠ i ∧ id ≠ σ.length := by simpa using h
 rw [zdo (by rw [List.length_set]; simpa using h2.2), zbw (by simpa using h2.1)]
theorem zdf {ad u : Nat} {ty : TypeId} {id sz k n bt : Nat} {z : Option Value} {ob : Ob} {cs : List AV} {e1 y r : AV} {e : Exit} (he : e = .normal ∨ e = .ret) (ha : zc8 P ty = some true) (hi : zb5 P ty = some (z, n, bt)) (hp : F.get ad = .ptr id sz k 0) (hs : σ[id]? = some ob) (ho : rowOf ob = some (sz, cs)) (hk : cs[k]? = some e1) (hn : e1.cells.length = n) (hu : F.get u = y) (hr : AV.tup [.agg e1.cells, y] = r) : APost P [.cell ad ty, .tmp u] r e F σ :=
 ⟨he, [.agg e1.cells, y], .cons _ _ _ _ (.cells ad ty id sz k n bt z ob cs e1 ha hi hp hs ho hk hn) (.cons _ _ _ _ (.tmp u y hu) .nil), hr ▸ .refl _⟩
end
section
variable {P : Program} {N : Nat} {F : Frm} {σ : List Ob} {ops : Array Oper} {o : Oper} {l all : List Oper} {d : Nat} {x : AV} {acc : List Kd} {K : Frm → List Ob → Prop}
theorem ex_s (h : stv (opv o.op F) N ops o F = some (d, x)) (k : EX P N ops all (.free :: acc) l ((d, x) :: F) σ K) : EX P N ops all acc (o :: l) F σ K := zay (zbo h).1 (zbo h).2.1 (zbo h).2.2.1 (fun _ => opv_does (zbo h).2.2.2) k
theorem ex_f {t f off n ft : Nat} (hf : zca P t f = some (off, ft, some n)) (h : stv (fdv o.op t f off n F) N ops o F = some (d, x)) (k : EX P N ops all (.free :: acc) l ((d, x) :: F) σ K) : EX P N ops all acc (o :: l) F σ K := zay (zbo h).1 (zbo h).2.1 (zbo h).2.2.1 (fun _ => fdv_does hf (zbo h).2.2.2) k
theorem ex_l {t : Nat} (ha : zc8 P t = some false) (h : stv (ldv o.op t F) N ops o F = some (d, x)) (k : EX P N ops all (.free :: acc) l ((d, x) :: F) σ K) : EX P N ops all acc (o :: l) F σ K := zay (zbo h).1 (zbo h).2.1 (zbo h).2.2.1 (fun _ => ldv_does ha (zbo h).2.2.2) k
theorem ex_w {t n bt : Nat} {z : Option Value} (ha : zc8 P t = some true) (hi : zb5 P t = some (z, n, bt)) (h : stv (lwv o.op t n F) N ops o F = some (d, x)) (k : EX P N ops all (.free :: acc) l ((d, x) :: F) σ K) : EX P N ops all acc (o :: l) F σ K := zay (zbo h).1 (zbo h).2.1 (zbo h).2.2.1 (fun _ => lwv_does ha hi (zbo h).2.2.2) k
theorem ex_z (h : stz N ops o F = some d) (k : EX P N ops all (.free :: acc) l ((d, .s undef) :: F) σ K) : EX P N ops all acc (o :: l) F σ K := zcg (stz_ok h).1 (stz_ok h).2.1 (stz_ok h).2.2 k
end
end Go.Proofs.YtllkbjcemecmjaaGreat.Aw
end
section
namespace Go.Proofs.YtllkbjcemecmjaaGreat.Aw
open Go.RowKit Go.Proofs
variable {P : Program} [IsP P]
theorem all_t {α : Type} [Inhabited α] {p : α → Bool} {l : List α} (h : ∀ j, j < l.length → p (gti l j) = true) : l.all p = true := by
 rw [List.all_eq_true]
 intro a ha
 obtain ⟨j, hj, rfl⟩ := List.mem_iff_getElem.1 ha
 have h2 := zdh hj
 rw [List.getElem?_eq_getElem hj] at h2
 rw [Option.some.inj h2]; exact h j hj
theorem all_f {α : Type} [Inhabited α] {p : α → Bool} {l : List α} {k : Nat} (hk : k < l.length) (h : p (gti l k) = false) : l.all p = false := by
 rw [List.all_eq_false]
 exact ⟨gti l k, zds hk, by rw [h]; simp⟩
theorem rg_t {n : Nat} {p : Nat → Bool} (h : ∀ j, j < n → p j = true) : (List.range n).all p = true := by
 rw [List.all_eq_true]; intro j hj; exact h j (by simpa using hj)
theorem rg_f {n k : Nat} {p : Nat → Bool} (hk : k < n) (h : p k = false) : (List.range n).all p = false := by
 rw [List.all_eq_false]; exact ⟨k, by simpa using hk, by rw [h]; simp⟩
structure Sft where
 pd : List Int
 cost : Int
 most : Int
instance : Inhabited Sft := ⟨⟨[], 0, 0⟩⟩
def eSh (s : Sft) : AV := .agg [eL eI s.pd, eI s.cost, eI s.most]
theorem lo_Sh (s : Sft) : Lo 0 (eSh s) := .agg _ (zah (zan fun _ => .s _) (zah (.s _) (zah (.s _) zak)))
theorem lo_Int (n : Int) : Lo 0 (eI n) := .s _
theorem indexFS_pf (f : FuncId) (caps : List AV) (p : Sft → Bool) (l : List Sft) (hlo : ∀ a : Sft, Lo 0 (eSh a)) (hlc : Lo 0 (.fn f caps)) (hf : ∀ a ∈ l, Pure P f ([eSh a] ++ caps) (eB (p a))) :
  Pure P 30 [eL eSh l, .fn f caps] (eI (zc2 p l)) := by
 refine zcl (by rw [IsP.eq (P := P)]; exact Tryz.func30) rfl rfl rfl rfl rfl (zah (zan hlo) (zah hlc zak)) (.s _) (by simp only [argF]; rfl) ?_
 refine zda (d := 0) rfl (fun hmx => ?_)
 unfold maxLen at hmx
 refine zag (zab (zac rfl (zad (zag (zag (zab (zac rfl (zaf rfl rfl (zaa rfl) (zao rfl ts23 rfl) (zac rfl (zad (zai (zas ?_))))))))))))
 refine zb1 (S := Nat) (fun k => [(0, eL eSh l), (1, .fn f caps), (7, eI l.length), (8, eI k)]) (fun _ => []) (fun k => k ≤ l.length ∧ ∀ j a, j < k → l[j]? = some a → p a = false) (fun k => l.length - k) 0 (wk_sub _ ⟨rfl, rfl, rfl, rfl, trivial⟩) ⟨by omega, fun j a hj => by omega⟩ (fun k hk => ?_)
 refine zag (zab (zaf rfl rfl (zaa rfl) (za2 rfl rfl rfl) (zad (zag ?_))))
 refine aw_if rfl (fun h => ?_) (fun h => ?_)
 ·
  have hlt : k < l.length := by omega
  refine zar (zag (zas (zag (zab (zac rfl (zac rfl (zad (zag ?_))))))))
  have hp := hf (gti l k) (zds hlt)
  refine zab (zac rfl (zac rfl (zac rfl (zaf rfl rfl (zaa rfl) (zal rfl ts23 ti43 rfl rfl rfl (zbb xd) rfl) (zcx ta43 ti43 rfl (zaf rfl rfl (zaa rfl) (zam rfl rfl (hp) (zae rfl zap)) (zad (zai ?_))))))))
  refine aw_cond rfl (fun h => ?_) (fun h => ?_)
  ·
   refine zag (zab (zac rfl (zac rfl (zad (zai ?_)))))
   (refine za7 ?_; repeat (first | refine zbc ?_ | refine zbe ?_))
   exact zb6 (.inr rfl) rfl (congrArg eI (firstAt_some (zdh hlt) h hk.2).symm)
  ·
   refine zar (zbl (zai (zab (zaf rfl rfl (zaa rfl) (zax rfl rfl rfl (IntWalk.i64_in _ xd)) (zac rfl (zad (zai ?_)))))))
   refine ⟨k + 1, ⟨by omega, fun j a hj ha => ?_⟩, by omega, wk_sub _ ⟨rfl, rfl, rfl, rfl, trivial⟩⟩
   by_cases e : j = k
   ·
    subst e
    rw [zdh hlt] at ha
    cases ha
    exact h
   ·
    exact hk.2 j a xd ha
 ·
  (refine zb9 ?_; repeat (first | refine zcr ?_ | refine zbt ?_ | refine zbk rfl ?_ | refine zbl ?_ | refine zai ?_ | refine zag ?_ | refine zar ?_ | refine zas ?_))
  refine zab (zac rfl (zad (zai ?_)))
  (refine za7 ?_; repeat (first | refine zbc ?_ | refine zbe ?_))
  exact zb6 (.inr rfl) rfl (congrArg eI (firstAt_none (fun j a hj ha => hk.2 j a xd ha)).symm)
theorem containsFS_pf (f : FuncId) (caps : List AV) (p : Sft → Bool) (l : List Sft) (hlo : ∀ a : Sft, Lo 0 (eSh a)) (hlc : Lo 0 (.fn f caps)) (hf : ∀ a ∈ l, Pure P f ([eSh a] ++ caps) (eB (p a))) :
  Pure P 14 [eL eSh l, .fn f caps] (eB (l.any p)) := by
 refine zcl (by rw [IsP.eq (P := P)]; exact Tryz.func14) rfl rfl rfl rfl rfl (zah (zan hlo) (zah hlc zak)) (.s _) (by simp only [argF]; rfl) ?_
 have hi := indexFS_pf f caps p l hlo hlc hf
 refine zag (zab (zac rfl (zad (zag (zab (zac rfl (zac rfl (zaf rfl rfl (zaa rfl) (zam rfl rfl (hi) (zae rfl (zae rfl zap))) (zaf rfl rfl (zaa rfl) (zcp rfl rfl rfl) (zac rfl (zad (zai ?_))))))))))))
 (refine za7 ?_; repeat (first | refine zbc ?_ | refine zbe ?_))
 exact zb6 (.inr rfl) rfl (congrArg eB (firstAt_any p l))
theorem indexFI_pf (f : FuncId) (caps : List AV) (p : Int → Bool) (l : List Int) (hlo : ∀ a : Int, Lo 0 (eI a)) (hlc : Lo 0 (.fn f caps)) (hf : ∀ a ∈ l, Pure P f ([eI a] ++ caps) (eB (p a))) :
  Pure P 44 [eL eI l, .fn f caps] (eI (zc2 p l)) := by
 refine zcl (by rw [IsP.eq (P := P)]; exact Tryz.func44) rfl rfl rfl rfl rfl (zah (zan hlo) (zah hlc zak)) (.s _) (by simp only [argF]; rfl) ?_
 refine zda (d := 0) rfl (fun hmx => ?_)
 unfold maxLen at hmx
 refine zag (zab (zac rfl (zad (zag (zag (zab (zac rfl (zaf rfl rfl (zaa rfl) (zao rfl ts22 rfl) (zac rfl (zad (zai (zas ?_))))))))))))
 refine zb1 (S := Nat) (fun k => [(0, eL eI l), (1, .fn f caps), (7, eI l.length), (8, eI k)]) (fun _ => []) (fun k => k ≤ l.length ∧ ∀ j a, j < k → l[j]? = some a → p a = false) (fun k => l.length - k) 0 (wk_sub _ ⟨rfl, rfl, rfl, rfl, trivial⟩) ⟨by omega, fun j a hj => by omega⟩ (fun k hk => ?_)
 refine zag (zab (zaf rfl rfl (zaa rfl) (za2 rfl rfl rfl) (zad (zag ?_))))
 refine aw_if rfl (fun h => ?_) (fun h => ?_)
 ·
  have hlt : k < l.length := by omega
  refine zar (zag (zas (zag (zab (zac rfl (zac rfl (zad (zag ?_))))))))
  have hp := hf (gti l k) (zds hlt)
  refine zab (zac rfl (zac rfl (zac rfl (zaf rfl rfl (zaa rfl) (zal rfl ts22 ti3 rfl rfl rfl (zbb xd) rfl) (zbu ta3 rfl (zaf rfl rfl (zaa rfl) (zam rfl rfl (hp) (zae rfl zap)) (zad (zai ?_))))))))
  refine aw_cond rfl (fun h => ?_) (fun h => ?_)
  ·
   refine zag (zab (zac rfl (zac rfl (zad (zai ?_)))))
   (refine za7 ?_; repeat (first | refine zbc ?_ | refine zbe ?_))
   exact zb6 (.inr rfl) rfl (congrArg eI (firstAt_some (zdh hlt) h hk.2).symm)
  ·
   refine zar (zbl (zai (zab (zaf rfl rfl (zaa rfl) (zax rfl rfl rfl (IntWalk.i64_in _ xd)) (zac rfl (zad (zai ?_)))))))
   refine ⟨k + 1, ⟨by omega, fun j a hj ha => ?_⟩, by omega, wk_sub _ ⟨rfl, rfl, rfl, rfl, trivial⟩⟩
   by_cases e : j = k
   ·
    subst e
    rw [zdh hlt] at ha
    cases ha
    exact h
   ·
    exact hk.2 j a xd ha
 ·
  (refine zb9 ?_; repeat (first | refine zcr ?_ | refine zbt ?_ | refine zbk rfl ?_ | refine zbl ?_ | refine zai ?_ | refine zag ?_ | refine zar ?_ | refine zas ?_))
  refine zab (zac rfl (zad (zai ?_)))
  (refine za7 ?_; repeat (first | refine zbc ?_ | refine zbe ?_))
  exact zb6 (.inr rfl) rfl (congrArg eI (firstAt_none (fun j a hj ha => hk.2 j a xd ha)).symm)
theorem containsFI_pf (f : FuncId) (caps : List AV) (p : Int → Bool) (l : List Int) (hlo : ∀ a : Int, Lo 0 (eI a)) (hlc : Lo 0 (.fn f caps)) (hf : ∀ a ∈ l, Pure P f ([eI a] ++ caps) (eB (p a))) :
  Pure P 31 [eL eI l, .fn f caps] (eB (l.any p)) := by
 refine zcl (by rw [IsP.eq (P := P)]; exact Tryz.func31) rfl rfl rfl rfl rfl (zah (zan hlo) (zah hlc zak)) (.s _) (by simp only [argF]; rfl) ?_
 have hi := indexFI_pf f caps p l hlo hlc hf
 refine zag (zab (zac rfl (zad (zag (zab (zac rfl (zac rfl (zaf rfl rfl (zaa rfl) (zam rfl rfl (hi) (zae rfl (zae rfl zap))) (zaf rfl rfl (zaa rfl) (zcp rfl rfl rfl) (zac rfl (zad (zai ?_))))))))))))
 (refine za7 ?_; repeat (first | refine zbc ?_ | refine zbe ?_))
 exact zb6 (.inr rfl) rfl (congrArg eB (firstAt_any p l))
def bigS (s : Sft) : Bool := decide (30 < (s.pd.length : Int))
theorem few1_pf (s : Sft) : Pure P 15 [eSh s] (eB (bigS s)) := by
 refine zcl (by rw [IsP.eq (P := P)]; exact Tryz.func15) rfl rfl rfl rfl rfl xa (.s _) (by simp only [argF]; rfl) ?_
 refine zag (zab (zaf rfl rfl (zaa rfl) (zb3 rfl rfl rfl rfl) ?_))
 refine za6 (zbm (id := 0) rfl) (za6 (zcb (d := 1) rfl rfl rfl) ?_)
 refine zac rfl (zad (zag (zab (zbz tf43_0 rfl (zbu ta22 rfl (zaf rfl rfl (zaa rfl) (zao rfl ts22 rfl) (zaf rfl rfl (zaa rfl) (zb0 rfl rfl rfl) (zac rfl (zad (zai ?_))))))))))
 (refine za7 ?_; repeat (first | refine zbc ?_ | refine zbe ?_))
 exact zb6 (.inr rfl) rfl rfl
def fewB (d : List Int) (l : List Sft) : Bool := decide ((d.length : Int) ≤ 30) && (decide ((l.length : Int) ≤ 15) && !l.any bigS)
theorem few_pf (d : List Int) (l : List Sft) : Pure P 5 [eL eI d, eL eSh l] (eB (fewB d l)) := by
 have hc := containsFS_pf (P := P) 15 [] bigS l lo_Sh (.fn _ _ xo) (fun a _ => few1_pf a)
 have hd : fewB d l = (decide ((d.length : Int) ≤ 30) && (decide ((l.length : Int) ≤ 15) && !l.any bigS)) := rfl
 generalize l.any bigS = z at hc hd
 generalize fewB d l = R at hd ⊢
 refine zcl (by rw [IsP.eq (P := P)]; exact Tryz.func5) rfl rfl rfl rfl rfl xa (.s _) (by simp only [argF]; rfl) ?_
 refine zag (zab (zac rfl (zad (zag (zab (zac rfl (zaf rfl rfl (zaa rfl) (zao rfl ts22 rfl) ?_)))))))
 refine za3 rfl rfl (zaa rfl) (does_leq rfl rfl rfl) (fun h7 => ?_) (fun h7 => ?_)
 all_goals refine zac rfl ?_
 all_goals (first | refine zac rfl ?_ | refine za4 rfl ?_)
 all_goals (first | refine zaf rfl rfl (zat rfl rfl rfl) (zao rfl ts23 rfl) ?_ | refine za4 rfl ?_)
 all_goals (first | refine za3 rfl rfl (zat rfl rfl rfl) (does_leq rfl rfl rfl) (fun h11 => ?_) (fun h11 => ?_) | refine za4 rfl ?_)
 all_goals refine zac rfl (zac rfl ?_)
 all_goals (first | refine zac rfl ?_ | refine za4 rfl ?_)
 all_goals (first | refine zcn rfl rfl (zat rfl rfl rfl) (zam rfl rfl (hc) (zae rfl (zae rfl zap))) (fun h15 => ?_) (fun h15 => ?_) | refine za4 rfl ?_)
 all_goals (first | refine zaf rfl rfl (zat rfl rfl rfl) (zbj rfl rfl) ?_ | refine za4 rfl ?_)
 all_goals refine zac rfl (zac rfl (zad (zai (za7 ?_))))
 all_goals exact zb6 (.inr rfl) rfl (congrArg eB (by
  rw [hd]
  first
  | (rw [decide_eq_false (show ¬ ((d.length : Int) ≤ 30) by omega)]; rfl)
  | (rw [decide_eq_true (show ((d.length : Int) ≤ 30) by omega), decide_eq_false (show ¬ ((l.length : Int) ≤ 15) by omega)]; rfl)
  | (rw [decide_eq_true (show ((d.length : Int) ≤ 30) by omega), decide_eq_true (show ((l.length : Int) ≤ 15) by omega), h15]; rfl)))
def needB (n : Int) : Bool := decide (0 ≤ n ∧ n ≤ 100)
theorem svalid1_pf (n : Int) : Pure P 32 [eI n] (eB (!needB n)) := by
 refine zcl (by rw [IsP.eq (P := P)]; exact Tryz.func32) rfl rfl rfl rfl rfl (zah (.s _) zak) (.s _) (by simp only [argF]; rfl) ?_
 refine zag (zab (zac rfl (zad (zag (zab (zac rfl ?_))))))
 refine za3 rfl rfl (zaa rfl) (za2 rfl rfl rfl) (fun h4 => ?_) (fun h4 => ?_)
 all_goals refine zac rfl ?_
 all_goals (first | refine zac rfl ?_ | refine za4 rfl ?_)
 all_goals (first | refine za3 rfl rfl (zat rfl rfl rfl) (zb0 rfl rfl rfl) (fun h7 => ?_) (fun h7 => ?_) | refine za4 rfl ?_)
 all_goals refine zac rfl (zac rfl (zad (zai (za7 ?_))))
 all_goals exact zb6 (.inr rfl) rfl (congrArg eB (by
  unfold needB
  first
  | (rw [decide_eq_true xd]; rfl)
  | (rw [decide_eq_false xd]; rfl)))
def perB (n : Nat) (l : List Int) (k : Nat) : Bool := decide (0 ≤ gti l k ∧ gti l k < (n : Int) ∧ (0 < k → gti l (k - 1) < gti l k))
def headS (s : Sft) : Bool := decide (s.pd.length ≠ 0 ∧ 0 ≤ s.cost ∧ s.cost ≤ 1000 ∧ 0 ≤ s.most ∧ s.most ≤ 20)
def sftB (n : Nat) (s : Sft) : Bool := headS s && (List.range s.pd.length).all (perB n s.pd)
def headV (d : List Int) (l : List Sft) : Bool := decide (1 ≤ d.length ∧ d.length ≤ 24 ∧ l.length ≤ 12) && d.all needB
def zce (d : List Int) (l : List Sft) : Bool := headV d l && l.all (sftB d.length)
theorem headV_t {d : List Int} {l : List Sft} (h : 1 ≤ d.length ∧ d.length ≤ 24 ∧ l.length ≤ 12) (h2 : d.all needB = true) : headV d l = true := by
 unfold headV; rw [decide_eq_true h, h2]; rfl
theorem headV_f {d : List Int} {l : List Sft} (h : ¬ (1 ≤ d.length ∧ d.length ≤ 24 ∧ l.length ≤ 12)) : zce d l = false := by
 unfold zce headV; rw [decide_eq_false h]; rfl
theorem headV_f2 {d : List Int} {l : List Sft} (h : d.all needB = false) : zce d l = false := by
 unfold zce headV; rw [h, Bool.and_false]; rfl
theorem validS_f {d : List Int} {l : List Sft} {k : Nat} (hk : k < l.length) (h : sftB d.length (gti l k) = false) : zce d l = false := by
 unfold zce; rw [all_f hk h, Bool.and_false]
theorem validS_t {d : List Int} {l : List Sft} (h : headV d l = true) (h2 : ∀ j, j < l.length → sftB d.length (gti l j) = true) : zce d l = true := by
 unfold zce; rw [h, all_t h2]; rfl
theorem sftB_h {n : Nat} {s : Sft} (h : headS s = false) : sftB n s = false := by unfold sftB; rw [h]; rfl
theorem sftB_f {n k : Nat} {s : Sft} (hk : k < s.pd.length) (h : perB n s.pd k = false) : sftB n s = false := by unfold sftB; rw [rg_f hk h, Bool.and_false]
theorem sftB_t {n : Nat} {s : Sft} (h : headS s = true) (h2 : ∀ j, j < s.pd.length → perB n s.pd j = true) : sftB n s = true := by unfold sftB; rw [h, rg_t h2]; rfl
theorem zb4 {d : List Int} {l : List Sft} (h : zce d l = true) : (1 ≤ d.length ∧ d.length ≤ 24 ∧ l.length ≤ 12) ∧ (∀ k, k < d.length → 0 ≤ gti d k ∧ gti d k ≤ 100) ∧ ∀ i, i < l.length → ((gti l i).pd.length ≠ 0 ∧ 0 ≤ (gti l i).cost ∧ (gti l i).cost ≤ 1000 ∧ 0 ≤ (gti l i).most ∧ (gti l i).most ≤ 20) ∧ ∀ k, k < (gti l i).pd.length → 0 ≤ gti (gti l i).pd k ∧ gti (gti l i).pd k < (d.length : Int) ∧ (0 < k → gti (gti l i).pd (k - 1) < gti (gti l i).pd k) := by
 unfold zce headV at h
 rw [Bool.and_eq_true, Bool.and_eq_true, decide_eq_true_eq] at h
 refine ⟨h.1.1, fun k hk => ?_, fun i hi => ?_⟩
 ·
  have := List.all_eq_true.1 h.1.2 _ (zds hk)
  unfold needB at this
  rwa [decide_eq_true_eq] at this
 ·
  have h1 := List.all_eq_true.1 h.2 _ (zds hi)
  unfold sftB headS at h1
  rw [Bool.and_eq_true, decide_eq_true_eq] at h1
  refine ⟨h1.1, fun k hk => ?_⟩
  have h2 := List.all_eq_true.1 h1.2 k (by simpa using hk)
  unfold perB at h2
  rwa [decide_eq_true_eq] at h2
set_option maxHeartbeats 1000000 in
theorem sValid_pf54 (d : List Int) (l : List Sft) : Pure P 16 [eL eI d, eL eSh l] (eB (zce d l)) := by
 have hc := containsFI_pf (P := P) 32 [] (fun n => !needB n) d lo_Int (.fn _ _ xo) (fun a _ => svalid1_pf a)
 have hda : d.all needB = !(d.any fun n => !needB n) := by rw [List.all_eq_not_any_not]
 generalize (d.any fun n => !needB n) = z at hc hda
 refine zcl (by rw [IsP.eq (P := P)]; exact Tryz.func16) rfl rfl rfl rfl rfl xa (.s _) (by simp only [argF]; rfl) ?_
 refine zag ?_
 refine zda (d := 0) rfl (fun hm1 => ?_)
 refine zda (d := 1) rfl (fun hm2 => ?_)
 unfold maxLen at hm1 hm2
 refine zab (zac rfl (zad (zag (zag (zab (zac rfl (zaf rfl rfl (zaa rfl) (zao rfl ts22 rfl) ?_)))))))
 refine za3 rfl rfl (zaa rfl) (za2 rfl rfl rfl) (fun h11 => ?_) (fun h11 => ?_)
 all_goals refine zac rfl ?_
 all_goals (first | refine zac rfl ?_ | refine za4 rfl ?_)
 all_goals (first | refine zaf rfl rfl (zat rfl rfl rfl) (zao rfl ts22 rfl) ?_ | refine za4 rfl ?_)
 all_goals (first | refine za3 rfl rfl (zat rfl rfl rfl) (zb0 rfl rfl rfl) (fun h15 => ?_) (fun h15 => ?_) | refine za4 rfl ?_)
 all_goals refine zac rfl (zac rfl ?_)
 all_goals (first | refine zac rfl ?_ | refine za4 rfl ?_)
 all_goals (first | refine zaf rfl rfl (zat rfl rfl rfl) (zao rfl ts23 rfl) ?_ | refine za4 rfl ?_)
 all_goals (first | refine za3 rfl rfl (zat rfl rfl rfl) (zb0 rfl rfl rfl) (fun h20 => ?_) (fun h20 => ?_) | refine za4 rfl ?_)
 all_goals refine zac rfl (zac rfl ?_)
 all_goals (first | refine zac rfl ?_ | refine za4 rfl ?_)
 all_goals (first | refine zcn rfl rfl (zat rfl rfl rfl) (zam rfl rfl (hc) (zae rfl (zae rfl zap))) (fun h24 => ?_) (fun h24 => ?_) | refine za4 rfl ?_)
 all_goals refine zac rfl (zad (zai ?_))
 all_goals (first | refine za5 rfl ?_ | refine zau rfl ?_)
 all_goals (repeat (first | refine zag ?_ | refine zar ?_))
 all_goals first
  |
   refine zab (zac rfl (zad (zai ?_)))
   (refine za7 ?_; repeat (first | refine zbc ?_ | refine zbe ?_))
   exact zb6 (.inr rfl) rfl (congrArg eB (by
    first
    | (rw [headV_f xd])
    | (rw [headV_f2 (by rw [hda, h24]; rfl)])))
  | skip
 have hh : headV d l = true := headV_t xd (by rw [hda, h24]; rfl)
 refine zab (zac rfl (zaf rfl rfl (zaa rfl) (zao rfl ts23 rfl) (zac rfl (zad (zai (zas ?_))))))
 refine zb1 (S := Nat) (fun k => [(0, eL eI d), (1, eL eSh l), (26, eL eSh l), (27, eI l.length), (28, eI k)]) (fun _ => []) (fun k => k ≤ l.length ∧ ∀ j, j < k → sftB d.length (gti l j) = true) (fun k => l.length - k) 0 (zb8 [] xf trivial ⟨.lo _ (zan fun _ => .s _), .lo _ xa, .lo _ xa, .lo _ (.s _), .lo _ (.s _), trivial⟩) ⟨by omega, fun j hj => by omega⟩ (fun k hk => ?_)
 obtain ⟨hk, hall⟩ := hk
 refine zag (zab ?_)
 refine za3 rfl rfl (zaa rfl) (za2 rfl rfl rfl) (fun h29 => ?_) (fun h29 => ?_)
 all_goals refine zad (zag ?_)
 all_goals (first | refine za5 rfl ?_ | refine zau rfl ?_)
 all_goals (repeat (first | refine zag ?_ | refine zar ?_ | refine zas ?_))
 ·
  have hlt : k < l.length := by omega
  obtain ⟨s, hs⟩ : ∃ s, gti l k = s := ⟨_, rfl⟩
  have hix : (l.map eSh)[k]? = some (eSh s) := by rw [← hs]; exact zbb hlt
  refine zab (zaf rfl rfl (zaa rfl) (zal rfl ts23 ti43 rfl rfl rfl hix rfl) (zcx ta43 ti43 rfl (zaf rfl rfl (zaa rfl) (za1 rfl ti43 rfl rfl) (zba rfl (zaa rfl) (zaj rfl ti43 rfl rfl rfl rfl rfl rfl xf xf) (zad (zag (zag ?_)))))))
  refine zbg (zbm (id := 0) rfl) ?_
  refine zbg (zcb (d := 6) rfl rfl rfl) ?_
  refine zab (zbz tf43_0 rfl (zbu ta22 rfl (zaf rfl rfl (zaa rfl) (zao rfl ts22 rfl) ?_)))
  refine za3 rfl rfl (zaa rfl) (zbn rfl rfl rfl) (fun h35 => ?_) (fun h35 => ?_)
  all_goals refine zac rfl ?_
  all_goals (first | refine zbz tf43_1 rfl ?_ | refine za4 rfl ?_)
  all_goals (first | refine zbu ta3 rfl ?_ | refine za4 rfl ?_)
  all_goals (first | refine za3 rfl rfl (zat rfl rfl rfl) (za2 rfl rfl rfl) (fun h39 => ?_) (fun h39 => ?_) | refine za4 rfl ?_)
  all_goals refine zac rfl (zac rfl ?_)
  all_goals (first | refine zbz tf43_1 rfl ?_ | refine za4 rfl ?_)
  all_goals (first | refine zbu ta3 rfl ?_ | refine za4 rfl ?_)
  all_goals (first | refine za3 rfl rfl (zat rfl rfl rfl) (zb0 rfl rfl rfl) (fun h44 => ?_) (fun h44 => ?_) | refine za4 rfl ?_)
  all_goals refine zac rfl (zac rfl ?_)
  all_goals (first | refine zbz tf43_2 rfl ?_ | refine za4 rfl ?_)
  all_goals (first | refine zbu ta3 rfl ?_ | refine za4 rfl ?_)
  all_goals (first | refine za3 rfl rfl (zat rfl rfl rfl) (za2 rfl rfl rfl) (fun h49 => ?_) (fun h49 => ?_) | refine za4 rfl ?_)
  all_goals refine zac rfl (zac rfl ?_)
  all_goals (first | refine zbz tf43_2 rfl ?_ | refine za4 rfl ?_)
  all_goals (first | refine zbu ta3 rfl ?_ | refine za4 rfl ?_)
  all_goals (first | refine za3 rfl rfl (zat rfl rfl rfl) (zb0 rfl rfl rfl) (fun h54 => ?_) (fun h54 => ?_) | refine za4 rfl ?_)
  all_goals refine zac rfl (zad (zai ?_))
  all_goals (first | refine za5 rfl ?_ | refine zau rfl ?_)
  all_goals (repeat (first | refine zag ?_ | refine zar ?_))
  all_goals first
   |
    refine zab (zac rfl (zad (zai ?_)))
    (refine za7 ?_; repeat (first | refine zbc ?_ | refine zbe ?_))
    exact zb6 (.inr rfl) rfl (congrArg eB (validS_f hlt (by rw [hs]; exact sftB_h (decide_eq_false xd))).symm)
   | skip
  have hhs : headS s = true := decide_eq_true xd
  refine zab (zbz tf43_0 rfl (zbu ta22 rfl (zaf rfl rfl (zaa rfl) (zao rfl ts22 rfl) (zac rfl (zad (zai (zas ?_)))))))
  refine zda (d := 57) rfl (fun hm3 => ?_)
  unfold maxLen at hm3
  refine zb1 (S := Nat) (fun j => [(0, eL eI d), (1, eL eSh l), (26, eL eSh l), (27, eI l.length), (28, eI k), (6, .ref (eSh s).cells), (57, eL eI s.pd), (58, eI s.pd.length), (59, eI j)]) (fun _ => []) (fun j => j ≤ s.pd.length ∧ ∀ i, i < j → perB d.length s.pd i = true) (fun j => s.pd.length - j) 0 (zb8 [] xf trivial ⟨.lo _ (zan fun _ => .s _), .lo _ xa, .lo _ xa, .lo _ (.s _), .lo _ (.s _), .lo _ xc, .lo _ (zan fun _ => .s _), .lo _ (.s _), .lo _ (.s _), trivial⟩) ⟨by omega, fun j hj => by omega⟩ (fun j hj => ?_)
  obtain ⟨hj, hper⟩ := hj
  refine zag (zab ?_)
  refine za3 rfl rfl (zaa rfl) (za2 rfl rfl rfl) (fun h60 => ?_) (fun h60 => ?_)
  all_goals refine zad (zag ?_)
  all_goals (first | refine za5 rfl ?_ | refine zau rfl ?_)
  all_goals (repeat (first | refine zag ?_ | refine zar ?_ | refine zas ?_))
  ·
   have hlt2 : j < s.pd.length := by omega
   refine zab (zac rfl (zaf rfl rfl (zaa rfl) (zal rfl ts22 ti3 rfl rfl rfl (zbb xd) rfl) (zbu ta3 rfl (zac rfl (zac rfl (zad (zag (zab (zac rfl ?_)))))))))
   refine za3 rfl rfl (zaa rfl) (za2 rfl rfl rfl) (fun h65 => ?_) (fun h65 => ?_)
   all_goals refine zac rfl ?_
   all_goals (first | refine zac rfl ?_ | refine za4 rfl ?_)
   all_goals (first | refine zac rfl ?_ | refine za4 rfl ?_)
   all_goals (first | refine zaf rfl rfl (zat rfl rfl rfl) (zao rfl ts22 rfl) ?_ | refine za4 rfl ?_)
   all_goals (first | refine za3 rfl rfl (zat rfl rfl rfl) (zcp rfl rfl rfl) (fun h70 => ?_) (fun h70 => ?_) | refine za4 rfl ?_)
   all_goals refine zac rfl (zac rfl ?_)
   all_goals (first | refine zac rfl ?_ | refine za4 rfl ?_)
   all_goals (first | refine za3 rfl rfl (zat rfl rfl rfl) (zb0 rfl rfl rfl) (fun h74 => ?_) (fun h74 => ?_) | refine za4 rfl ?_)
   all_goals (first | refine zac rfl ?_ | refine za4 rfl ?_)
   all_goals (first | refine zbz tf43_0 rfl ?_ | refine za4 rfl ?_ | refine zcj rfl rfl (zbi rfl rfl rfl) ?_)
   all_goals (first | refine zbu ta22 rfl ?_ | refine za4 rfl ?_ | refine zcj rfl rfl (zbi rfl rfl rfl) ?_)
   all_goals (first | refine zac rfl ?_ | refine za4 rfl ?_ | refine zcj rfl rfl (zbi rfl rfl rfl) ?_)
   all_goals (first | refine zaf rfl rfl (zat rfl rfl rfl) (zdx rfl rfl rfl (IntWalk.i64_in _ (by omega))) ?_ | refine za4 rfl ?_ | refine zcj rfl rfl (zbi rfl rfl rfl) ?_)
   all_goals (first | refine zaf rfl rfl (zat rfl rfl rfl) (zal rfl ts22 ti3 rfl rfl (by omega) (zbb (k := j - 1) (by omega)) rfl) ?_ | refine za4 rfl ?_ | refine zcj rfl rfl (zbi rfl rfl rfl) ?_)
   all_goals (first | refine zbu ta3 rfl ?_ | refine za4 rfl ?_ | refine zcj rfl rfl (zbi rfl rfl rfl) ?_)
   all_goals (first | refine zac rfl ?_ | refine za4 rfl ?_ | refine zcj rfl rfl (zbi rfl rfl rfl) ?_)
   all_goals (first | refine za3 rfl rfl (zat rfl rfl rfl) (zcp rfl rfl rfl) (fun h83 => ?_) (fun h83 => ?_) | refine za4 rfl ?_ | refine zcj rfl rfl (zbi rfl rfl rfl) ?_)
   all_goals (first | refine zac rfl ?_ | refine za4 rfl ?_)
   all_goals refine zac rfl (zad (zai ?_))
   all_goals (first | refine za5 rfl ?_ | refine zau rfl ?_)
   all_goals (repeat (first | refine zag ?_ | refine zai ?_ | refine zar ?_ | refine zbl ?_))
   all_goals first
    |
     refine zab (zac rfl (zad (zai ?_)))
     (refine za7 ?_; repeat (first | refine zbc ?_ | refine zbe ?_))
     exact zb6 (.inr rfl) rfl (congrArg eB (validS_f hlt (by rw [hs]; exact sftB_f hlt2 (decide_eq_false xd))).symm)
    |
     refine zab (zaf rfl rfl (zaa rfl) (zax rfl rfl rfl (IntWalk.i64_in _ xd)) (zac rfl (zad (zai ?_))))
     refine ⟨j + 1, ⟨by omega, fun i hi => ?_⟩, by omega, zb8 [] xf trivial ⟨.lo _ (zan fun _ => .s _), .lo _ xa, .lo _ xa, .lo _ (.s _), .lo _ (.s _), .lo _ xc, .lo _ (zan fun _ => .s _), .lo _ (.s _), .lo _ (.s _), trivial⟩⟩
     by_cases e : i = j
     ·
      subst e; exact decide_eq_true xd
     ·
      exact hper i xd
  ·
   (refine zb9 ?_; repeat (first | refine zcr ?_ | refine zbt ?_ | refine zbk rfl ?_ | refine zbl ?_ | refine zai ?_ | refine zag ?_ | refine zar ?_ | refine zas ?_))
   refine zab (zaf rfl rfl (zaa rfl) (zax rfl rfl rfl (IntWalk.i64_in _ xd)) (zac rfl (zad (zai ?_))))
   refine ⟨k + 1, ⟨by omega, fun i hi => ?_⟩, by omega, zb8 [] xf trivial ⟨.lo _ (zan fun _ => .s _), .lo _ xa, .lo _ xa, .lo _ (.s _), .lo _ (.s _), trivial⟩⟩
   by_cases e : i = k
   ·
    subst e; rw [hs]; exact sftB_t hhs (fun i hi => hper i xd)
   ·
    exact hall i xd
 ·
  (refine zb9 ?_; repeat (first | refine zcr ?_ | refine zbt ?_ | refine zbk rfl ?_ | refine zbl ?_ | refine zai ?_ | refine zag ?_ | refine zar ?_ | refine zas ?_))
  refine zab (zac rfl (zad (zai ?_)))
  (refine za7 ?_; repeat (first | refine zbc ?_ | refine zbe ?_))
  exact zb6 (.inr rfl) rfl (congrArg eB (validS_t hh (fun j hj => hall j xd)).symm)
end Go.Proofs.YtllkbjcemecmjaaGreat.Aw
end
