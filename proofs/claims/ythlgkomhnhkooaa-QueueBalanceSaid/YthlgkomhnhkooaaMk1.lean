/-
  Walks of casebook/frac's Sum and Dot. Conditions: none.
-/
import Derived.Test.YthlgkomhnhkooaaQueue7
import Derived.Test.YthlgkomhnhkooaaFrac4
import Derived.Test.YthlgkomhnhkooaaLoc
import Derived.Test.YthlgkomhnhkooaaQSpec4
namespace Go.Proofs.Ythlgkomhnhkooaa
set_option linter.unusedSimpArgs false
set_option linter.unusedVariables false
open Go.RowKit

theorem RdF.toB {w : World} {lo hi : Nat} {v : Value} {l : List Fr} (h : RdF w lo hi v l) : RdB w w.heap.size v l := by
  obtain ⟨A, c, rfl, hc, hm⟩ := h.form
  refine ⟨A, c, rfl, by unfold maxLen; exact hm, hc, fun hn => ?_⟩
  obtain ⟨b, off, hA, _, _, hb, hcells⟩ := RdG.cells h hn
  refine ⟨b, off, hA, hb, fun i a hi => ?_⟩
  have := flat_get hi
  exact ⟨hcells _ _ this.1, by rw [Nat.add_assoc]; exact hcells _ _ this.2⟩
theorem downS_ok {row : List Fr} (h : ∀ a ∈ row, a.ok) : ∀ {k : Nat} {d : Fr}, downS row k = some d → d.ok
  | 0, d, e => by simp [downS] at e; subst e; exact zeroF_ok
  | k + 1, d, e => by
    obtain ⟨d', e1, e⟩ := some_bind e
    exact fadd_ok (downS_ok h e1) (gt_ok h k) e
theorem all_ok {l : List Fr} (h : l.all Fr.okB = true) : ∀ a ∈ l, a.ok := fun a ha => (Fr.okB_iff a).1 (List.all_eq_true.1 h a ha)

/-- the sum of a list, with the error -/
def sumE (l : List Fr) : FE := if l.all Fr.okB then (if l.length ≤ 1000 then FE.of (downS l l.length) else FE.err 5) else FE.err 1

set_option maxRecDepth 100000 in
set_option maxHeartbeats 4000000 in
theorem Sum_any (l : List Fr) (lo hi : Nat) (v : Value) (w : World) (hv : RdF w lo hi v l) (hh : hi ≤ w.heap.size) :
    Calls Try.prog 33 #[v] w fun e w' => e = .returned (.tuple #[.agg #[.int .i64 (sumE l).n, .int .i64 (sumE l).d], .int .i64 (sumE l).e]) ∧ Below w.heap.size w w' := by
  obtain ⟨A, c, rfl, hlc, hm⟩ := hv.form
  refine calls_cps fun R hR => ?_
  have HR := Lib.hid hR
  clear hR
  have M0 : Mem [Loc.rdF lo hi (.slice A l.length c) l, Loc.bl w.heap.size w] w := ⟨hv, ⟨Below.refl _ _, Nat.le_refl _⟩, True.intro⟩
  clear hv
  go_enter Try.func33, Try.ntmps33
  go_wp2_with fail
  have r0 := K2.new w (.int .i64 0) (.int .i64 0) 23
  have M1 : Mem [Loc.k2 w.heap.size (.int .i64 0) (.int .i64 0), Loc.rdF lo hi (.slice A l.length c) l, Loc.bl w.heap.size w] _ := ⟨r0, M0.alloc _⟩
  refine (valid_any l _ _ (RdF.toB M1.2.1)).mono ?_
  rintro e w1 ⟨rfl, hb1⟩
  replace M1 := M1.below hb1
  have hz1 := hb1.size
  simp at hz1
  clear hb1 M0 r0
  cases hv : l.all Fr.okB with
  | false =>
    have HE : Hid (sumE l = ⟨0, 0, 1⟩) := Lib.hid (by unfold sumE; rw [hv]; rfl)
    have r1 := M1.1
    have HB := Lib.hid M1.2.2.1.1
    clear M1 hv
    go_wp2_with fail
    refine ret_B2_tmp (x := .int .i64 0) (y := .int .i64 0) (z := .int .i64 1) rfl rfl rfl rfl (K2.set r1 _ _) (HR.out _ _ ⟨by rw [HE.out], ?_⟩)
    have := HB.out
    (repeat (first | exact Below.refl _ _ | assumption | refine Below.setCell ?_ (by first | omega | (simp; done) | (simp; omega)) _ | refine Below.alloc ?_ (by first | omega | (simp; done) | (simp; omega)) _ | refine Below.drew ?_ | refine below_drewN ?_ _))
  | true =>
    have HOK := Lib.hid (all_ok hv)
    by_cases hl : l.length ≤ 1000
    · have HE : Hid (sumE l = FE.of (downS l l.length)) := Lib.hid (by unfold sumE; rw [hv, if_pos rfl, if_pos hl])
      have hli : decide ((1000 : Int) < (l.length : Int)) = false := by simp; omega
      have hln : decide (1000 < l.length) = false := by simp; omega
      clear hv
      go_wp2
      have M2 := M1.alloc (.cells #[.int .i64 0, .int .i64 1] 23)
      have o2 := K2.new w1 (.int .i64 0) (.int .i64 1) 23
      clear M1
      go_loopw [22] (fun v22 wr => ∃ (k : Nat) (s : Fr), k ≤ l.length ∧ v22 = .int .i64 k ∧ downS l k = some s ∧ K2 wr w1.heap.size (.int .i64 s.n) (.int .i64 s.d) ∧ Mem [Loc.k2 w.heap.size (.int .i64 0) (.int .i64 0), Loc.rdF lo hi (.slice A l.length c) l, Loc.bl w.heap.size w] wr) (fun v22 _ => l.length - (intOf v22).toNat)
      case atStart => exact ⟨0, zeroF, by omega, rfl, rfl, o2, M2⟩
      case round =>
        clear o2 M2
        obtain ⟨k, s, hk, rfl, hs, o1, M⟩ := hrel
        have HS := Lib.hid hs
        clear hs
        by_cases hlt : k < l.length
        · have hkd : decide ((k : Int) < (l.length : Int)) = true := by simp; omega
          obtain ⟨b, off, rfl, lo2, hi2, f4, f5⟩ := RdF.at2 M.2.1 (gt_get hlt)
          have hzo : w1.heap.size < wr.heap.size := o1.2.2.2.2
          obtain ⟨o, ho⟩ : ∃ o, fadd s (gt l k) = o := ⟨_, rfl⟩
          have HA := Lib.hid (show addE s (gt l k) = FE.of o by rw [← ho]; exact addE_ok (downS_ok HOK.out HS.out) (gt_ok HOK.out k))
          have HD : Hid (downS l (k + 1) = o) := Lib.hid (by rw [← ho]; show (downS l k).bind _ = _; rw [HS.out]; rfl)
          generalize gt l k = a at *
          clear ho
          go_wp2_with fail
          have a1 := K2.new wr (.int .i64 a.n) (.int .i64 a.d) 23
          replace M := M.alloc (.cells #[.int .i64 a.n, .int .i64 a.d] 23)
          replace o1 := K2.alloc o1 (.cells #[.int .i64 a.n, .int .i64 a.d] 23)
          refine (add_any s a _).mono ?_
          rintro e w3 ⟨rfl, hb3⟩
          rw [HA.out]
          replace M := M.below hb3
          replace o1 := K2.aft hb3 o1
          have hz3 := hb3.size
          simp at hz3
          clear hb3 a1 f4 f5
          cases o with
          | none =>
            have HF : Hid (sumE l = ⟨0, 0, 6⟩) := Lib.hid (by rw [HE.out, downS_none HD.out (by omega)]; rfl)
            have r1 := M.1
            have HB := Lib.hid M.2.2.1.1
            clear M
            have hof : FE.of none = ⟨0, 0, 6⟩ := rfl
            rw [hof]
            clear hof
            go_wp2_with fail
            refine ret_B2_tmp (x := .int .i64 0) (y := .int .i64 0) (z := .int .i64 6) rfl rfl rfl rfl (K2.alloc (K2.set r1 _ _) _) (HR.out _ _ ⟨by rw [HF.out], ?_⟩)
            have := HB.out
            (repeat (first | exact Below.refl _ _ | assumption | refine Below.setCell ?_ (by first | omega | (simp; done) | (simp; omega)) _ | refine Below.alloc ?_ (by first | omega | (simp; done) | (simp; omega)) _ | refine Below.drew ?_ | refine below_drewN ?_ _))
          | some t =>
            have hof : FE.of (some t) = ⟨t.n, t.d, 0⟩ := rfl
            rw [hof]
            clear hof
            have HM3 := Lib.hid ((M.set2 (g := w1.heap.size) (i := 0) (j := 1) (u := .int .i64 t.n) (v := .int .i64 t.d) (by (repeat' (first | exact True.intro | refine And.intro (fun k hk e => ?_) ?_)) <;> (first | exact e | ((try dsimp only [Loc.c1, Loc.c2, Loc.k1, Loc.k2, Loc.k6, Loc.rdF, Loc.rdFF, Loc.all2, Loc.fr, Loc.bl, Loc.own, Loc.sz] at hk e) <;> omega)))).alloc (.cells #[.int .i64 t.n, .int .i64 t.d] 23))
            have HO3 := Lib.hid (K2.alloc (K2.set o1 (.int .i64 t.n) (.int .i64 t.d)) (.cells #[.int .i64 t.n, .int .i64 t.d] 23))
            clear M
            go_wp2_with fail
            go_roundw
            case rel =>
              have hrel : ∃ (k' : Nat) (s' : Fr), k' ≤ l.length ∧ Value.int .i64 ((k : Int) + 1) = .int .i64 k' ∧ downS l k' = some s' ∧ K2 (((w3.setCell ⟨w1.heap.size, 0, none⟩ (.int .i64 t.n)).setCell ⟨w1.heap.size, 1, none⟩ (.int .i64 t.d)).alloc (.cells #[.int .i64 t.n, .int .i64 t.d] 23)) w1.heap.size (.int .i64 s'.n) (.int .i64 s'.d) ∧ Mem [Loc.k2 w.heap.size (.int .i64 0) (.int .i64 0), Loc.rdF lo hi (.slice (some ⟨b, off, none⟩) l.length c) l, Loc.bl w.heap.size w] (((w3.setCell ⟨w1.heap.size, 0, none⟩ (.int .i64 t.n)).setCell ⟨w1.heap.size, 1, none⟩ (.int .i64 t.d)).alloc (.cells #[.int .i64 t.n, .int .i64 t.d] 23)) := ⟨k + 1, t, by omega, by go_num, HD.out, HO3.out, HM3.out⟩
              first | exact hrel | ((repeat apply Exists.intro); exact ⟨hrel, rfl⟩)
            case measure => first | (simp [intOf]; done) | (simp [intOf]; omega)
        · have hkd : decide ((k : Int) < (l.length : Int)) = false := by simp; omega
          obtain rfl : k = l.length := by omega
          have HF : Hid (sumE l = ⟨s.n, s.d, 0⟩) := Lib.hid (by rw [HE.out, HS.out]; rfl)
          have r1 := M.1
          have HB := Lib.hid M.2.2.1.1
          clear M
          go_wp2_with fail
          refine ret_B2_tmp (x := .int .i64 s.n) (y := .int .i64 s.d) (z := .int .i64 0) rfl rfl rfl rfl (K2.set r1 _ _) (HR.out _ _ ⟨by rw [HF.out], ?_⟩)
          have := HB.out
          (repeat (first | exact Below.refl _ _ | assumption | refine Below.setCell ?_ (by first | omega | (simp; done) | (simp; omega)) _ | refine Below.alloc ?_ (by first | omega | (simp; done) | (simp; omega)) _ | refine Below.drew ?_ | refine below_drewN ?_ _))
    · have HE : Hid (sumE l = ⟨0, 0, 5⟩) := Lib.hid (by unfold sumE; rw [hv, if_pos rfl, if_neg hl]; rfl)
      have hli : decide ((1000 : Int) < (l.length : Int)) = true := by simp; omega
      have hln : decide (1000 < l.length) = true := by simp; omega
      have r1 := M1.1
      have HB := Lib.hid M1.2.2.1.1
      clear M1 hv
      go_wp2_with fail
      refine ret_B2_tmp (x := .int .i64 0) (y := .int .i64 0) (z := .int .i64 5) rfl rfl rfl rfl (K2.set r1 _ _) (HR.out _ _ ⟨by rw [HE.out], ?_⟩)
      have := HB.out
      (repeat (first | exact Below.refl _ _ | assumption | refine Below.setCell ?_ (by first | omega | (simp; done) | (simp; omega)) _ | refine Below.alloc ?_ (by first | omega | (simp; done) | (simp; omega)) _ | refine Below.drew ?_ | refine below_drewN ?_ _))

/-- the sum of the products of two lists, their first k elements -/
def dotS (a b : List Fr) : Nat → Option Fr
  | 0 => some zeroF
  | k + 1 => (dotS a b k).bind fun s => (fmul (gt a k) (gt b k)).bind fun p => fadd s p
theorem dotS_ok {a b : List Fr} (ha : ∀ x ∈ a, x.ok) (hb : ∀ x ∈ b, x.ok) : ∀ {k : Nat} {d : Fr}, dotS a b k = some d → d.ok
  | 0, d, e => by simp [dotS] at e; subst e; exact zeroF_ok
  | k + 1, d, e => by
    obtain ⟨s, e1, e⟩ := some_bind e
    obtain ⟨p, e2, e⟩ := some_bind e
    exact fadd_ok (dotS_ok ha hb e1) (fmul_ok (gt_ok ha k) (gt_ok hb k) e2) e
theorem dotS_none {a b : List Fr} {k k' : Nat} (h : dotS a b k = none) (hk : k ≤ k') : dotS a b k' = none := by
  induction hk with
  | refl => exact h
  | step _ ih => unfold dotS; rw [ih]; rfl

set_option maxRecDepth 100000 in
set_option maxHeartbeats 8000000 in
/-- Dot of two lists of valid fractions of the same length -/
theorem Dot_ok (a b : List Fr) (lo hi lo2 hi2 : Nat) (v v2 : Value) (w : World) (hv : RdF w lo hi v a) (hv2 : RdF w lo2 hi2 v2 b) (ha : a.all Fr.okB = true) (hb : b.all Fr.okB = true) (hab : a.length = b.length) (hl : a.length ≤ 1000) (hh : hi ≤ w.heap.size ∧ hi2 ≤ w.heap.size) :
    Calls Try.prog 68 #[v, v2] w fun e w' => e = .returned (.tuple #[.agg #[.int .i64 (FE.of (dotS a b a.length)).n, .int .i64 (FE.of (dotS a b a.length)).d], .int .i64 (FE.of (dotS a b a.length)).e]) ∧ Below w.heap.size w w' := by
  obtain ⟨A, c, rfl, hlc, hm⟩ := hv.form
  obtain ⟨A2, c2, rfl, hlc2, hm2⟩ := hv2.form
  rw [← hab] at hv2 hlc2 hm2 ⊢
  have HAB := Lib.hid hab
  have HA := Lib.hid (all_ok ha)
  have HB := Lib.hid (all_ok hb)
  refine calls_cps fun R hR => ?_
  have HR := Lib.hid hR
  clear hR
  have M0 : Mem [Loc.rdF lo hi (.slice A a.length c) a, Loc.rdF lo2 hi2 (.slice A2 a.length c2) b, Loc.bl w.heap.size w] w := ⟨hv, hv2, ⟨Below.refl _ _, Nat.le_refl _⟩, True.intro⟩
  clear hv hv2 hab
  go_enter Try.func68, Try.ntmps68
  go_wp2_with fail
  have r0 := K2.new w (.int .i64 0) (.int .i64 0) 23
  have M1 : Mem [Loc.k2 w.heap.size (.int .i64 0) (.int .i64 0), Loc.rdF lo hi (.slice A a.length c) a, Loc.rdF lo2 hi2 (.slice A2 a.length c2) b, Loc.bl w.heap.size w] _ := ⟨r0, M0.alloc _⟩
  refine (valid_any a _ _ (RdF.toB M1.2.1)).mono ?_
  rintro e w0 ⟨rfl, hb0⟩
  rw [ha]
  replace M1 := M1.below hb0
  have hz0 := hb0.size
  simp at hz0
  clear hb0 M0 r0 ha
  go_wp2_with fail
  refine (valid_any b _ _ (RdF.toB M1.2.2.1)).mono ?_
  rintro e w1 ⟨rfl, hb1⟩
  rw [hb]
  replace M1 := M1.below hb1
  have hz1 := hb1.size
  clear hb1 hb
  have hli : decide ((1000 : Int) < (a.length : Int)) = false := by simp; omega
  have hln : decide (1000 < a.length) = false := by simp; omega
  go_wp2
  have M2 := M1.alloc (.cells #[.int .i64 0, .int .i64 1] 23)
  have o2 := K2.new w1 (.int .i64 0) (.int .i64 1) 23
  clear M1
  go_loopw [40] (fun v40 wr => ∃ (k : Nat) (s : Fr), k ≤ a.length ∧ v40 = .int .i64 k ∧ dotS a b k = some s ∧ K2 wr w1.heap.size (.int .i64 s.n) (.int .i64 s.d) ∧ Mem [Loc.k2 w.heap.size (.int .i64 0) (.int .i64 0), Loc.rdF lo hi (.slice A a.length c) a, Loc.rdF lo2 hi2 (.slice A2 a.length c2) b, Loc.bl w.heap.size w] wr) (fun v40 _ => a.length - (intOf v40).toNat)
  case atStart => exact ⟨0, zeroF, by omega, rfl, rfl, o2, M2⟩
  case round =>
    clear o2 M2
    obtain ⟨k, s, hk, rfl, hs, o1, M⟩ := hrel
    have HS := Lib.hid hs
    clear hs
    by_cases hlt : k < a.length
    · have hkd : decide ((k : Int) < (a.length : Int)) = true := by simp; omega
      have hkb : (k : Int) < (a.length : Int) := by omega
      obtain ⟨b1, off1, rfl, lo3, hi3, f1, f2⟩ := RdF.at2 M.2.1 (gt_get hlt)
      have m2 : RdF wr lo2 hi2 (.slice A2 b.length c2) b := by rw [← HAB.out]; exact M.2.2.1
      obtain ⟨b2, off2, rfl, lo4, hi4, f3, f4⟩ := RdF.at2 m2 (gt_get (l := b) (i := k) (by rw [← HAB.out]; exact hlt))
      have hzo : w1.heap.size < wr.heap.size := o1.2.2.2.2
      have oka := gt_ok HA.out k
      have okb := gt_ok HB.out k
      obtain ⟨om, hom⟩ : ∃ o, fmul (gt a k) (gt b k) = o := ⟨_, rfl⟩
      have HMU := Lib.hid (show mulE (gt a k) (gt b k) = FE.of om by rw [← hom]; exact mulE_ok oka okb)
      have HD : Hid (dotS a b (k + 1) = om.bind fun p => fadd s p) := Lib.hid (by rw [← hom]; show (dotS a b k).bind _ = _; rw [HS.out]; rfl)
      have HOP := Lib.hid (show ∀ p, om = some p → p.ok from fun p e => fmul_ok oka okb (hom.trans e))
      have S : Mem [Loc.c2 b1 (off1 + k * 2) (.int .i64 (gt a k).n) (.int .i64 (gt a k).d), Loc.c2 b2 (off2 + k * 2) (.int .i64 (gt b k).n) (.int .i64 (gt b k).d)] wr := ⟨⟨f1, f2⟩, ⟨f3, f4⟩, True.intro⟩
      clear hom oka okb f1 f2 f3 f4 m2
      generalize gt a k = x at *
      generalize gt b k = y at *
      go_upto_region 11 with (fail)
      go_cut [8, 9] (fun s8 s9 wx => ∃ pb : Nat, s8 = .pointer (some ⟨pb, 0, none⟩) ∧ s9 = .int .i64 (FE.of om).e ∧ K2 wx pb (.int .i64 (FE.of om).n) (.int .i64 (FE.of om).d) ∧ K2 wx w1.heap.size (.int .i64 s.n) (.int .i64 s.d) ∧ Mem [Loc.k2 w.heap.size (.int .i64 0) (.int .i64 0), Loc.rdF lo hi (.slice (some ⟨b1, off1, none⟩) a.length c) a, Loc.rdF lo2 hi2 (.slice (some ⟨b2, off2, none⟩) a.length c2) b, Loc.bl w.heap.size w] wx)
      case first =>
        go_region_held3 (fun W => C2 W b1 (off1 + k * 2) (.int .i64 x.n) (.int .i64 x.d) ∧ C2 W b2 (off2 + k * 2) (.int .i64 y.n) (.int .i64 y.d) ∧ True) (first | exact S | exact S.alloc _ | exact S.set2 (by (repeat' (first | exact True.intro | refine And.intro (fun k hk e => ?_) ?_)) <;> (first | exact e | ((try dsimp only [Loc.c1, Loc.c2, Loc.k1, Loc.k2, Loc.k6, Loc.rdF, Loc.rdFF, Loc.all2, Loc.fr, Loc.bl, Loc.own, Loc.sz] at hk e) <;> omega)))) ((go_at_call 23; refine (mul_any x y _).mono ?_; rintro e w3 ⟨rfl, hb3⟩; rw [HMU.out]; replace M := Mem.below (by first | exact M.drew | exact (M.alloc _).drew) hb3; replace S := Mem.below (by first | exact S.drew | exact (S.alloc _).drew) hb3; replace o1 := K2.aft hb3 (by first | exact o1 | exact K2.alloc o1 _); (first | have s0 := K2.aft hb3 (K2.newd wr (.int .i64 0) (.int .i64 0) 23) | skip); have hs3 := hb3.size; (try simp at hs3); clear hb3))
        · go_wp2_with fail
          go_meet
          exact ⟨w3.heap.size, rfl, rfl, K2.new _ _ _ _, K2.alloc o1 _, M.alloc _⟩
        all_goals
          go_wp2_with fail
          go_meet
          exact ⟨_, rfl, rfl, K2.set s0 _ _, K2.far' o1 (by omega) _ _, M.set2 (by (repeat' (first | exact True.intro | refine And.intro (fun k hk e => ?_) ?_)) <;> (first | exact e | ((try dsimp only [Loc.c1, Loc.c2, Loc.k1, Loc.k2, Loc.k6, Loc.rdF, Loc.rdFF, Loc.all2, Loc.fr, Loc.bl, Loc.own, Loc.sz] at hk e) <;> omega)))⟩
      case rest =>
        clear M S o1
        obtain ⟨pb, rfl, rfl, p1, o1, M⟩ := hcut
        have hzp : w1.heap.size < wc.heap.size := o1.2.2.2.2
        cases om with
        | none =>
          have HF : Hid (dotS a b a.length = none) := Lib.hid (dotS_none (k := k + 1) HD.out (by omega))
          have r1 := M.1
          have HBL := Lib.hid M.2.2.2.1.1
          clear M
          have hof : FE.of none = ⟨0, 0, 6⟩ := rfl
          rw [hof]
          clear hof
          go_wp2_with fail
          refine ret_B2_tmp (x := .int .i64 0) (y := .int .i64 0) (z := .int .i64 6) rfl rfl rfl rfl (K2.set r1 _ _) (HR.out _ _ ⟨by rw [HF.out]; rfl, ?_⟩)
          have := HBL.out
          (repeat (first | exact Below.refl _ _ | assumption | refine Below.setCell ?_ (by first | omega | (simp; done) | (simp; omega)) _ | refine Below.alloc ?_ (by first | omega | (simp; done) | (simp; omega)) _ | refine Below.drew ?_ | refine below_drewN ?_ _))
        | some p =>
          have hof : FE.of (some p) = ⟨p.n, p.d, 0⟩ := rfl
          rw [hof] at p1 ⊢
          clear hof
          obtain ⟨o, ho⟩ : ∃ o, fadd s p = o := ⟨_, rfl⟩
          have HAD := Lib.hid (show addE s p = FE.of o by rw [← ho]; exact addE_ok (dotS_ok HA.out HB.out HS.out) (HOP.out p rfl))
          have HD2 : Hid (dotS a b (k + 1) = o) := Lib.hid (by rw [HD.out, ← ho]; rfl)
          clear ho
          go_wp2_with fail
          refine (add_any s p _).mono ?_
          rintro e w4 ⟨rfl, hb4⟩
          rw [HAD.out]
          replace M := M.below hb4
          replace o1 := K2.aft hb4 o1
          clear hb4 p1
          cases o with
          | none =>
            have HF : Hid (dotS a b a.length = none) := Lib.hid (dotS_none (k := k + 1) HD2.out (by omega))
            have r1 := M.1
            have HBL := Lib.hid M.2.2.2.1.1
            clear M
            have hof : FE.of none = ⟨0, 0, 6⟩ := rfl
            rw [hof]
            clear hof
            go_wp2_with fail
            refine ret_B2_tmp (x := .int .i64 0) (y := .int .i64 0) (z := .int .i64 6) rfl rfl rfl rfl (K2.set (K2.far' r1 (by omega) _ _) _ _) (HR.out _ _ ⟨by rw [HF.out]; rfl, ?_⟩)
            have := HBL.out
            (repeat (first | exact Below.refl _ _ | assumption | refine Below.setCell ?_ (by first | omega | (simp; done) | (simp; omega)) _ | refine Below.alloc ?_ (by first | omega | (simp; done) | (simp; omega)) _ | refine Below.drew ?_ | refine below_drewN ?_ _))
          | some t =>
            have hof : FE.of (some t) = ⟨t.n, t.d, 0⟩ := rfl
            rw [hof]
            clear hof
            have HM3 := Lib.hid (M.set2 (g := w1.heap.size) (i := 0) (j := 1) (u := .int .i64 t.n) (v := .int .i64 t.d) (by (repeat' (first | exact True.intro | refine And.intro (fun k hk e => ?_) ?_)) <;> (first | exact e | ((try dsimp only [Loc.c1, Loc.c2, Loc.k1, Loc.k2, Loc.k6, Loc.rdF, Loc.rdFF, Loc.all2, Loc.fr, Loc.bl, Loc.own, Loc.sz] at hk e) <;> omega))))
            have HO3 := Lib.hid (K2.set o1 (.int .i64 t.n) (.int .i64 t.d))
            clear M
            go_wp2_with fail
            go_roundw
            case rel =>
              have hrel : ∃ (k' : Nat) (s' : Fr), k' ≤ a.length ∧ Value.int .i64 ((k : Int) + 1) = .int .i64 k' ∧ dotS a b k' = some s' ∧ K2 ((w4.setCell ⟨w1.heap.size, 0, none⟩ (.int .i64 t.n)).setCell ⟨w1.heap.size, 1, none⟩ (.int .i64 t.d)) w1.heap.size (.int .i64 s'.n) (.int .i64 s'.d) ∧ Mem [Loc.k2 w.heap.size (.int .i64 0) (.int .i64 0), Loc.rdF lo hi (.slice (some ⟨b1, off1, none⟩) a.length c) a, Loc.rdF lo2 hi2 (.slice (some ⟨b2, off2, none⟩) a.length c2) b, Loc.bl w.heap.size w] ((w4.setCell ⟨w1.heap.size, 0, none⟩ (.int .i64 t.n)).setCell ⟨w1.heap.size, 1, none⟩ (.int .i64 t.d)) := ⟨k + 1, t, by omega, by go_num, HD2.out, HO3.out, HM3.out⟩
              first | exact hrel | ((repeat apply Exists.intro); exact ⟨hrel, rfl⟩)
            case measure => first | (simp [intOf]; done) | (simp [intOf]; omega)
    · have hkd : decide ((k : Int) < (a.length : Int)) = false := by simp; omega
      obtain rfl : k = a.length := by omega
      have r1 := M.1
      have HBL := Lib.hid M.2.2.2.1.1
      clear M
      go_wp2_with fail
      refine ret_B2_tmp (x := .int .i64 s.n) (y := .int .i64 s.d) (z := .int .i64 0) rfl rfl rfl rfl (K2.set r1 _ _) (HR.out _ _ ⟨by rw [HS.out]; rfl, ?_⟩)
      have := HBL.out
      (repeat (first | exact Below.refl _ _ | assumption | refine Below.setCell ?_ (by first | omega | (simp; done) | (simp; omega)) _ | refine Below.alloc ?_ (by first | omega | (simp; done) | (simp; omega)) _ | refine Below.drew ?_ | refine below_drewN ?_ _))

end Go.Proofs.Ythlgkomhnhkooaa
