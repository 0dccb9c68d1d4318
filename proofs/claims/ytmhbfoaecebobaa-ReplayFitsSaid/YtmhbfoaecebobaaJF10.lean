/-
  Texts joined: Fit, BalP, Eq, Awk, RB, Ad, Great, Open, LwA, RS, Sr, RTk, RWf, AwM. Conditions: none.
-/
import Derived.Test.YtmhbfoaecebobaaJF9
import Derived.Test.YtmhbfoaecebobaaJF6
import Derived.Test.YtmhbfoaecebobaaRows
import Derived.ProofKit
import Derived.Below
import Derived.ChangeSame
import Derived.ChangeSlices
import Derived.DataReads
import Derived.Test.YtmhbfoaecebobaaJF4
import Derived.ChangeShapes
import Derived.Test.YtmhbfoaecebobaaJF7
section
namespace Go.Proofs.Ytmhbfoaecebobaa
set_option linter.unusedSimpArgs false
set_option linter.unusedVariables false
open Go.RowKit

/-- a struct of two cells and a slot as the two results -/
theorem ret_B2t {fn : Func} {R : Ending → World → Prop} {a : Act} {w : World} {t u : Tmp} {g : Nat} {x y z : Value} (hres : fn.results = #[.cell t 39, .tmp u]) (hd : a.defers = [])
    (ht : a.tmps.getD t undef = .pointer (some ⟨g, 0, none⟩)) (hu : a.tmps.getD u undef = z) (hB : K2 w g x y) (hR : R (.returned (.tuple #[.agg #[x, y], z])) w) : bodyPost Try.prog fn R .ret a w := by
  obtain ⟨h1, h2, h3, h4, h5⟩ := hB
  rw [Array.getD_eq_getD_getElem?] at ht hu
  exact bodyPost_ret (by simp only [results, hres]; simp [go_sem, ht, hu, h1, h2]) hd hR
theorem fit_int (neg : Bool) (num den n : Int) (w : World) (h0 : 0 ≤ num) (hd : 0 < den) (h1 : num ≤ 9223372036854775808) (h2 : den ≤ 9223372036854775808) (hn : (if neg then -num else num) = n) :
    Calls Try.prog 81 #[.bool neg, .int .u64 num, .int .u64 den] w fun e w' => e = .returned (.tuple #[.agg #[.int .i64 (FE.of (mkF n den)).n, .int .i64 (FE.of (mkF n den)).d], .int .i64 (FE.of (mkF n den)).e]) ∧ Below w.heap.size w w' := by
  obtain ⟨a, rfl⟩ := Int.eq_ofNat_of_zero_le h0
  obtain ⟨b, rfl⟩ := Int.eq_ofNat_of_zero_le (Int.le_of_lt hd)
  subst hn
  exact fit_any neg a b w (by omega) (by omega) (by omega)
set_option maxRecDepth 100000 in
set_option maxHeartbeats 1000000 in
theorem fmake_any (n d : Int) (w : World) (hn : -4611686018427387904 ≤ n ∧ n ≤ 4611686018427387904) (hd : 0 < d ∧ d ≤ 4611686018427387904) :
    Calls Try.prog 38 #[.int .i64 n, .int .i64 d] w fun e w' => e = .returned (.tuple #[.agg #[.int .i64 (makeE n d).n, .int .i64 (makeE n d).d], .int .i64 (makeE n d).e]) ∧ Below w.heap.size w w' := by
  have hne : d ≠ 0 := by omega
  have HE : Hid (makeE n d = FE.of (mkF n d)) := Lib.hid (by unfold makeE; rw [if_neg hne])
  have hd0 : (d == 0) = false := by simpa using hne
  have hdn : decide (d < 0) = false := by simp; omega
  have HK : Hid (K2 (w.alloc (.cells #[.int .i64 0, .int .i64 0] 39)) w.heap.size (.int .i64 0) (.int .i64 0)) := Lib.hid (K2.new _ _ _ _)
  have HB : Hid (Below w.heap.size w (w.alloc (.cells #[.int .i64 0, .int .i64 0] 39))) := Lib.hid ((Below.refl _ _).alloc (Nat.le_refl _) _)
  have hk := HK.out
  obtain ⟨x1, x2⟩ := hn
  obtain ⟨x3, x4⟩ := hd
  by_cases h0 : n < 0
  all_goals
    refine calls_cps fun R hR => ?_
    have HR := Lib.hid hR
    clear hR
    go_enter Try.func38, Try.ntmps38
    go_wp2_with (first
      | (go_at_call 82; refine (abs_any _ _ (by omega) (by omega)).mono ?_; rintro e w' ⟨rfl, rfl⟩)
      | (go_at_call 81; refine (fit_int _ _ _ n _ (by omega) (by omega) (by omega) (by omega) (by first | (simp; done) | (simp; omega))).mono ?_; rintro e w3 ⟨rfl, hb3⟩; have HK3 := Lib.hid (K2.aft hb3 HK.out); have HB3 := Lib.hid (HB.out.trans (hb3.mono HB.out.size)); clear hb3; replace hk := HK3.out))
    have HDN : Hid ((d.natAbs : Int) = d) := Lib.hid (by omega)
    refine ret_B2t rfl rfl rfl rfl (K2.set HK3.out _ _) (HR.out _ _ ⟨?_, HB3.out.trans (below_set (Nat.le_refl _))⟩)
    rw [HE.out, HDN.out]
    rfl
abbrev encC (x : Cnt) : List Value := [.int .i64 x.p, .int .i64 x.c, .int .i64 x.m, .int .i64 x.r]
abbrev RdCn := Rd 4 encC
abbrev C4 (w : World) (b o : Nat) (x y z u : Value) : Prop := w.cell? ⟨b, o, none⟩ = some x ∧ w.cell? ⟨b, o + 1, none⟩ = some y ∧ w.cell? ⟨b, o + 2, none⟩ = some z ∧ w.cell? ⟨b, o + 3, none⟩ = some u
theorem RdCn.at4 {w : World} {lo hi : Nat} {A : Option Addr} {c : Nat} {l : List Cnt} (h : RdCn w lo hi (.slice A l.length c) l) {k : Nat} (hk : k < l.length) :
    ∃ b off, A = some ⟨b, off, none⟩ ∧ lo ≤ b ∧ b < hi ∧ C4 w b (off + k * 4) (.int .i64 (gti l k).p) (.int .i64 (gti l k).c) (.int .i64 (gti l k).m) (.int .i64 (gti l k).r) := by
  obtain ⟨b, off, hA, h1, h2, hc⟩ := Rd.at_ h (fun _ => rfl) (gti_get hk)
  exact ⟨b, off, hA, h1, h2, hc 0 _ rfl, hc 1 _ rfl, hc 2 _ rfl, hc 3 _ rfl⟩
def numOk (k : Int) : Bool := decide (0 ≤ k) && decide (k ≤ 1048576)
def cntOk (c : Cnt) : Bool := numOk c.p && numOk c.c && numOk c.m && numOk c.r
def addC (a b : Cnt) : Cnt := ⟨a.p + b.p, a.c + b.c, a.m + b.m, a.r + b.r⟩
/-- the sum of replays, if all are in bounds -/
def sumC : List Cnt → Cnt → Option Cnt
  | [], s => some s
  | c :: l, s => if cntOk c then sumC l (addC s c) else none
def fitF (s : Cnt) : FE := if s.c = 0 ∨ s.p = 0 then FE.err 10 else makeE (2 * (s.c * s.p) - s.m * s.p - s.r * s.c) (2 * (s.c * s.p))
def FitE (l : List Cnt) : FE := if 1000 < l.length then FE.err 1 else match sumC l ⟨0, 0, 0, 0⟩ with | none => FE.err 1 | some s => fitF s
/-- a sum of k replays -/
def Bd (k : Nat) (s : Cnt) : Prop := (0 ≤ s.p ∧ s.p ≤ 1048576 * k) ∧ (0 ≤ s.c ∧ s.c ≤ 1048576 * k) ∧ (0 ≤ s.m ∧ s.m ≤ 1048576 * k) ∧ (0 ≤ s.r ∧ s.r ≤ 1048576 * k)
theorem Bd.add {k : Nat} {s c : Cnt} (h : Bd k s) (hc : cntOk c = true) : Bd (k + 1) (addC s c) := by
  unfold cntOk numOk at hc
  simp only [Bool.and_eq_true, decide_eq_true_eq] at hc
  unfold Bd at h ⊢
  simp only [addC]
  omega

theorem cntOk_false {x : Cnt} {k : Nat} (hk : k < 4) (h : numOk (gti [x.p, x.c, x.m, x.r] k) = false) : cntOk x = false := by
  have e : k = 0 ∨ k = 1 ∨ k = 2 ∨ k = 3 := by omega
  rcases e with rfl | rfl | rfl | rfl <;> simp [gti] at h <;> simp [cntOk, h]
theorem cntOk_true {x : Cnt} (h : ∀ i, i < 4 → numOk (gti [x.p, x.c, x.m, x.r] i) = true) : cntOk x = true := by
  have h0 := h 0 (by omega)
  have h1 := h 1 (by omega)
  have h2 := h 2 (by omega)
  have h3 := h 3 (by omega)
  simp [gti] at h0 h1 h2 h3
  simp [cntOk, h0, h1, h2, h3]
set_option maxRecDepth 100000 in
set_option maxHeartbeats 4000000 in
theorem Fitness_any (l : List Cnt) (lo hi : Nat) (v : Value) (w : World) (hv : RdCn w lo hi v l) (hhi : hi ≤ w.heap.size) :
    Calls Try.prog 13 #[v] w fun e w' => e = .returned (.tuple #[.agg #[.int .i64 (FitE l).n, .int .i64 (FitE l).d], .int .i64 (FitE l).e]) ∧ Below w.heap.size w w' := by
  obtain ⟨A, c, rfl, hc, hm⟩ := hv.form
  have HV := Lib.hid hv
  clear hv
  have M : Hid (Mem [Loc.k2 w.heap.size (.int .i64 0) (.int .i64 0), Loc.bl w.heap.size w] (w.alloc (.cells #[.int .i64 0, .int .i64 0] 39))) := Lib.hid ⟨K2.new _ _ _ _, ⟨(Below.refl _ _).alloc (Nat.le_refl _) _, by simp⟩, True.intro⟩
  have hk2 := M.out.1
  refine calls_cps fun R hR => ?_
  have HR := Lib.hid hR
  clear hR
  go_enter Try.func13, Try.ntmps13
  by_cases h1000 : 1000 < l.length
  · have hd : decide ((1000 : Int) < l.length) = true := by simp; omega
    have HE : Hid (FitE l = FE.err 1) := Lib.hid (by unfold FitE; rw [if_pos h1000])
    go_wp2_with fail
    exact ret_B2t rfl rfl rfl rfl M.out.1 (HR.out _ _ ⟨by rw [HE.out]; rfl, M.out.2.1.1⟩)
  · have hd : decide ((1000 : Int) < l.length) = false := by simp; omega
    have HE : Hid (FitE l = match sumC l ⟨0, 0, 0, 0⟩ with | none => FE.err 1 | some s => fitF s) := Lib.hid (by unfold FitE; rw [if_neg h1000])
    have MS : Hid (Mem [Loc.k4f (w.heap.size + 1) (.int .i64 0) (.int .i64 0) (.int .i64 0) (.int .i64 0), Loc.k2 w.heap.size (.int .i64 0) (.int .i64 0), Loc.bl w.heap.size w] ((w.alloc (.cells #[.int .i64 0, .int .i64 0] 39)).alloc (.cells #[.int .i64 0, .int .i64 0, .int .i64 0, .int .i64 0] 29))) := Lib.hid ⟨by have := K4f.new (w.alloc (.cells #[.int .i64 0, .int .i64 0] 39)) (.int .i64 0) (.int .i64 0) (.int .i64 0) (.int .i64 0) 29; rw [World.size_alloc] at this; exact this, M.out.alloc _⟩
    go_wp2_with fail
    go_loopw [16, 6, 8] (fun v16 _ _ wr => ∃ (j : Nat) (s : Cnt), j ≤ l.length ∧ v16 = .int .i64 j ∧ Hid (sumC l ⟨0, 0, 0, 0⟩ = sumC (l.drop j) s) ∧ Hid (Bd j s) ∧ Hid (Mem [Loc.k4f (w.heap.size + 1) (.int .i64 s.p) (.int .i64 s.c) (.int .i64 s.m) (.int .i64 s.r), Loc.k2 w.heap.size (.int .i64 0) (.int .i64 0), Loc.bl w.heap.size w] wr)) (fun v16 _ _ _ => l.length - (intOf v16).toNat)
    case atStart => exact ⟨0, ⟨0, 0, 0, 0⟩, Nat.zero_le _, rfl, Lib.hid rfl, Lib.hid (by unfold Bd; simp), MS⟩
    case round =>
      clear M MS hk2
      obtain ⟨j, s, hj, rfl, HT, HB, M⟩ := hrel
      have hk2 := M.out.2.1
      have hks := M.out.1
      by_cases hlt : j < l.length
      · obtain ⟨bi, oi, rfl, _, _, hci⟩ := RdCn.at4 (HV.out.after M.out.2.2.1.1) hlt
        have HD : Hid (sumC l ⟨0, 0, 0, 0⟩ = if cntOk (gti l j) then sumC (l.drop (j + 1)) (addC s (gti l j)) else none) := Lib.hid (by rw [HT.out, drop_gti hlt]; rfl)
        clear HT
        obtain ⟨x, hx⟩ : ∃ x, gti l j = x := ⟨_, rfl⟩
        rw [hx] at hci HD
        clear hx
        have hzw := M.out.2.2.1.2
        obtain ⟨gx, hgx⟩ : ∃ g, wr.heap.size = g := ⟨_, rfl⟩
        have HGX := Lib.hid hgx
        have hgx1 : w.heap.size + 1 < gx := by have := hks.2.2.2.2.2.2.2.2; omega
        have M2 : Hid (Mem [Loc.rdI (gx + 1) (gx + 2) (.slice (some ⟨gx + 1, 0, none⟩) 4 4) [x.p, x.c, x.m, x.r], Loc.k4f gx (.int .i64 x.p) (.int .i64 x.c) (.int .i64 x.m) (.int .i64 x.r), Loc.k4f (w.heap.size + 1) (.int .i64 s.p) (.int .i64 s.c) (.int .i64 s.m) (.int .i64 s.r), Loc.k2 w.heap.size (.int .i64 0) (.int .i64 0), Loc.bl w.heap.size w] ((wr.alloc (.cells #[.int .i64 x.p, .int .i64 x.c, .int .i64 x.m, .int .i64 x.r] 29)).alloc (.cells #[.int .i64 x.p, .int .i64 x.c, .int .i64 x.m, .int .i64 x.r] 3))) := Lib.hid (by
          have h1 := Own.lit (enc := encI) (size := 1) (wr.alloc (.cells #[.int .i64 x.p, .int .i64 x.c, .int .i64 x.m, .int .i64 x.r] 29)) 3 (gx + 1) [x.p, x.c, x.m, x.r] #[.int .i64 x.p, .int .i64 x.c, .int .i64 x.m, .int .i64 x.r] 4 rfl rfl (by simp; omega) (by decide) (fun _ => rfl)
          simp only [World.size_alloc, hgx] at h1
          have h2 := K4f.new wr (.int .i64 x.p) (.int .i64 x.c) (.int .i64 x.m) (.int .i64 x.r) 29
          rw [hgx] at h2
          exact ⟨Own.rd h1, (Mem.alloc (l := [Loc.k4f gx _ _ _ _]) ⟨h2, True.intro⟩ _).1, (M.out.alloc _).alloc _⟩)
        clear M hgx
        go_wp2_with fail
        rw [HGX.out]
        go_loopw [30, 8] (fun v30 _ wr2 => ∃ k : Nat, k ≤ 4 ∧ v30 = .int .i64 k ∧ Hid (∀ i, i < k → numOk (gti [x.p, x.c, x.m, x.r] i) = true) ∧ Hid (Mem [Loc.rdI (gx + 1) (gx + 2) (.slice (some ⟨gx + 1, 0, none⟩) 4 4) [x.p, x.c, x.m, x.r], Loc.k4f gx (.int .i64 x.p) (.int .i64 x.c) (.int .i64 x.m) (.int .i64 x.r), Loc.k4f (w.heap.size + 1) (.int .i64 s.p) (.int .i64 s.c) (.int .i64 s.m) (.int .i64 s.r), Loc.k2 w.heap.size (.int .i64 0) (.int .i64 0), Loc.bl w.heap.size w] wr2)) (fun v30 _ _ => 4 - (intOf v30).toNat)
        case atStart => exact ⟨0, by omega, rfl, Lib.hid (fun i hi => absurd hi (by omega)), M2⟩
        case round =>
          clear M2 hci hk2 hks
          obtain ⟨k, hk4, rfl, HO, M⟩ := hrel
          have hk2 := M.out.2.2.2.1
          have hks := M.out.2.2.1
          have hkx := M.out.2.1
          by_cases hlk : k < 4
          · obtain ⟨bx, ox, hbx, _, _, hcx⟩ := RdI.at1 (l := [x.p, x.c, x.m, x.r]) M.out.1 (k := k) hlk
            injection hbx with hbx
            injection hbx with e1 e2
            subst e1 e2
            obtain ⟨X, hX⟩ : ∃ X, gti [x.p, x.c, x.m, x.r] k = X := ⟨_, rfl⟩
            have HX := Lib.hid hX
            rw [hX, Nat.zero_add] at hcx
            clear hX
            by_cases hn : X < 0
            · have hd1 : decide (X < 0) = true := by simpa using hn
              have HN : Hid (sumC l ⟨0, 0, 0, 0⟩ = none) := Lib.hid (by rw [HD.out, cntOk_false hlk (by rw [HX.out]; unfold numOk; simp; omega)]; rfl)
              go_wp2_with fail
              refine ret_B2t rfl rfl rfl rfl (K2.set M.out.2.2.2.1 _ _) (HR.out _ _ ⟨?_, (Mem.step (a' := Loc.k2 w.heap.size (.int .i64 0) (.int .i64 0)) M.out.2.2.2 (K2.set M.out.2.2.2.1 _ _) (Chg.set2 _ w.heap.size 0 1 _ _) (by (repeat' (first | exact True.intro | refine And.intro (fun k hk e => ?_) ?_)) <;> (first | exact e | ((try dsimp only [Loc.c1, Loc.c2, Loc.k1, Loc.k2, Loc.k3, Loc.k4, Loc.k6, Loc.fr, Loc.bl, Loc.own, Loc.sz, Loc.rd, Loc.rdI, Loc.rdS, Loc.rdM, Loc.rdT, Loc.ow, Loc.owI, Loc.owN, Loc.set, Loc.ns, Loc.cg, Loc.pb, silD, plD] at hk e) <;> omega)))).2.1.1⟩)
              rw [HE.out, HN.out]; rfl
            · have hd1 : decide (X < 0) = false := by simpa using hn
              by_cases hg : 1048576 < X
              · have hd2 : decide ((1048576 : Int) < X) = true := by simpa using hg
                have HN : Hid (sumC l ⟨0, 0, 0, 0⟩ = none) := Lib.hid (by rw [HD.out, cntOk_false hlk (by rw [HX.out]; unfold numOk; simp; omega)]; rfl)
                go_wp2_with fail
                refine ret_B2t rfl rfl rfl rfl (K2.set M.out.2.2.2.1 _ _) (HR.out _ _ ⟨?_, (Mem.step (a' := Loc.k2 w.heap.size (.int .i64 0) (.int .i64 0)) M.out.2.2.2 (K2.set M.out.2.2.2.1 _ _) (Chg.set2 _ w.heap.size 0 1 _ _) (by (repeat' (first | exact True.intro | refine And.intro (fun k hk e => ?_) ?_)) <;> (first | exact e | ((try dsimp only [Loc.c1, Loc.c2, Loc.k1, Loc.k2, Loc.k3, Loc.k4, Loc.k6, Loc.fr, Loc.bl, Loc.own, Loc.sz, Loc.rd, Loc.rdI, Loc.rdS, Loc.rdM, Loc.rdT, Loc.ow, Loc.owI, Loc.owN, Loc.set, Loc.ns, Loc.cg, Loc.pb, silD, plD] at hk e) <;> omega)))).2.1.1⟩)
                rw [HE.out, HN.out]; rfl
              · have hd2 : decide ((1048576 : Int) < X) = false := by simpa using hg
                have HOX : Hid (numOk X = true) := Lib.hid (by unfold numOk; simp; omega)
                go_wp2_with fail
                exact ⟨⟨k + 1, by omega, by go_num, Lib.hid (fun i hi => by
                  rcases Nat.lt_succ_iff_lt_or_eq.1 hi with h | rfl
                  · exact HO.out i h
                  · rw [HX.out]; exact HOX.out), M⟩, by simp [intOf]; omega⟩
          · obtain rfl : k = 4 := by omega
            have hok := cntOk_true HO.out
            have hbd := HB.out
            have HBN := Lib.hid (hbd.add hok)
            have HNX : Hid (sumC l ⟨0, 0, 0, 0⟩ = sumC (l.drop (j + 1)) (addC s x)) := Lib.hid (by rw [HD.out, hok]; rfl)
            have hb2 : (0 ≤ s.p ∧ s.p ≤ 1048576000) ∧ (0 ≤ s.c ∧ s.c ≤ 1048576000) ∧ (0 ≤ s.m ∧ s.m ≤ 1048576000) ∧ (0 ≤ s.r ∧ s.r ≤ 1048576000) ∧ (0 ≤ x.p ∧ x.p ≤ 1048576) ∧ (0 ≤ x.c ∧ x.c ≤ 1048576) ∧ (0 ≤ x.m ∧ x.m ≤ 1048576) ∧ (0 ≤ x.r ∧ x.r ≤ 1048576) := by
              unfold Bd at hbd
              unfold cntOk numOk at hok
              simp only [Bool.and_eq_true, decide_eq_true_eq] at hok
              omega
            clear hok hbd HD HO
            obtain ⟨⟨q1, q2⟩, ⟨q3, q4⟩, ⟨q5, q6⟩, ⟨q7, q8⟩, ⟨q9, q10⟩, ⟨q11, q12⟩, ⟨q13, q14⟩, ⟨q15, q16⟩⟩ := hb2
            go_wp2_with fail
            exact ⟨⟨j + 1, addC s x, by omega, by go_num, HNX, HBN, Lib.hid (Mem.step (a' := Loc.k4f (w.heap.size + 1) (.int .i64 (s.p + x.p)) (.int .i64 (s.c + x.c)) (.int .i64 (s.m + x.m)) (.int .i64 (s.r + x.r))) M.out.2.2 (K4f.set M.out.2.2.1 _ _ _ _) (Chg.set4 _ (w.heap.size + 1) _ _ _ _) (by (repeat' (first | exact True.intro | refine And.intro (fun k hk e => ?_) ?_)) <;> (first | exact e | ((try dsimp only [Loc.c1, Loc.c2, Loc.k1, Loc.k2, Loc.k3, Loc.k4, Loc.k6, Loc.fr, Loc.bl, Loc.own, Loc.sz, Loc.rd, Loc.rdI, Loc.rdS, Loc.rdM, Loc.rdT, Loc.ow, Loc.owI, Loc.owN, Loc.set, Loc.ns, Loc.cg, Loc.pb, silD, plD] at hk e) <;> omega))))⟩, by simp [intOf]; omega⟩
      · obtain rfl : j = l.length := by omega
        have hbd := HB.out
        have hb2 : (0 ≤ s.p ∧ s.p ≤ 1073741824) ∧ (0 ≤ s.c ∧ s.c ≤ 1073741824) ∧ (0 ≤ s.m ∧ s.m ≤ 1073741824) ∧ (0 ≤ s.r ∧ s.r ≤ 1073741824) := by unfold Bd at hbd; omega
        have HN : Hid (FitE l = fitF s) := Lib.hid (by rw [HE.out, HT.out, List.drop_length]; rfl)
        clear hbd HT HE
        obtain ⟨⟨q1, q2⟩, ⟨q3, q4⟩, ⟨q5, q6⟩, ⟨q7, q8⟩⟩ := hb2
        by_cases hc0 : s.c = 0
        · have hd1 : (s.c == 0) = true := by simpa using hc0
          have HF : Hid (fitF s = FE.err 10) := Lib.hid (by unfold fitF; rw [if_pos (.inl hc0)])
          clear hc0
          go_wp2_with fail
          refine ret_B2t rfl rfl rfl rfl (K2.set M.out.2.1 _ _) (HR.out _ _ ⟨?_, (Mem.step (a' := Loc.k2 w.heap.size (.int .i64 0) (.int .i64 0)) M.out.2 (K2.set M.out.2.1 _ _) (Chg.set2 _ w.heap.size 0 1 _ _) (by (repeat' (first | exact True.intro | refine And.intro (fun k hk e => ?_) ?_)) <;> (first | exact e | ((try dsimp only [Loc.c1, Loc.c2, Loc.k1, Loc.k2, Loc.k3, Loc.k4, Loc.k6, Loc.fr, Loc.bl, Loc.own, Loc.sz, Loc.rd, Loc.rdI, Loc.rdS, Loc.rdM, Loc.rdT, Loc.ow, Loc.owI, Loc.owN, Loc.set, Loc.ns, Loc.cg, Loc.pb, silD, plD] at hk e) <;> omega)))).2.1.1⟩)
          rw [HN.out, HF.out]; rfl
        · have hd1 : (s.c == 0) = false := by simpa using hc0
          by_cases hp0 : s.p = 0
          · have hd2 : (s.p == 0) = true := by simpa using hp0
            have HF : Hid (fitF s = FE.err 10) := Lib.hid (by unfold fitF; rw [if_pos (.inr hp0)])
            clear hp0 hc0
            go_wp2_with fail
            refine ret_B2t rfl rfl rfl rfl (K2.set M.out.2.1 _ _) (HR.out _ _ ⟨?_, (Mem.step (a' := Loc.k2 w.heap.size (.int .i64 0) (.int .i64 0)) M.out.2 (K2.set M.out.2.1 _ _) (Chg.set2 _ w.heap.size 0 1 _ _) (by (repeat' (first | exact True.intro | refine And.intro (fun k hk e => ?_) ?_)) <;> (first | exact e | ((try dsimp only [Loc.c1, Loc.c2, Loc.k1, Loc.k2, Loc.k3, Loc.k4, Loc.k6, Loc.fr, Loc.bl, Loc.own, Loc.sz, Loc.rd, Loc.rdI, Loc.rdS, Loc.rdM, Loc.rdT, Loc.ow, Loc.owI, Loc.owN, Loc.set, Loc.ns, Loc.cg, Loc.pb, silD, plD] at hk e) <;> omega)))).2.1.1⟩)
            rw [HN.out, HF.out]; rfl
          · have hd2 : (s.p == 0) = false := by simpa using hp0
            have HF : Hid (fitF s = makeE (2 * (s.c * s.p) - s.m * s.p - s.r * s.c) (2 * (s.c * s.p))) := Lib.hid (by unfold fitF; rw [if_neg (by omega)])
            have hm1 := mul_bd' s.c s.p (by omega) q4 (by omega) q2
            have hm2 := mul_bd' s.m s.p (by omega) q6 (by omega) q2
            have hm3 := mul_bd' s.r s.c (by omega) q8 (by omega) q4
            have hpos : 0 < s.c * s.p := Int.mul_pos (by omega) (by omega)
            obtain ⟨P1, hP1⟩ : ∃ P, s.c * s.p = P := ⟨_, rfl⟩
            obtain ⟨P2, hP2⟩ : ∃ P, s.m * s.p = P := ⟨_, rfl⟩
            obtain ⟨P3, hP3⟩ : ∃ P, s.r * s.c = P := ⟨_, rfl⟩
            have hw1 : wrap64 (s.c * s.p) = P1 := by rw [hP1]; rw [hP1] at hm1; exact IntWalk.wrap64_in _ (by omega)
            have hw2 : wrap64 (s.m * s.p) = P2 := by rw [hP2]; rw [hP2] at hm2; exact IntWalk.wrap64_in _ (by omega)
            have hw3 : wrap64 (s.r * s.c) = P3 := by rw [hP3]; rw [hP3] at hm3; exact IntWalk.wrap64_in _ (by omega)
            rw [hP1, hP2, hP3] at HF
            rw [hP1] at hm1 hpos
            rw [hP2] at hm2
            rw [hP3] at hm3
            clear hP1 hP2 hP3
            have HMK := Lib.hid (fun W => fmake_any (2 * P1 - P2 - P3) (2 * P1) W (by omega) (by omega))
            go_wp2_with (go_at_call 38; refine (HMK.out _).mono ?_; rintro e w5 ⟨rfl, hb5⟩; replace M := Lib.hid (M.out.below hb5); clear hb5; replace hk2 := M.out.2.1)
            refine ret_B2t rfl rfl rfl rfl (K2.set M.out.2.1 _ _) (HR.out _ _ ⟨?_, (Mem.step (a' := Loc.k2 w.heap.size _ _) M.out.2 (K2.set M.out.2.1 _ _) (Chg.set2 _ w.heap.size 0 1 _ _) (by (repeat' (first | exact True.intro | refine And.intro (fun k hk e => ?_) ?_)) <;> (first | exact e | ((try dsimp only [Loc.c1, Loc.c2, Loc.k1, Loc.k2, Loc.k3, Loc.k4, Loc.k6, Loc.fr, Loc.bl, Loc.own, Loc.sz, Loc.rd, Loc.rdI, Loc.rdS, Loc.rdM, Loc.rdT, Loc.ow, Loc.owI, Loc.owN, Loc.set, Loc.ns, Loc.cg, Loc.pb, silD, plD] at hk e) <;> omega)))).2.1.1⟩)
            rw [HN.out, HF.out]
            rfl
end Go.Proofs.Ytmhbfoaecebobaa
end
section
namespace Go.Proofs.Ytmhbfoaecebobaa
set_option linter.unusedSimpArgs false
set_option linter.unusedVariables false
open Go.RowKit

def inS (n : Net) : List Int → Int
  | [] => 0
  | t :: l => (gti n.trans t.toNat).inn.length + inS n l
def outS (n : Net) : List Int → Int
  | [] => 0
  | t :: l => (gti n.trans t.toNat).out.length + outS n l
theorem inS_snoc (n : Net) (t : Int) : ∀ l, inS n (l ++ [t]) = inS n l + (gti n.trans t.toNat).inn.length
  | [] => by simp [inS]
  | a :: l => by rw [List.cons_append, inS, inS, inS_snoc n t l]; omega
theorem outS_snoc (n : Net) (t : Int) : ∀ l, outS n (l ++ [t]) = outS n l + (gti n.trans t.toNat).out.length
  | [] => by simp [outS]
  | a :: l => by rw [List.cons_append, outS, outS, outS_snoc n t l]; omega
/-- the activities that no transition has -/
def PC (n : Net) (s : Pl) : Prop := ∃ u : Int, 0 ≤ u ∧ s.c.c = u + inS n s.run ∧ s.c.p = 1 + u + outS n s.run
theorem PC.take {n : Net} {s : Pl} (h : PC n s) (t : Int) : PC n (takeP n t s) := by
  obtain ⟨u, h0, h1, h2⟩ := h
  obtain ⟨e1, e2, e3, e4⟩ := takeP_c n t s
  refine ⟨u, h0, ?_, ?_⟩
  · rw [e1, e4, inS_snoc]; omega
  · rw [e2, e4, outS_snoc]; omega
theorem PC.all {n : Net} : ∀ {l : List Int} {s : Pl}, PC n s → PC n (takeAll n l s)
  | [], s, h => h
  | t :: l, s, h => PC.all (l := l) (s := takeP n t s) (h.take t)
theorem PC.play {n : Net} {s : Pl} (h : PC n s) (act : ByteArray) : PC n (playE n act s) := by
  unfold playE
  split
  · exact h.all.take _
  · split
    · exact h.take _
    · obtain ⟨u, h0, h1, h2⟩ := h
      exact ⟨u + 1, by omega, by simp only; omega, by simp only; omega⟩
end Go.Proofs.Ytmhbfoaecebobaa
end
section
namespace Go.Proofs.Ytmhbfoaecebobaa
set_option linter.unusedSimpArgs false
set_option linter.unusedVariables false
open Go.RowKit

/-- a list, returned: it lies in new memory -/
def RetL (w : World) (l : List Int) (e : Ending) (w' : World) : Prop :=
  ∃ A c, e = .returned (.slice A l.length c) ∧ RdI w' w.heap.size w'.heap.size (.slice A l.length c) l ∧ Below w.heap.size w w'
theorem RetL.mk {w w' : World} {l : List Int} {n k : Nat} {A : Option Addr} (hn : n = l.length) {lo hi : Nat} (hr : RdI w' lo hi (.slice A n k) l) (hlo : w.heap.size ≤ lo) (hhi : hi ≤ w'.heap.size) (hb : Below w.heap.size w w') : RetL w l (.returned (.slice A n k)) w' := by
  subst hn
  exact ⟨A, k, rfl, hr.mono hlo hhi, hb⟩

/-- two lists of one length, equal or not, element by element -/
def eqLs {α : Type} [DecidableEq α] : List α → List α → Bool
  | [], [] => true
  | x :: a, y :: b => if x = y then eqLs a b else false
  | _, _ => false
theorem eqLs_iff {α : Type} [DecidableEq α] : ∀ a b : List α, eqLs a b = decide (a = b)
  | [], [] => rfl
  | [], _ :: _ => by simp [eqLs]
  | _ :: _, [] => by simp [eqLs]
  | x :: a, y :: b => by
    rw [eqLs, eqLs_iff a b]
    by_cases h : x = y <;> simp [h]
theorem eqLs_len {α : Type} [DecidableEq α] {a b : List α} (h : a.length ≠ b.length) : decide (a = b) = false := by
  simp
  intro e
  exact h (by rw [e])

set_option maxHeartbeats 1000000 in
theorem equalI_any (a b : List Int) (lo hi lo2 hi2 : Nat) (v1 v2 : Value) (w : World) (h1 : RdI w lo hi v1 a) (h2 : RdI w lo2 hi2 v2 b) :
    Calls Try.prog 12 #[v1, v2] w fun e w' => e = .returned (.bool (decide (a = b))) ∧ Below w.heap.size w w' := by
  obtain ⟨A1, c1, rfl, hc1, hm1⟩ := h1.form
  obtain ⟨A2, c2, rfl, hc2, hm2⟩ := h2.form
  have H1 := Lib.hid h1
  have H2 := Lib.hid h2
  clear h1 h2
  refine calls_cps fun R hR => ?_
  have HR := Lib.hid hR
  clear hR
  go_enter Try.func12, Try.ntmps12
  by_cases hl : a.length = b.length
  · have hl' : (a.length : Int) = b.length := by omega
    have HL := Lib.hid hl
    clear hl
    go_wp2_with fail
    go_loopw [13, 5] (fun v13 _ wr => ∃ (k q : Nat), k ≤ a.length ∧ v13 = .int .i64 k ∧ wr = w.drewN q ∧ Hid (decide (a = b) = eqLs (a.drop k) (b.drop k))) (fun v13 _ _ => a.length - (intOf v13).toNat)
    case atStart => exact ⟨0, 0, by omega, rfl, rfl, Lib.hid (by rw [← eqLs_iff]; rfl)⟩
    case round =>
      obtain ⟨k, q, hk, rfl, rfl, HI⟩ := hrel
      by_cases hlt : k < a.length
      · have hkd : decide ((k : Int) < (a.length : Int)) = true := by simp; omega
        have hkb : (k : Int) < (a.length : Int) := by omega
        have hkc : (k : Int) < (b.length : Int) := by omega
        obtain ⟨b1, o1, rfl, _, _, f1⟩ := RdI.at1 H1.out hlt
        obtain ⟨b2, o2, rfl, _, _, f2⟩ := RdI.at1 H2.out (k := k) (by have := HL.out; omega)
        have HJ : Hid (decide (a = b) = if gti a k = gti b k then eqLs (a.drop (k + 1)) (b.drop (k + 1)) else false) := Lib.hid (by rw [HI.out, drop_gti hlt, drop_gti (l := b) (k := k) (by have := HL.out; omega), eqLs])
        generalize gti a k = x at *
        generalize gti b k = y at *
        go_wp2
        go_quiet (fail)
        go_wp2
        all_goals have hj := HJ.out
        · refine HR.out _ _ ⟨ret_bool ?_, below_drewN (below_drewN (Below.refl _ _) _) _⟩
          clear HJ HI; go_light; grind
        all_goals first
          | (refine ⟨⟨k + 1, q + nq, by omega, by go_num, by first | rfl | rw [World.drewN_drewN], Lib.hid (by clear HJ HI; go_light; grind)⟩, by simp [intOf]; omega⟩)
      · have hkd : decide ((k : Int) < (a.length : Int)) = false := by simp; omega
        have HE : Hid (decide (a = b) = true) := Lib.hid (by rw [HI.out, List.drop_eq_nil_of_le (by omega), List.drop_eq_nil_of_le (by have := HL.out; omega)]; rfl)
        clear HI
        go_wp2
        exact HR.out _ _ ⟨ret_bool HE.out.symm, below_drewN (Below.refl _ _) _⟩
  · have hl' : ¬ (a.length : Int) = b.length := by omega
    have HL := Lib.hid hl
    clear hl
    go_wp2_with fail
    exact HR.out _ _ ⟨ret_bool (eqLs_len HL.out).symm, Below.refl _ _⟩

end Go.Proofs.Ytmhbfoaecebobaa
end
section
namespace Go.Proofs.Ytmhbfoaecebobaa
set_option linter.unusedSimpArgs false
set_option linter.unusedVariables false
open Go.RowKit

theorem Rd.of_cells {α : Type} {size : Nat} {enc : α → List Value} {W : World} {b : Nat} {l : List α} (he : ∀ a, (enc a).length = size) (hm : l.length ≤ maxLen) (h : ∀ j u, (l.flatMap enc)[j]? = some u → W.cell? ⟨b, j, none⟩ = some u) (n : Nat) (hn : n = l.length) (hi : Nat) (hb : b < hi) :
    Rd size enc W 0 hi (.slice (some ⟨b, 0, none⟩) n n) l := by
  subst hn
  exact ⟨flatMap_len he l, _, _, rfl, Nat.le_refl _, hm, fun _ => ⟨b, 0, rfl, Nat.zero_le _, hb, fun j u hu => by rw [Nat.zero_add]; exact h j u hu⟩⟩
theorem get1 {x0 : Value} {P : Nat → Value → Prop} (h0 : P 0 x0) : ∀ j u, [x0][j]? = some u → P j u := by
  intro j u hu
  match j, hu with
  | 0, hu => simp at hu; exact hu ▸ h0
  | j + 1, hu => simp at hu
theorem rdI_one {W : World} {b hi : Nat} {x : Int} (h : W.cell? ⟨b, 0, none⟩ = some (.int .i64 x)) (hb : b < hi) : RdI W 0 hi (.slice (some ⟨b, 0, none⟩) 1 1) [x] :=
  Rd.of_cells (enc := encI) (l := [x]) (fun _ => rfl) (by simp [maxLen]) (get1 (P := fun j u => W.cell? ⟨b, j, none⟩ = some u) h) 1 rfl hi hb

theorem RdS.lit1 (W : World) (a : ByteArray) (t : TypeId) : RdS (W.alloc (.cells #[.string a] t)) 0 (W.heap.size + 1) (.slice (some ⟨W.heap.size, 0, none⟩) 1 1) [a] := Rd.lit W t [a] _ 1 rfl rfl (by decide) (fun _ => rfl)
theorem RdS.lit2 (W : World) (a b : ByteArray) (t : TypeId) : RdS (W.alloc (.cells #[.string a, .string b] t)) 0 (W.heap.size + 1) (.slice (some ⟨W.heap.size, 0, none⟩) 2 2) [a, b] := Rd.lit W t [a, b] _ 2 rfl rfl (by decide) (fun _ => rfl)
theorem get6 {x0 x1 x2 x3 x4 x5 : Value} {P : Nat → Value → Prop} (h0 : P 0 x0) (h1 : P 1 x1) (h2 : P 2 x2) (h3 : P 3 x3) (h4 : P 4 x4) (h5 : P 5 x5) : ∀ j u, [x0, x1, x2, x3, x4, x5][j]? = some u → P j u := by
  intro j u hu
  match j, hu with
  | 0, hu => simp at hu; exact hu ▸ h0
  | 1, hu => simp at hu; exact hu ▸ h1
  | 2, hu => simp at hu; exact hu ▸ h2
  | 3, hu => simp at hu; exact hu ▸ h3
  | 4, hu => simp at hu; exact hu ▸ h4
  | 5, hu => simp at hu; exact hu ▸ h5
  | j + 6, hu => simp at hu
theorem RdS.lit2E (W : World) (a b : ByteArray) (t : TypeId) (g hi : Nat) (hg : W.heap.size = g) (hh : g + 1 ≤ hi) : RdS (W.alloc (.cells #[.string a, .string b] t)) 0 hi (.slice (some ⟨g, 0, none⟩) 2 2) [a, b] := by
  subst hg
  exact (RdS.lit2 W a b t).mono (Nat.le_refl _) hh
theorem RdS.lit1E (W : World) (a : ByteArray) (t : TypeId) (g hi : Nat) (hg : W.heap.size = g) (hh : g + 1 ≤ hi) : RdS (W.alloc (.cells #[.string a] t)) 0 hi (.slice (some ⟨g, 0, none⟩) 1 1) [a] := by
  subst hg
  exact (RdS.lit1 W a t).mono (Nat.le_refl _) hh
theorem RdCn.lit1E (W : World) (a : Cnt) (t : TypeId) (g hi : Nat) (hg : W.heap.size = g) (hh : g + 1 ≤ hi) : RdCn (W.alloc (.cells #[.int .i64 a.p, .int .i64 a.c, .int .i64 a.m, .int .i64 a.r] t)) 0 hi (.slice (some ⟨g, 0, none⟩) 1 1) [a] := by
  subst hg
  exact (Rd.lit W t [a] _ 1 rfl rfl (by decide) (fun _ => rfl)).mono (Nat.le_refl _) hh
def exTr : List Tr := [⟨⟨#[97]⟩, [0], [1]⟩, ⟨⟨#[98]⟩, [1], [2]⟩]
def exNet : Net := ⟨3, exTr, 0, 2⟩
theorem ex_wf : Wf exNet := by
  have h0 : Rch exNet false 0 0 := .start
  have h1 : Rch exNet false 0 1 := .step (i := 0) (p := 0) (q := 1) (by decide) (by decide) h0 (by decide)
  have h2 : Rch exNet false 0 2 := .step (i := 1) (p := 1) (q := 2) (by decide) (by decide) h1 (by decide)
  have k2 : Rch exNet true 2 2 := .start
  have k1 : Rch exNet true 2 1 := .step (i := 1) (p := 2) (q := 1) (by decide) (by decide) k2 (by decide)
  have k0 : Rch exNet true 2 0 := .step (i := 0) (p := 1) (q := 0) (by decide) (by decide) k1 (by decide)
  refine ⟨by decide +kernel, by decide, ?_, ?_, ?_⟩
  · intro i hi
    match i, hi with
    | 0, _ => exact ⟨by decide, by decide⟩
    | 1, _ => exact ⟨by decide, by decide⟩
    | i + 2, hi => exact absurd hi (by simp [exNet, exTr])
  · intro back p hp
    match p, hp with
    | 0, _ => cases back; exact h0; exact k0
    | 1, _ => cases back; exact h1; exact k1
    | 2, _ => cases back; exact h2; exact k2
    | p + 3, hp => exact absurd hp (by simp [exNet])
  · intro back i hi
    match i, hi with
    | 0, _ => cases back; exact ⟨0, by decide, h0⟩; exact ⟨1, by decide, k1⟩
    | 1, _ => cases back; exact ⟨1, by decide, h1⟩; exact ⟨2, by decide, k2⟩
    | i + 2, hi => exact absurd hi (by simp [exNet, exTr])
theorem ex_play1 : PlayE exNet [⟨#[97]⟩, ⟨#[98]⟩] = (⟨3, 3, 0, 0⟩, [0, 1], 0) := by
  have h : endE exNet (playL exNet [⟨#[97]⟩, ⟨#[98]⟩] (pl0 exNet)) = (⟨3, 3, 0, 0⟩, [0, 1], 0) := by decide +kernel
  have ha : allN [⟨#[97]⟩, ⟨#[98]⟩] = true := by decide +kernel
  unfold PlayE
  rw [wfB_true ex_wf, ha, if_neg (by decide), if_neg (by decide), h]
theorem ex_play2 : ∃ run, PlayE exNet [⟨#[98]⟩] = (⟨2, 2, 1, 1⟩, run, 0) := by
  have h : endE exNet (playL exNet [⟨#[98]⟩] (pl0 exNet)) = (⟨2, 2, 1, 1⟩, [1], 0) := by decide +kernel
  have ha : allN [⟨#[98]⟩] = true := by decide +kernel
  refine ⟨[1], ?_⟩
  unfold PlayE
  rw [wfB_true ex_wf, ha, if_neg (by decide), if_neg (by decide), h]
theorem ex_fit : FitE [⟨2, 2, 1, 1⟩] = ⟨1, 2, 0⟩ := by
  have h : (fitF ⟨2, 2, 1, 1⟩).n = 1 ∧ (fitF ⟨2, 2, 1, 1⟩).d = 2 ∧ (fitF ⟨2, 2, 1, 1⟩).e = 0 := by decide +kernel
  have h2 : FitE [⟨2, 2, 1, 1⟩] = fitF ⟨2, 2, 1, 1⟩ := by unfold FitE; rw [if_neg (by decide)]; rfl
  rw [h2]
  obtain ⟨h1, h3, h4⟩ := h
  generalize fitF ⟨2, 2, 1, 1⟩ = x at *
  obtain ⟨a, b, c⟩ := x
  simp only at h1 h3 h4
  rw [h1, h3, h4]
theorem play_ex1 (W : World) (vt v : Value) (lo hi lo' hi' : Nat) (hv : RdT W lo hi vt exTr) (hw : RdS W lo' hi' v [⟨#[97]⟩, ⟨#[98]⟩]) (h1 : hi ≤ W.heap.size) (h2 : hi' ≤ W.heap.size) :
    Calls Try.prog 10 #[.agg #[.int .i64 3, vt, .int .i64 0, .int .i64 2], v] W fun e w' => ∃ A k, e = .returned (.tuple #[.agg #[.int .i64 3, .int .i64 3, .int .i64 0, .int .i64 0], .slice A 2 k, .int .i64 0]) ∧ RdI w' W.heap.size w'.heap.size (.slice A 2 k) [0, 1] ∧ Below W.heap.size W w' := by
  have h := Play_any exNet [⟨#[97]⟩, ⟨#[98]⟩] vt v lo hi lo' hi' W hv hw h1 h2
  rw [ex_play1] at h
  exact h
theorem play_ex2 (W : World) (vt v : Value) (lo hi lo' hi' : Nat) (hv : RdT W lo hi vt exTr) (hw : RdS W lo' hi' v [⟨#[98]⟩]) (h1 : hi ≤ W.heap.size) (h2 : hi' ≤ W.heap.size) :
    Calls Try.prog 10 #[.agg #[.int .i64 3, vt, .int .i64 0, .int .i64 2], v] W fun e w' => ∃ A n k, e = .returned (.tuple #[.agg #[.int .i64 2, .int .i64 2, .int .i64 1, .int .i64 1], .slice A n k, .int .i64 0]) ∧ Below W.heap.size W w' := by
  have h := Play_any exNet [⟨#[98]⟩] vt v lo hi lo' hi' W hv hw h1 h2
  obtain ⟨run, hr⟩ := ex_play2
  rw [hr] at h
  refine h.mono ?_
  rintro e w' ⟨A, k, h1, _, h3⟩
  exact ⟨A, run.length, k, h1, h3⟩
theorem fit_ex (W : World) (v : Value) (lo hi : Nat) (hv : RdCn W lo hi v [⟨2, 2, 1, 1⟩]) (h1 : hi ≤ W.heap.size) :
    Calls Try.prog 13 #[v] W fun e w' => e = .returned (.tuple #[.agg #[.int .i64 1, .int .i64 2], .int .i64 0]) ∧ Below W.heap.size W w' := by
  have h := Fitness_any [⟨2, 2, 1, 1⟩] lo hi v W hv h1
  rw [ex_fit] at h
  exact h
theorem exRdT {W : World} {g hi : Nat} (hi6 : g + 4 < hi)
    (h0 : W.cell? ⟨g, 0, none⟩ = some (.int .i64 0)) (h1 : W.cell? ⟨g + 1, 0, none⟩ = some (.int .i64 1)) (h2 : W.cell? ⟨g + 2, 0, none⟩ = some (.int .i64 1)) (h3 : W.cell? ⟨g + 3, 0, none⟩ = some (.int .i64 2))
    (c0 : W.cell? ⟨g + 4, 0, none⟩ = some (.string ⟨#[97]⟩)) (c1 : W.cell? ⟨g + 4, 1, none⟩ = some (.slice (some ⟨g, 0, none⟩) 1 1)) (c2 : W.cell? ⟨g + 4, 2, none⟩ = some (.slice (some ⟨g + 1, 0, none⟩) 1 1))
    (c3 : W.cell? ⟨g + 4, 3, none⟩ = some (.string ⟨#[98]⟩)) (c4 : W.cell? ⟨g + 4, 4, none⟩ = some (.slice (some ⟨g + 2, 0, none⟩) 1 1)) (c5 : W.cell? ⟨g + 4, 5, none⟩ = some (.slice (some ⟨g + 3, 0, none⟩) 1 1)) :
    RdT W 0 hi (.slice (some ⟨g + 4, 0, none⟩) 2 2) exTr := by
  refine ⟨[⟨⟨#[97]⟩, .slice (some ⟨g, 0, none⟩) 1 1, .slice (some ⟨g + 1, 0, none⟩) 1 1⟩, ⟨⟨#[98]⟩, .slice (some ⟨g + 2, 0, none⟩) 1 1, .slice (some ⟨g + 3, 0, none⟩) 1 1⟩], ?_, rfl, ?_⟩
  · exact Rd.of_cells (enc := encV) (l := [_, _]) (fun _ => rfl) (by simp [maxLen]) (get6 (P := fun j u => W.cell? ⟨g + 4, j, none⟩ = some u) c0 c1 c2 c3 c4 c5) 2 rfl hi hi6
  · intro k hk
    match k, hk with
    | 0, _ => exact ⟨rfl, rdI_one h0 (by omega), rdI_one h1 (by omega)⟩
    | 1, _ => exact ⟨rfl, rdI_one h2 (by omega), rdI_one h3 (by omega)⟩
    | k + 2, hk => exact absurd hk (by simp [exTr])
set_option maxRecDepth 100000 in
set_option maxHeartbeats 4000000 in
theorem exMem (w : World) : Mem [Loc.rdT 0 (w.heap.size + 5) (.slice (some ⟨w.heap.size + 4, 0, none⟩) 2 2) exTr, Loc.k4 (w.heap.size + 5) (.int .i64 3) (.slice (some ⟨w.heap.size + 4, 0, none⟩) 2 2) (.int .i64 0) (.int .i64 2), Loc.bl w.heap.size w]
    ((((((w.alloc (Obj.cells #[Value.int IntKind.i64 0] 3)).alloc (Obj.cells #[Value.int IntKind.i64 1] 3)).alloc
                              (Obj.cells #[Value.int IntKind.i64 1] 3)).alloc
                          (Obj.cells #[Value.int IntKind.i64 2] 3)).alloc
                  (Obj.cells
                    #[Value.string { data := #[97] }, Value.slice (some { block := w.heap.size, off := 0 }) 1 1,
                      Value.slice (some { block := w.heap.size + 1, off := 0 }) 1 1, Value.string { data := #[98] },
                      Value.slice (some { block := w.heap.size + 1 + 1, off := 0 }) 1 1,
                      Value.slice (some { block := w.heap.size + 1 + 1 + 1, off := 0 }) 1 1]
                    46)).alloc
              (Obj.cells
                #[Value.int IntKind.i64 3,
                  Value.slice (some { block := w.heap.size + 1 + 1 + 1 + 1, off := 0 }) 2 2,
                  Value.int IntKind.i64 0, Value.int IntKind.i64 2]
                24)) := by
  refine ⟨exRdT (by omega) ?_ ?_ ?_ ?_ ?_ ?_ ?_ ?_ ?_ ?_, ⟨?_, ?_, ?_, ?_, ?_⟩, ⟨?_, ?_⟩, True.intro⟩
  all_goals first
    | (simp [go_sem]; done)
    | (simp [go_sem]; omega)
    | (repeat (first | exact Below.refl _ _ | assumption | refine Below.setCell ?_ (by first | omega | (simp; done) | (simp; omega)) _ | refine Below.alloc ?_ (by first | omega | (simp; done) | (simp; omega)) _ | refine Below.drew ?_ | refine below_drewN ?_ _))

set_option maxRecDepth 100000 in
set_option maxHeartbeats 4000000 in
theorem awake_any (w : World) :
    Calls Try.prog 8 #[] w fun e w' => e = .returned (.bool true) ∧ Below w.heap.size w w' := by
  refine calls_cps fun R hR => ?_
  have HR := Lib.hid hR
  clear hR
  go_enter Try.func8, Try.ntmps8
  have M := Lib.hid (exMem w)
  have hk4 := M.out.2.1
  go_wp2_with fail
  refine Calls.mono (play_ex1 _ _ _ 0 (w.heap.size + 5) 0 (w.heap.size + 7) (M.out.1.after ((Below.refl _ _).alloc (Nat.le_refl _) _)) (RdS.lit2E _ _ _ _ _ _ (by simp) (by omega)) (by simp only [World.size_alloc]; omega) (by simp only [World.size_alloc]; omega)) ?_
  rintro e w1 ⟨A1, k1, rfl, hr1, hb1⟩
  have M1 : Hid (Mem [Loc.rdT 0 (w.heap.size + 5) (.slice (some ⟨w.heap.size + 4, 0, none⟩) 2 2) exTr, Loc.k4 (w.heap.size + 5) (.int .i64 3) (.slice (some ⟨w.heap.size + 4, 0, none⟩) 2 2) (.int .i64 0) (.int .i64 2), Loc.bl w.heap.size w] w1) := Lib.hid ((M.out.alloc _).below hb1)
  have HR1 := Lib.hid hr1
  have hz1 := hb1.size
  simp only [World.size_alloc] at hz1
  clear M hb1 hr1
  replace hk4 := M1.out.2.1
  go_wp2_with fail
  have M2 : Hid (Mem [Loc.k4 w1.heap.size (.int .i64 3) (.int .i64 3) (.int .i64 0) (.int .i64 0), Loc.rdT 0 (w.heap.size + 5) (.slice (some ⟨w.heap.size + 4, 0, none⟩) 2 2) exTr, Loc.k4 (w.heap.size + 5) (.int .i64 3) (.slice (some ⟨w.heap.size + 4, 0, none⟩) 2 2) (.int .i64 0) (.int .i64 2), Loc.bl w.heap.size w] ((w1.alloc (.cells #[.int .i64 3, .int .i64 3, .int .i64 0, .int .i64 0] 29)).alloc (.cells #[.string ⟨#[98]⟩] 9))) := Lib.hid ⟨(Mem.alloc (l := [Loc.k4 w1.heap.size _ _ _ _]) ⟨K4.new _ _ _ _ _ _, True.intro⟩ _).1, (M1.out.alloc _).alloc _⟩
  have HR2 := Lib.hid (HR1.out.after (((Below.refl w1.heap.size w1).alloc (Nat.le_refl _) (.cells #[.int .i64 3, .int .i64 3, .int .i64 0, .int .i64 0] 29)).alloc (by simp) (.cells #[.string ⟨#[98]⟩] 9)))
  clear M1 HR1
  obtain ⟨g1, hg1⟩ : ∃ g, w1.heap.size = g := ⟨_, rfl⟩
  refine Calls.mono (play_ex2 _ _ _ 0 (w.heap.size + 5) 0 (w1.heap.size + 2) M2.out.2.1 (RdS.lit1E _ _ _ _ _ (by simp) (by omega)) (by simp only [World.size_alloc]; omega) (by simp only [World.size_alloc]; omega)) ?_
  rintro e w2 ⟨A2, n2, k2, rfl, hb2⟩
  replace M2 := Lib.hid (M2.out.below hb2)
  replace HR2 := Lib.hid (HR2.out.after hb2)
  have hz2 := hb2.size
  simp only [World.size_alloc] at hz2
  rw [hg1] at M2 hz2
  rw [hg1]
  clear hb2
  replace hk4 := M2.out.2.2.1
  have hkx := M2.out.1
  go_wp2_with fail
  have M3 : Hid (Mem [Loc.k4 w2.heap.size (.int .i64 2) (.int .i64 2) (.int .i64 1) (.int .i64 1), Loc.k4 g1 (.int .i64 3) (.int .i64 3) (.int .i64 0) (.int .i64 0), Loc.rdT 0 (w.heap.size + 5) (.slice (some ⟨w.heap.size + 4, 0, none⟩) 2 2) exTr, Loc.k4 (w.heap.size + 5) (.int .i64 3) (.slice (some ⟨w.heap.size + 4, 0, none⟩) 2 2) (.int .i64 0) (.int .i64 2), Loc.bl w.heap.size w] ((w2.alloc (.cells #[.int .i64 2, .int .i64 2, .int .i64 1, .int .i64 1] 29)).alloc (.cells #[.int .i64 2, .int .i64 2, .int .i64 1, .int .i64 1] 29))) := Lib.hid ⟨(Mem.alloc (l := [Loc.k4 w2.heap.size _ _ _ _]) ⟨K4.new _ _ _ _ _ _, True.intro⟩ _).1, (M2.out.alloc _).alloc _⟩
  have HR3 := Lib.hid (HR2.out.after (((Below.refl w2.heap.size w2).alloc (Nat.le_refl _) (.cells #[.int .i64 2, .int .i64 2, .int .i64 1, .int .i64 1] 29)).alloc (by simp) (.cells #[.int .i64 2, .int .i64 2, .int .i64 1, .int .i64 1] 29)))
  clear M2 HR2 hkx
  obtain ⟨g2, hg2⟩ : ∃ g, w2.heap.size = g := ⟨_, rfl⟩
  refine Calls.mono (fit_ex _ _ 0 (w2.heap.size + 2) (RdCn.lit1E _ ⟨2, 2, 1, 1⟩ _ _ _ (by simp) (by omega)) (by simp only [World.size_alloc]; omega)) ?_
  rintro e w3 ⟨rfl, hb3⟩
  replace M3 := Lib.hid (M3.out.below hb3)
  replace HR3 := Lib.hid (HR3.out.after hb3)
  have hz3 := hb3.size
  simp only [World.size_alloc] at hz3
  rw [hg2] at M3 hz3
  rw [hg2]
  clear hb3
  replace hk4 := M3.out.2.2.2.1
  have hkx := M3.out.2.1
  have hky := M3.out.1
  go_wp2_with fail
  have M4 : Hid (Mem [Loc.k2 w3.heap.size (.int .i64 1) (.int .i64 2), Loc.k4 g2 (.int .i64 2) (.int .i64 2) (.int .i64 1) (.int .i64 1), Loc.k4 g1 (.int .i64 3) (.int .i64 3) (.int .i64 0) (.int .i64 0), Loc.bl w.heap.size w] ((w3.alloc (.cells #[.int .i64 1, .int .i64 2] 39)).alloc (.cells #[.int .i64 0, .int .i64 1] 3))) := Lib.hid ⟨(Mem.alloc (l := [Loc.k2 w3.heap.size _ _]) ⟨K2.new _ _ _ _, True.intro⟩ _).1, (M3.out.1 |> fun h => (Mem.alloc (Mem.alloc (l := [Loc.k4 g2 _ _ _ _]) ⟨h, True.intro⟩ _) _).1), (M3.out.2.1 |> fun h => (Mem.alloc (Mem.alloc (l := [Loc.k4 g1 _ _ _ _]) ⟨h, True.intro⟩ _) _).1), (Mem.alloc (Mem.alloc (l := [Loc.bl w.heap.size w]) ⟨M3.out.2.2.2.2.1, True.intro⟩ _) _).1, True.intro⟩
  have HR4 := Lib.hid (HR3.out.after (((Below.refl w3.heap.size w3).alloc (Nat.le_refl _) (.cells #[.int .i64 1, .int .i64 2] 39)).alloc (by simp) (.cells #[.int .i64 0, .int .i64 1] 3)))
  clear M3 HR3 hkx hky hk4
  have hq : RdI ((w3.alloc (.cells #[.int .i64 1, .int .i64 2] 39)).alloc (.cells #[.int .i64 0, .int .i64 1] 3)) 0 (w3.heap.size + 2) (.slice (some ⟨w3.heap.size + 1, 0, none⟩) 2 2) [0, 1] := by
    have := Rd.lit (enc := encI) (size := 1) (w3.alloc (.cells #[.int .i64 1, .int .i64 2] 39)) 3 [0, 1] #[.int .i64 0, .int .i64 1] 2 rfl rfl (by decide) (fun _ => rfl)
    rw [World.size_alloc] at this
    exact this
  refine Calls.mono (equalI_any [0, 1] [0, 1] _ _ 0 (w3.heap.size + 2) _ _ _ HR4.out hq) ?_
  rintro e w4 ⟨rfl, hb4⟩
  replace M4 := Lib.hid (M4.out.below hb4)
  clear hb4 HR4 hq
  have hkz := M4.out.1
  have hky := M4.out.2.1
  have hkx := M4.out.2.2.1
  have hdt : decide (([0, 1] : List Int) = [0, 1]) = true := by decide
  rw [hdt]
  obtain ⟨g3, hg3⟩ : ∃ g, w3.heap.size = g := ⟨_, rfl⟩
  rw [hg3] at M4 hkz
  rw [hg3]
  go_wp2_with fail
  exact HR.out _ _ ⟨rfl, M4.out.2.2.2.1.1⟩
end Go.Proofs.Ytmhbfoaecebobaa
end
section
namespace Go.Proofs.Ytmhbfoaecebobaa
set_option linter.unusedSimpArgs false
set_option linter.unusedVariables false
open Go.RowKit

end Go.Proofs.Ytmhbfoaecebobaa
end
section
namespace Go.Proofs.Ytmhbfoaecebobaa.Aw
set_option linter.unusedSimpArgs false
set_option linter.unusedVariables false
open Go.RowKit Go.Proofs
variable {P : Program} [IsP P]

theorem newCx_st {G : Cx} {w' : World} {b o : Nat} (h1 : G.w.heap.size ≤ b) (h2 : b < w'.heap.size) : (newCx G w').St b o := .inr ⟨h1, h2⟩
theorem pure_prog {f : FuncId} {args : List AV} {r : AV} (h : Pure Try.prog f args r) : Pure P f args r := by rw [IsP.eq (P := P)]; exact h
theorem lo_I {k : Nat} {l : List Int} : Lo k (eL eI l) := lo_map fun _ => .s _

/-- the result of firing and its like -/
theorem retI_pure {f : FuncId} {args : List AV} {r : List Int × Int} (he : Ent f) (h : ∀ (G : Cx) (vargs : Array Value), (∀ b o, G.St b o → b < G.w.heap.size) → vargs.size = args.length → (∀ (j : Nat) v x, vargs[j]? = some v → args[j]? = some x → Rep G v x) → Calls Try.prog f vargs G.w (RetI G.w r)) : Pure P f args (.tup [eL eI r.1, eI r.2]) :=
  pure_prog (pure_mk he (.tup _ (lo_cons lo_I (lo_cons (.s _) lo_nil))) fun G vargs hst hsz hrep => (h G vargs hst hsz hrep).mono (by
    rintro e w' ⟨A, c, rfl, hr, hb⟩
    refine ⟨_, rfl, hb, .tup _ _ rfl (fun j v x hv hx => ?_)⟩
    match j, hv, hx with
    | 0, hv, hx => simp at hv hx; subst hv hx; exact rdI_rep (G := newCx G w') hr (fun b o h1 h2 _ => newCx_st h1 h2)
    | 1, hv, hx => simp at hv hx; subst hv hx; exact .s _
    | j + 2, hv, hx => simp at hv))
theorem retB_pure {f : FuncId} {args : List AV} {b : Bool} (he : Ent f) (h : ∀ (G : Cx) (vargs : Array Value), (∀ b o, G.St b o → b < G.w.heap.size) → vargs.size = args.length → (∀ (j : Nat) v x, vargs[j]? = some v → args[j]? = some x → Rep G v x) → Calls Try.prog f vargs G.w fun e w' => e = .returned (.bool b) ∧ Below G.w.heap.size G.w w') : Pure P f args (eB b) :=
  pure_prog (pure_mk he (.s _) fun G vargs hst hsz hrep => (h G vargs hst hsz hrep).mono (by
    rintro e w' ⟨rfl, hb⟩
    exact ⟨_, rfl, hb, .s _⟩))
/-- a net, a list, a number -/
theorem args3 {G : Cx} {vargs : Array Value} {n : Net} {m : List Int} {x : Value} (hst : ∀ b o, G.St b o → b < G.w.heap.size) (hsz : vargs.size = [eN n, eL eI m, .s x].length) (hrep : ∀ (j : Nat) v y, vargs[j]? = some v → [eN n, eL eI m, .s x][j]? = some y → Rep G v y) :
    ∃ vt v, vargs = #[netV n vt, v, x] ∧ RdT G.w 0 G.w.heap.size vt n.trans ∧ RdI G.w 0 G.w.heap.size v m := by
  obtain ⟨l⟩ := vargs
  match l, hsz with
  | [a, b, c], _ =>
    obtain ⟨vt, rfl, h1⟩ := rep_net (hrep 0 a _ rfl rfl) hst
    have h2 := rep_rdI (hrep 1 b _ rfl rfl) hst
    have h3 := rep_s (hrep 2 c _ rfl rfl)
    subst h3
    exact ⟨vt, b, rfl, h1, h2⟩
theorem args1 {G : Cx} {vargs : Array Value} {n : Net} (hst : ∀ b o, G.St b o → b < G.w.heap.size) (hsz : vargs.size = [eN n].length) (hrep : ∀ (j : Nat) v y, vargs[j]? = some v → [eN n][j]? = some y → Rep G v y) :
    ∃ vt, vargs = #[netV n vt] ∧ RdT G.w 0 G.w.heap.size vt n.trans := by
  obtain ⟨l⟩ := vargs
  match l, hsz with
  | [a], _ =>
    obtain ⟨vt, rfl, h1⟩ := rep_net (hrep 0 a _ rfl rfl) hst
    exact ⟨vt, rfl, h1⟩
theorem argsS {G : Cx} {vargs : Array Value} {l : List ByteArray} (hst : ∀ b o, G.St b o → b < G.w.heap.size) (hsz : vargs.size = [eL eS l].length) (hrep : ∀ (j : Nat) v y, vargs[j]? = some v → [eL eS l][j]? = some y → Rep G v y) :
    ∃ v, vargs = #[v] ∧ RdS G.w 0 G.w.heap.size v l := by
  obtain ⟨q⟩ := vargs
  match q, hsz with
  | [a], _ => exact ⟨a, rfl, rep_rdS (hrep 0 a _ rfl rfl) hst⟩

theorem rFire_pf (n : Net) (m : List Int) (t : Int) : Pure P 48 [eN n, eL eI m, eI t] (.tup [eL eI (FireE n m t).1, eI (FireE n m t).2]) :=
  retI_pure (ent_of Try.func48 rfl rfl) fun G vargs hst hsz hrep => by
    obtain ⟨vt, v, rfl, h1, h2⟩ := args3 hst hsz hrep
    exact rFire_any n m t vt v _ _ _ _ G.w h1 h2
theorem workflow_pf (n : Net) : Pure P 27 [eN n] (eB (wfB n)) :=
  retB_pure (ent_of Try.func27 rfl rfl) fun G vargs hst hsz hrep => by
    obtain ⟨vt, rfl, h1⟩ := args1 hst hsz hrep
    exact workflow_any n vt _ _ G.w h1
theorem rvalid_pf (n : Net) : Pure P 49 [eN n] (eB (validB n)) :=
  retB_pure (ent_of Try.func49 rfl rfl) fun G vargs hst hsz hrep => by
    obtain ⟨vt, rfl, h1⟩ := args1 hst hsz hrep
    exact rvalid_any n vt _ _ G.w h1
theorem names_pf (l : List ByteArray) : Pure P 78 [eL eS l] (eB (allN l)) :=
  retB_pure (ent_of Try.func78 rfl rfl) fun G vargs hst hsz hrep => by
    obtain ⟨v, rfl, h1⟩ := argsS hst hsz hrep
    exact names_any l _ _ v G.w h1
theorem named_pf (l : List ByteArray) : Pure P 28 [eL eS l] (eB (allN l)) :=
  retB_pure (ent_of Try.func28 rfl rfl) fun G vargs hst hsz hrep => by
    obtain ⟨v, rfl, h1⟩ := argsS hst hsz hrep
    exact named_any l _ _ v G.w h1
end Go.Proofs.Ytmhbfoaecebobaa.Aw
end
section
namespace Go.Proofs.Ytmhbfoaecebobaa
set_option linter.unusedSimpArgs false
set_option linter.unusedVariables false
open Go.RowKit

theorem ent_long : Ent 24 := ent_of Try.func24 (by kernel_rfl) rfl
theorem ent_great1 : Ent 26 := ent_of Try.func26 (by kernel_rfl) rfl
set_option maxHeartbeats 400000 in
theorem long_any (a : ByteArray) (w : World) : Calls Try.prog 24 #[.string a] w fun e w' => e = .returned (.bool (decide ((100 : Int) < a.size))) ∧ Below w.heap.size w w' := by
  refine calls_cps fun R hR => ?_
  have HR := Lib.hid hR
  clear hR
  go_enter Try.func24, Try.ntmps24
  go_wp2_with fail
  exact HR.out _ _ ⟨rfl, Below.refl _ _⟩
def great1B (a : TrV) : Bool := decide (50 < lenOfV a.vi) || decide (50 < lenOfV a.vo) || decide (100 < a.label.size)
set_option maxHeartbeats 1000000 in
theorem great1_any (a : TrV) (h : ∃ A n c B m d, a.vi = .slice A n c ∧ a.vo = .slice B m d) (w : World) : Calls Try.prog 26 #[.agg #[.string a.label, a.vi, a.vo]] w fun e w' => e = .returned (.bool (great1B a)) ∧ Below w.heap.size w w' := by
  obtain ⟨A, n, c, B, m, d, hi, ho⟩ := h
  have HE : Hid (great1B a = (decide (50 < n) || decide (50 < m) || decide ((100 : Int) < a.label.size))) := Lib.hid (by
    have e : decide (100 < a.label.size) = decide ((100 : Int) < a.label.size) := by rw [decide_eq_decide]; omega
    unfold great1B; rw [hi, ho, ← e]; simp [lenOfV] <;> rfl)
  rw [hi, ho]
  clear hi ho
  have HB : Hid (Below w.heap.size w (w.alloc (.cells #[.string a.label, .slice A n c, .slice B m d] 46))) := Lib.hid ((Below.refl _ _).alloc (Nat.le_refl _) _)
  by_cases h1 : 50 < n
  · have hd1 : decide ((50 : Int) < n) = true := by simp; omega
    refine calls_cps fun R hR => ?_
    have HR := Lib.hid hR
    clear hR
    go_enter Try.func26, Try.ntmps26
    go_wp2_with fail
    exact HR.out _ _ ⟨ret_bool (by rw [HE.out, decide_eq_true h1]; rfl), HB.out⟩
  · have hd1 : decide ((50 : Int) < n) = false := by simp; omega
    by_cases h2 : 50 < m
    · have hd2 : decide ((50 : Int) < m) = true := by simp; omega
      refine calls_cps fun R hR => ?_
      have HR := Lib.hid hR
      clear hR
      go_enter Try.func26, Try.ntmps26
      go_wp2_with fail
      exact HR.out _ _ ⟨ret_bool (by rw [HE.out, decide_eq_true h2]; simp), HB.out⟩
    · have hd2 : decide ((50 : Int) < m) = false := by simp; omega
      refine calls_cps fun R hR => ?_
      have HR := Lib.hid hR
      clear hR
      go_enter Try.func26, Try.ntmps26
      go_wp2_with (go_at_call 24; refine (long_any _ _).mono ?_; rintro e w1 ⟨rfl, hb1⟩; replace HB := Lib.hid (HB.out.trans (hb1.mono HB.out.size)); clear hb1)
      exact HR.out _ _ ⟨ret_bool (by rw [HE.out, decide_eq_false h1, decide_eq_false h2]; rfl), HB.out⟩
theorem great1_in (n : List Tr) (vs : List TrV) {w : World} {lo hi : Nat} (h2 : vs.length = n.length) (h3 : ∀ k, k < n.length → (gti vs k).label = (gti n k).label ∧ RdI w lo hi (gti vs k).vi (gti n k).inn ∧ RdI w lo hi (gti vs k).vo (gti n k).out) (a : TrV) (ha : a ∈ vs) :
    ∃ A n c B m d, a.vi = .slice A n c ∧ a.vo = .slice B m d := by
  obtain ⟨k, hk, rfl⟩ := List.mem_iff_getElem.1 ha
  obtain ⟨_, hi, ho⟩ := h3 k (by omega)
  have e : gti vs k = vs[k] := by unfold gti; rw [List.getElem?_eq_getElem hk]; rfl
  rw [e] at hi ho
  obtain ⟨A, c, h1, _⟩ := hi.form
  obtain ⟨B, d, h2, _⟩ := ho.form
  exact ⟨A, _, c, B, _, d, h1, h2⟩

set_option maxRecDepth 100000 in
set_option maxHeartbeats 8000000 in
theorem great_any (n : Net) (l : List ByteArray) (lo hi lo' hi' : Nat) (vt v : Value) (w : World) (hn : RdT w lo hi vt n.trans) (hv : RdS w lo' hi' v l) :
    Calls Try.prog 9 #[netV n vt, v] w fun e w' => ∃ z, e = .returned (.bool z) ∧ Below w.heap.size w w' := by
  have HC := Lib.hid (fun (W : World) (hW : Below w.heap.size w W) => containsFS_any 24 ent_long #[] (fun a => decide ((100 : Int) < a.size)) l lo' hi' v W (hv.after hW) (fun a _ W _ => long_any a W))
  obtain ⟨vs, h1, h2, h3⟩ := hn
  have HV := Lib.hid (fun (W : World) (hW : Below w.heap.size w W) => containsFV_any 26 ent_great1 #[] great1B vs lo hi vt W (h1.after hW) (fun a ha W _ => great1_any a (great1_in n.trans vs h2 h3 a ha) W))
  obtain ⟨A, c, rfl, hc, hm⟩ := hv.form
  obtain ⟨B, d, rfl, hd, hm2⟩ := h1.form
  clear hv h1 h3 h2
  refine calls_cps fun R hR => ?_
  have HR := Lib.hid hR
  clear hR
  go_enter Try.func9, Try.ntmps9
  have M : Hid (Mem [Loc.k4 w.heap.size (.int .i64 n.places) (.slice B vs.length d) (.int .i64 n.source) (.int .i64 n.sink), Loc.bl w.heap.size w] (w.alloc (.cells #[.int .i64 n.places, .slice B vs.length d, .int .i64 n.source, .int .i64 n.sink] 24))) := Lib.hid ⟨K4.new w _ _ _ _ _, ⟨(Below.refl _ _).alloc (Nat.le_refl _) _, by simp⟩, True.intro⟩
  have hk4 := M.out.1
  have tT : vs.length ≤ 12 ∨ (12 < vs.length ∧ vs.length ≤ 60) ∨ (60 < vs.length ∧ vs.length ≤ 100) ∨ 100 < vs.length := by omega
  have tP : n.places ≤ 12 ∨ (12 < n.places ∧ n.places ≤ 40) ∨ 40 < n.places := by omega
  have tL : l.length ≤ 30 ∨ (30 < l.length ∧ l.length ≤ 200) ∨ (200 < l.length ∧ l.length ≤ 1000) ∨ 1000 < l.length := by omega
  rcases tT with t | t | t | t
  case inr.inl =>
    have d1 : decide ((12 : Int) < vs.length) = true := by simp; omega
    have d2 : decide ((vs.length : Int) ≤ 60) = true := by simp; omega
    go_wp2_with fail
    exact HR.out _ _ ⟨_, rfl, M.out.2.1.1⟩
  case inr.inr.inr =>
    have d1 : decide ((12 : Int) < vs.length) = true := by simp; omega
    have d2 : decide ((vs.length : Int) ≤ 60) = false := by simp; omega
    have d3 : decide ((100 : Int) < vs.length) = true := by simp; omega
    go_wp2_with fail
    exact HR.out _ _ ⟨_, rfl, M.out.2.1.1⟩
  case' inl =>
    have d1 : decide ((12 : Int) < vs.length) = false := by simp; omega
  case' inr.inr.inl =>
    have d1 : decide ((12 : Int) < vs.length) = true := by simp; omega
    have d2 : decide ((vs.length : Int) ≤ 60) = false := by simp; omega
  all_goals
    have d3 : decide ((100 : Int) < vs.length) = false := by simp; omega
    rcases tP with p | p | p
  all_goals first
    | (have e1 : decide ((12 : Int) < n.places) = true := by simp; omega
       have e2 : decide (n.places ≤ 40) = true := by simp; omega
       go_wp2_with fail
       exact HR.out _ _ ⟨_, rfl, M.out.2.1.1⟩)
    | (have e1 : decide ((12 : Int) < n.places) = false := by simp; omega
       skip)
    | (have e1 : decide ((12 : Int) < n.places) = true := by simp; omega
       have e2 : decide (n.places ≤ 40) = false := by simp; omega
       skip)
  all_goals rcases tL with q | q | q | q
  all_goals first
    | (have f1 : decide ((30 : Int) < l.length) = true := by simp; omega
       have f2 : decide ((l.length : Int) ≤ 200) = true := by simp; omega
       go_wp2_with fail
       exact HR.out _ _ ⟨_, rfl, M.out.2.1.1⟩)
    | (have f1 : decide ((30 : Int) < l.length) = true := by simp; omega
       have f2 : decide ((l.length : Int) ≤ 200) = false := by simp; omega
       have f3 : decide ((1000 : Int) < l.length) = true := by simp; omega
       go_wp2_with fail
       exact HR.out _ _ ⟨_, rfl, M.out.2.1.1⟩)
    | (have f1 : decide ((30 : Int) < l.length) = false := by simp; omega
       have f3 : decide ((1000 : Int) < l.length) = false := by simp; omega
       skip)
    | (have f1 : decide ((30 : Int) < l.length) = true := by simp; omega
       have f2 : decide ((l.length : Int) ≤ 200) = false := by simp; omega
       have f3 : decide ((1000 : Int) < l.length) = false := by simp; omega
       skip)
  all_goals
    obtain ⟨za, hza⟩ : ∃ z, l.any (fun a => decide ((100 : Int) < a.size)) = z := ⟨_, rfl⟩
    rw [hza] at HC
    clear hza
    cases za
    all_goals go_wp2_with (first
      | (go_at_call 23; refine (HC.out _ M.out.2.1.1).mono ?_; rintro e w1 ⟨rfl, hb1⟩; replace M := Lib.hid (M.out.below hb1); clear hb1; replace hk4 := M.out.1)
      | (go_at_call 25; refine (HV.out _ M.out.2.1.1).mono ?_; rintro e w1 ⟨rfl, hb1⟩; replace M := Lib.hid (M.out.below hb1); clear hb1; replace hk4 := M.out.1))
    all_goals exact HR.out _ _ ⟨_, rfl, M.out.2.1.1⟩
end Go.Proofs.Ytmhbfoaecebobaa
end
section
namespace Go.Proofs.Ytmhbfoaecebobaa
set_option linter.unusedSimpArgs false
set_option linter.unusedVariables false
open Go.ChangeShapes Go.WideShapes Go.ChangeAt Go.RowKit

theorem own_knob : ownKnob Try.prog.godebug = none := by kernel_rfl
theorem laid_out : laidOutB Try.prog = true := by kernel_rfl

section
variable {H : Type} {enc : TypeId × Value → H}
set_option maxRecDepth 100000 in
theorem law_post {f : Func} {s : ChangeSpec} {W W' : World} {args : Array Value} {ds gs : List (DataW H)} {before : List MemPlace} {t : TypeId}
    (hW : DataW.Whole enc Try.prog f.params.toList s.vars false W args.toList ds gs before) (hr : f.resultTypes = #[t]) (ht : Try.prog.underlying t = some .bool)
    (hfn : (s.fn H (ds ++ gs)).results = [.lit (.bool true)] ∧ (s.fn H (ds ++ gs)).args = ds ∧ (s.fn H (ds ++ gs)).vars = []) (hv : s.vars = [])
    (hargs : DataW.TrodAll enc Try.prog W' 0 (fun b => decide (b < W.heap.size)) true f.params.toList args.toList ds before) (hb : Below W.heap.size W W') :
    s.post enc Try.prog f false true false false W args (.bool true) W' := by
  refine ⟨ds, gs, before, [], before, [], hW, ?_, ?_, ?_, World.keptBut_mono (fun p hp => ⟨hp, Or.inr (by simpa using hp)⟩) (hb.frame (· ∈ before)), fun h => by cases h⟩
  · rw [hfn.1, hr]
    exact trodAll_mk1 (shut_bool ht true)
  · rw [hfn.2.1]
    exact hargs
  · rw [hfn.2.2, hv]
    rfl

variable {w : World} {base : Nat} {sp : Nat → Bool} {held : Bool}
/-- a slice, opened: its elements by what each element's type gives -/
theorem open_rd {α : Type} {size : Nat} {en : α → List Value} {Pr : α → Prop} {t e : TypeId} (ht : Try.prog.underlying t = some (.slice e)) (hc : Try.prog.cellsOf e = size) (hpos : 0 < size) (hen : ∀ a, (en a).length = size)
    (hel : ∀ fuel cs (x : DataW H × List MemPlace), DataW.trod enc Try.prog w base sp held fuel e cs = some x → ∃ a, cs = en a ∧ Pr a)
    {fuel : Nat} {cs : List Value} {x : DataW H × List MemPlace} (h : DataW.trod enc Try.prog w base sp held fuel t cs = some x) : ∃ v l, cs = [v] ∧ Rd size en w 0 w.heap.size v l ∧ ∀ a ∈ l, Pr a := by
  rcases DataW.trod_slice ht h with ⟨rfl, _⟩ | ⟨a, len, cap, elems, rest, n, _, rfl, _, hb, hl, hm, hlen, helem, _⟩
  · exact ⟨_, [], rfl, Rd.nil _ _ _, fun a ha => by cases ha⟩
  · rw [hc] at helem
    have hx : ∀ i : Fin len, ∃ y, w.cells? base (a.add (i * size)) size = some (en y) ∧ Pr y := by
      intro i
      have h1 := helem i i.2
      have hi : (i : Nat) < elems.length := by rw [hlen]; exact i.2
      rw [List.getElem?_eq_getElem hi, Option.bind_eq_some_iff] at h1
      obtain ⟨cs', h2, h3⟩ := h1
      obtain ⟨y, rfl, hp⟩ := hel _ _ _ h3
      exact ⟨y, h2, hp⟩
    let f : Fin len → α := fun i => Classical.choose (hx i)
    have hf : ∀ i : Fin len, w.cells? base (a.add ((i : Nat) * size)) size = some (en (f i)) ∧ Pr (f i) := fun i => Classical.choose_spec (hx i)
    have hlf : (List.ofFn f).length = len := by simp
    have hcell : ∀ (k : Nat) (hk : k < len) (r : Nat), r < size → w.cell? ((a.add (k * size)).add r) = (en (f ⟨k, hk⟩))[r]? := by
      intro k hk r hr
      exact (World.cells?_some (hf ⟨k, hk⟩).1).2.2 r hr
    refine ⟨_, List.ofFn f, rfl, ⟨flatMap_len hen _, some a, cap, by rw [hlf], by rw [hlf]; exact hl, by rw [hlf]; exact Nat.le_trans hl hm, fun hn => ?_⟩, fun y hy => ?_⟩
    · rw [hlf] at hn
      have hspot : a.spot = none := by
        have h0 := hcell 0 hn 0 hpos
        have h1 : ((a.add (0 * size)).add 0) = a := by simp [Addr.add]
        rw [h1] at h0
        obtain ⟨u, hu⟩ : ∃ u, (en (f ⟨0, hn⟩))[0]? = some u := ⟨_, List.getElem?_eq_getElem (by rw [hen]; exact hpos)⟩
        rw [hu] at h0
        exact World.cell?_spot h0
      obtain ⟨b, off, s⟩ := a
      simp only at hspot
      subst hspot
      have hall : ∀ j u, ((List.ofFn f).flatMap en)[j]? = some u → w.cell? ⟨b, off + j, none⟩ = some u := by
        intro j u hu
        have hj : j < len * size := by
          have := (List.getElem?_eq_some_iff.1 hu).1
          rw [flatMap_len hen, hlf] at this
          exact this
        have hk : j / size < len := (Nat.div_lt_iff_lt_mul hpos).2 hj
        have hr : j % size < size := Nat.mod_lt _ hpos
        have hg := hcell (j / size) hk (j % size) hr
        obtain ⟨u', hu'⟩ : ∃ u', (en (f ⟨j / size, hk⟩))[j % size]? = some u' := ⟨_, List.getElem?_eq_getElem (by rw [hen]; exact hr)⟩
        have hfm := flatMap_get hen (List.ofFn f) (j / size) (f ⟨j / size, hk⟩) (j % size) u' (by simp [hk]) hu'
        have hjj : j / size * size + j % size = j := Nat.div_add_mod' j size
        rw [hjj, hu] at hfm
        rw [hu', add_off, add_off, Nat.add_assoc, hjj] at hg
        rw [hg, ← hfm]
      have hblk : b < w.heap.size := by
        obtain ⟨u, hu⟩ : ∃ u, ((List.ofFn f).flatMap en)[0]? = some u := ⟨_, List.getElem?_eq_getElem (by rw [flatMap_len hen, hlf]; exact Nat.mul_pos hn hpos)⟩
        exact World.block_lt_of_cell? _ _ (hall 0 u hu)
      exact ⟨b, off, rfl, Nat.zero_le _, hblk, hall⟩
    · obtain ⟨i, hi⟩ := List.mem_ofFn.1 hy
      rw [← hi]
      exact (hf i).2

theorem ints_open {fuel : Nat} {cs : List Value} {x : DataW H × List MemPlace} (h : DataW.trod enc Try.prog w base sp held fuel 30 cs = some x) : ∃ v l, cs = [v] ∧ RdI w 0 w.heap.size v l := by
  obtain ⟨v, l, h1, h2, _⟩ := open_rd (en := encI) (Pr := fun _ => True) (size := 1) Try.underlying30 (by kernel_rfl) (by decide) (fun _ => rfl) (fun fuel cs x h => by
    obtain ⟨n, rfl, _⟩ := DataW.trod_int Try.underlying3 h
    exact ⟨n, rfl, True.intro⟩) h
  exact ⟨v, l, h1, h2⟩
theorem strs_open {fuel : Nat} {cs : List Value} {x : DataW H × List MemPlace} (h : DataW.trod enc Try.prog w base sp held fuel 25 cs = some x) : ∃ v l, cs = [v] ∧ RdS w 0 w.heap.size v l := by
  obtain ⟨v, l, h1, h2, _⟩ := open_rd (en := encS) (Pr := fun _ => True) (size := 1) Try.underlying25 (by kernel_rfl) (by decide) (fun _ => rfl) (fun fuel cs x h => by
    obtain ⟨n, rfl, _⟩ := DataW.trod_string Try.underlying9 h
    exact ⟨n, rfl, True.intro⟩) h
  exact ⟨v, l, h1, h2⟩
set_option maxRecDepth 100000 in
theorem trans_open {fuel : Nat} {cs : List Value} {x : DataW H × List MemPlace} (h : DataW.trod enc Try.prog w base sp held fuel 46 cs = some x) : ∃ m : TrV, cs = encV m ∧ ∃ inn out, RdI w 0 w.heap.size m.vi inn ∧ RdI w 0 w.heap.size m.vo out := by
  obtain ⟨xs, n, _, _, hlen, hl, hg⟩ := DataW.trod_struct Try.underlying46 h
  have hc : Try.prog.cellsOf 46 = 3 := by kernel_rfl
  have hi : Try.prog.cellsOf 30 = 1 := by kernel_rfl
  have hs : Try.prog.cellsOf 9 = 1 := by kernel_rfl
  match cs, hlen.trans hc, xs, hl with
  | [c0, c1, c2], _, [x0, x1, x2], _ =>
    have g0 := hg 0 _ rfl
    have g1 := hg 1 _ rfl
    have g2 := hg 2 _ rfl
    simp [hi, hs] at g0 g1 g2
    obtain ⟨n0, e0, _⟩ := DataW.trod_string Try.underlying9 g0
    obtain ⟨v1, l1, e1, r1⟩ := ints_open g1
    obtain ⟨v2, l2, e2, r2⟩ := ints_open g2
    injection e0 with e0
    injection e1 with e1
    injection e2 with e2
    exact ⟨⟨n0, v1, v2⟩, by rw [e0, e1, e2], l1, l2, r1, r2⟩
theorem rdT_of {v : Value} {vs : List TrV} (h : RdV w 0 w.heap.size v vs) (hp : ∀ a ∈ vs, ∃ inn out, RdI w 0 w.heap.size a.vi inn ∧ RdI w 0 w.heap.size a.vo out) : ∃ ts : List Tr, RdT w 0 w.heap.size v ts := by
  have hx : ∀ a : TrV, ∃ t : Tr, a ∈ vs → (a.label = t.label ∧ RdI w 0 w.heap.size a.vi t.inn ∧ RdI w 0 w.heap.size a.vo t.out) := by
    intro a
    by_cases ha : a ∈ vs
    · obtain ⟨inn, out, h1, h2⟩ := hp a ha
      exact ⟨⟨a.label, inn, out⟩, fun _ => ⟨rfl, h1, h2⟩⟩
    · exact ⟨⟨a.label, [], []⟩, fun h => absurd h ha⟩
  let f : TrV → Tr := fun a => Classical.choose (hx a)
  have hf : ∀ a, a ∈ vs → (a.label = (f a).label ∧ RdI w 0 w.heap.size a.vi (f a).inn ∧ RdI w 0 w.heap.size a.vo (f a).out) := fun a => Classical.choose_spec (hx a)
  refine ⟨vs.map f, vs, h, by simp, fun k hk => ?_⟩
  rw [List.length_map] at hk
  have e : gti (vs.map f) k = f (gti vs k) := by
    unfold gti
    rw [List.getElem?_map, List.getElem?_eq_getElem hk]
    rfl
  rw [e]
  exact hf _ (gti_mem hk)
set_option maxRecDepth 100000 in
theorem net_open {fuel : Nat} {cs : List Value} {x : DataW H × List MemPlace} (h : DataW.trod enc Try.prog w base sp held fuel 24 cs = some x) : ∃ (n : Net) (vt : Value), cs = [.int .i64 n.places, vt, .int .i64 n.source, .int .i64 n.sink] ∧ RdT w 0 w.heap.size vt n.trans := by
  obtain ⟨xs, n, _, _, hlen, hl, hg⟩ := DataW.trod_struct Try.underlying24 h
  have hc : Try.prog.cellsOf 24 = 4 := by kernel_rfl
  have hi : Try.prog.cellsOf 3 = 1 := by kernel_rfl
  have hs : Try.prog.cellsOf 22 = 1 := by kernel_rfl
  match cs, hlen.trans hc, xs, hl with
  | [c0, c1, c2, c3], _, [x0, x1, x2, x3], _ =>
    have g0 := hg 0 _ rfl
    have g1 := hg 1 _ rfl
    have g2 := hg 2 _ rfl
    have g3 := hg 3 _ rfl
    simp [hi, hs] at g0 g1 g2 g3
    obtain ⟨n0, e0, _⟩ := DataW.trod_int Try.underlying3 g0
    obtain ⟨v1, vs, e1, r1, p1⟩ := open_rd (en := encV) (Pr := fun m => ∃ inn out, RdI w 0 w.heap.size m.vi inn ∧ RdI w 0 w.heap.size m.vo out) (size := 3) Try.underlying22 (by kernel_rfl) (by decide) (fun _ => rfl) (fun fuel cs x h => trans_open h) g1
    obtain ⟨n2, e2, _⟩ := DataW.trod_int Try.underlying3 g2
    obtain ⟨n3, e3, _⟩ := DataW.trod_int Try.underlying3 g3
    obtain ⟨ts, rt⟩ := rdT_of r1 p1
    injection e0 with e0
    injection e1 with e1
    injection e2 with e2
    injection e3 with e3
    exact ⟨⟨n0, ts, n2, n3⟩, v1, by rw [e0, e1, e2, e3], rt⟩
variable {b0 : Nat} {r : Reach} {v : Value} {d : DataW H} {p : List MemPlace}
set_option maxRecDepth 100000 in
theorem open_net (hv : Value.okWide Try.prog w r b0 24 v) (h : DataW.Trod enc Try.prog w base sp held 24 v d p) : ∃ (n : Net) (vt : Value), v = netV n vt ∧ RdT w 0 w.heap.size vt n.trans := by
  obtain ⟨cs, rfl, hsz⟩ := okWide_struct Try.underlying24 hv
  obtain ⟨fuel, hf⟩ := h
  obtain ⟨n, vt, ha, hr⟩ := net_open hf
  refine ⟨n, vt, ?_, hr⟩
  simp [Value.cells] at ha
  rw [show cs = cs.toList.toArray by simp, ha]
set_option maxRecDepth 100000 in
theorem open_strs' (hv : Value.okWide Try.prog w r b0 25 v) (h : DataW.Trod enc Try.prog w base sp held 25 v d p) : ∃ l, RdS w 0 w.heap.size v l := by
  obtain ⟨a, n, c, rfl⟩ := okWide_slice Try.underlying25 hv
  obtain ⟨fuel, hf⟩ := h
  obtain ⟨v', l, ha, hr⟩ := strs_open hf
  simp [Value.cells] at ha
  subst ha
  exact ⟨l, hr⟩
end
end Go.Proofs.Ytmhbfoaecebobaa
end
section
namespace Go.Proofs.Ytmhbfoaecebobaa.Aw
set_option linter.unusedSimpArgs false
set_option linter.unusedVariables false
open Go.RowKit Go.Proofs
variable {P : Program} [IsP P]

/-- before the law is called -/
def G0 (W : World) : Cx := { base := 0, w0 := W, w := W, mu := fun _ => none, St := fun b _ => b < W.heap.size }
theorem pure_law {P : Program} {f : FuncId} {args : List AV} (hp : Pure P f args (eB true)) (W : World) (vargs : Array Value) (hsz : vargs.size = args.length) (hrep : ∀ (j : Nat) v x, vargs[j]? = some v → args[j]? = some x → Rep (G0 W) v x) :
    Calls P f vargs W fun e w' => e = .returned (.bool true) ∧ Below W.heap.size W w' :=
  (hp.call (G0 W) vargs (fun b o h => h) hsz hrep).mono (by
    rintro e w' ⟨v, G', rfl, rfl, hb, _, _, _, hr⟩
    exact ⟨by rw [rep_s hr], hb⟩)
theorem rep_net0 {W : World} {lo hi : Nat} {vt : Value} {n : Net} (h : RdT W lo hi vt n.trans) : Rep (G0 W) (netV n vt) (eN n) :=
  .agg _ _ rfl (by intro c hc; simp at hc; rcases hc with rfl | rfl | rfl | rfl <;> rfl) (fun j v x hv hx => by
    match j, hv, hx with
    | 0, hv, hx => simp at hv hx; subst hv hx; exact .s _
    | 1, hv, hx => simp at hv hx; subst hv hx; exact rdT_rep (G := G0 W) h (fun b o _ _ h => h)
    | 2, hv, hx => simp at hv hx; subst hv hx; exact .s _
    | 3, hv, hx => simp at hv hx; subst hv hx; exact .s _
    | j + 4, hv, hx => simp at hv)
theorem pureE_prog {f : FuncId} {args : List AV} {R : AV → Prop} (h : PureE Try.prog f args R) : PureE P f args R := by rw [IsP.eq (P := P)]; exact h
/-- a yes or no that is not told -/
theorem someB_pure {f : FuncId} {args : List AV} (he : Ent f) (h : ∀ (G : Cx) (vargs : Array Value), (∀ b o, G.St b o → b < G.w.heap.size) → vargs.size = args.length → (∀ (j : Nat) v x, vargs[j]? = some v → args[j]? = some x → Rep G v x) → Calls Try.prog f vargs G.w fun e w' => ∃ z, e = .returned (.bool z) ∧ Below G.w.heap.size G.w w') : PureE P f args (fun r => ∃ z, r = eB z) :=
  pureE_prog ⟨he, by rintro r ⟨z, rfl⟩; exact .s _, fun G vargs hst hsz hrep => (h G vargs hst hsz hrep).mono (by
    rintro e w' ⟨z, rfl, hb⟩
    refine ⟨_, newCx G w', eB z, ⟨z, rfl⟩, rfl, rfl, hb, fun b o h => .inl h, fun b o h => ?_, fun b o h => ?_, .s _⟩
    · exact h.imp (fun h => h) (fun h => h.1)
    · rcases h with h | h
      · have := hst b o h; have := hb.size; show b < w'.heap.size; omega
      · exact h.2)⟩
theorem awake_pf : Pure P 8 [] (eB true) :=
  retB_pure (ent_of Try.func8 rfl rfl) fun G vargs hst hsz hrep => by
    obtain ⟨q⟩ := vargs
    match q, hsz with
    | [], _ => exact awake_any G.w
/-- a net, a list of names -/
theorem argsNS {G : Cx} {vargs : Array Value} {n : Net} {l : List ByteArray} (hst : ∀ b o, G.St b o → b < G.w.heap.size) (hsz : vargs.size = [eN n, eL eS l].length) (hrep : ∀ (j : Nat) v y, vargs[j]? = some v → [eN n, eL eS l][j]? = some y → Rep G v y) :
    ∃ vt v, vargs = #[netV n vt, v] ∧ RdT G.w 0 G.w.heap.size vt n.trans ∧ RdS G.w 0 G.w.heap.size v l := by
  obtain ⟨q⟩ := vargs
  match q, hsz with
  | [a, b], _ =>
    obtain ⟨vt, rfl, h1⟩ := rep_net (hrep 0 a _ rfl rfl) hst
    exact ⟨vt, b, rfl, h1, rep_rdS (hrep 1 b _ rfl rfl) hst⟩
theorem great_pf (n : Net) (l : List ByteArray) : PureE P 9 [eN n, eL eS l] (fun r => ∃ z, r = eB z) :=
  someB_pure (ent_of Try.func9 rfl rfl) fun G vargs hst hsz hrep => by
    obtain ⟨vt, v, rfl, h1, h2⟩ := argsNS hst hsz hrep
    exact great_any n l _ _ _ _ vt v G.w h1 h2
end Go.Proofs.Ytmhbfoaecebobaa.Aw
end
section
namespace Go.Proofs.Ytmhbfoaecebobaa
set_option linter.unusedSimpArgs false
set_option linter.unusedVariables false
open Go.RowKit

/-- the value of a slice, as an element -/
structure SlV where
  a : Option Addr
  n : Nat
  c : Nat
  deriving Inhabited
abbrev SlV.v (x : SlV) : Value := .slice x.a x.n x.c
abbrev encW (x : SlV) : List Value := [x.v]
abbrev RdW := Rd 1 encW
def RdWs (D : Nat → Prop) (w : World) (vs : List SlV) (ls : List (List Int)) : Prop :=
  vs.length = ls.length ∧ ∀ i, i < ls.length → RdB D w (gti vs i).v (gti ls i)
theorem RdWs.keep {D E : Nat → Prop} {w W : World} (hc : Chg E w W) (hd : ∀ k, D k → ¬ E k) {vs : List SlV} {ls : List (List Int)} (h : RdWs D w vs ls) : RdWs D W vs ls := ⟨h.1, fun i hi => (h.2 i hi).keep hc hd⟩
theorem RdWs.mono {D E : Nat → Prop} {w : World} {vs : List SlV} {ls : List (List Int)} (h : RdWs D w vs ls) (hd : ∀ k, D k → E k) : RdWs E w vs ls := ⟨h.1, fun i hi => (h.2 i hi).mono hd⟩
theorem RdWs.nil (D : Nat → Prop) (w : World) : RdWs D w [] [] := ⟨rfl, fun i hi => absurd hi (by simp)⟩
theorem RdWs.snoc {D : Nat → Prop} {w : World} {vs : List SlV} {ls : List (List Int)} (h : RdWs D w vs ls) {v : SlV} {x : List Int} (h1 : RdB D w v.v x) : RdWs D w (vs ++ [v]) (ls ++ [x]) := by
  refine ⟨by simp [h.1], fun i hi => ?_⟩
  by_cases hl : i < ls.length
  · rw [gti_pre hl, gti_pre (by rw [h.1]; exact hl)]
    exact h.2 i hl
  · obtain rfl : i = ls.length := by simp at hi; omega
    have e1 : gti (vs ++ [v]) ls.length = v := by rw [gti_app, if_neg (by rw [h.1]; omega), h.1, Nat.sub_self]; rfl
    have e2 : gti (ls ++ [x]) ls.length = x := by rw [gti_app, if_neg (by omega), Nat.sub_self]; rfl
    rw [e1, e2]
    exact h1
theorem RdW.at1 {w : World} {lo hi : Nat} {A : Option Addr} {c : Nat} {l : List SlV} (h : RdW w lo hi (.slice A l.length c) l) {k : Nat} (hk : k < l.length) :
    ∃ b off, A = some ⟨b, off, none⟩ ∧ lo ≤ b ∧ b < hi ∧ C1 w b (off + k) (gti l k).v := by
  obtain ⟨b, off, hA, h1, h2, hc⟩ := Rd.at_ h (fun _ => rfl) (gti_get hk)
  exact ⟨b, off, hA, h1, h2, by have := hc 0 _ rfl; rw [Nat.mul_one] at this; exact this⟩
theorem RdW.lit (W : World) (x : SlV) (t : TypeId) : RdW (W.alloc (.cells #[x.v] t)) 0 (W.heap.size + 1) (.slice (some ⟨W.heap.size, 0, none⟩) 1 1) [x] := Rd.lit W t [x] _ 1 rfl rfl (by decide) (fun _ => rfl)
end Go.Proofs.Ytmhbfoaecebobaa
end
section
namespace Go.Proofs.Ytmhbfoaecebobaa.Aw
set_option linter.unusedSimpArgs false
set_option linter.unusedVariables false
open Go.RowKit Go.Proofs
variable {P : Program} [IsP P]

abbrev eBA : ByteArray := { data := #[] }
end Go.Proofs.Ytmhbfoaecebobaa.Aw
end
section
namespace Go.Proofs.Ytmhbfoaecebobaa.Aw
set_option linter.unusedSimpArgs false
set_option linter.unusedVariables false
open Go.RowKit Go.Proofs
variable {P : Program} [IsP P]

theorem take_snoc' {l : List Int} {k : Nat} (h : k < l.length) : l.take (k + 1) = l.take k ++ [gti l k] := by
  rw [List.take_add_one, gti_get h]; rfl

end Go.Proofs.Ytmhbfoaecebobaa.Aw
end
section
namespace Go.Proofs.Ytmhbfoaecebobaa.Aw
set_option linter.unusedSimpArgs false
set_option linter.unusedVariables false
open Go.RowKit Go.Proofs
variable {P : Program} [IsP P]

theorem rone_pf (n : Net) (np kp : Nat) (hnp : n.places = (np : Int)) (h40 : np ≤ 40) (hlt : kp < np) :
    Pure P 20 [eN n, eI kp] (eL eI (oneL np kp)) := by
  have hE : ((List.replicate np (eI 0)).set kp (eI 1)) = (oneL np kp).map eI := by unfold oneL; rw [List.map_set, List.map_replicate]; rfl
  have hel : (List.replicate np (AV.s (.int .i64 0)))[kp]? = some (AV.s (.int .i64 0)) := by rw [List.getElem?_replicate, if_pos hlt]
  refine aw_fn (by rw [IsP.eq (P := P)]; exact Try.func20) rfl rfl rfl rfl rfl (by repeat' (first | exact Lo.s _ | exact Lo.emp | exact Lo.any | exact lo_nil | exact lo_nilE | refine lo_cons ?_ ?_ | refine lo_consE ?_ ?_ | refine lo_map ?_ | refine lo_mapE ?_ | refine Lo.cells ?_ | refine Lo.agg _ ?_ | refine Lo.ref _ ?_ | refine Lo.tup _ ?_ | refine Lo.fn _ _ ?_ | refine Lo.sl _ ?_ | intro _)) (by repeat' (first | exact Lo.s _ | exact Lo.emp | exact Lo.any | exact lo_nil | exact lo_nilE | refine lo_cons ?_ ?_ | refine lo_consE ?_ ?_ | refine lo_map ?_ | refine lo_mapE ?_ | refine Lo.cells ?_ | refine Lo.agg _ ?_ | refine Lo.ref _ ?_ | refine Lo.tup _ ?_ | refine Lo.fn _ _ ?_ | refine Lo.sl _ ?_ | intro _)) (by simp only [argF]; rfl) ?_
  repeat (first | refine aw_seq ?_ | refine ath_n ?_ | refine aw_skip ?_ | refine abl_n ?_ | refine aw_block ?_)
  refine aw_region ?_
  refine ops_op rfl rfl (runs_none rfl) (does_box rfl rfl rfl rfl) ?_
  first | refine ops_op rfl rfl (runs_none rfl) (mv_own (.inr rfl) rfl) ?_ | refine ops_op rfl rfl (runs_none rfl) (mv_sl (.inr rfl) rfl) ?_ | refine ops_op rfl rfl (runs_none rfl) (mv_s (.inr rfl) rfl) ?_ | refine ops_op rfl rfl (runs_none rfl) (mv_emp (.inr rfl) rfl) ?_
  refine ops_nil ?_
  repeat (first | refine aw_seq ?_ | refine ath_n ?_ | refine aw_skip ?_ | refine abl_n ?_ | refine aw_block ?_)
  refine aw_region ?_
  first | refine ops_op rfl rfl (runs_none rfl) (does_fieldAddr_ptr rfl tf24_0 (by decide) rfl) ?_ | refine ops_op rfl rfl (runs_none rfl) (does_fieldAddr_ref rfl tf24_0 (by decide) rfl) ?_
  first | refine ops_op rfl rfl (runs_none rfl) (does_load_ref rfl ta3 rfl) ?_ | refine ops_op rfl rfl (runs_none rfl) (does_load_ptr rfl ta3 rfl rfl rfl rfl rfl) ?_
  refine ops_op rfl rfl (runs_none rfl) (does_make rfl ts30 ti3 rfl rfl (by decide) rfl rfl hnp hnp (Nat.le_refl _) (by omega) (by omega)) ?_
  first | refine ops_op rfl rfl (runs_none rfl) (mv_own (.inr rfl) rfl) ?_ | refine ops_op rfl rfl (runs_none rfl) (mv_sl (.inr rfl) rfl) ?_ | refine ops_op rfl rfl (runs_none rfl) (mv_s (.inr rfl) rfl) ?_ | refine ops_op rfl rfl (runs_none rfl) (mv_emp (.inr rfl) rfl) ?_
  refine ops_nil ?_
  repeat (first | refine aw_seq ?_ | refine ath_n ?_ | refine aw_skip ?_ | refine abl_n ?_ | refine aw_block ?_)
  refine aw_region ?_
  first | refine ops_op rfl rfl (runs_none rfl) (mv_own (.inl rfl) rfl) ?_ | refine ops_op rfl rfl (runs_none rfl) (mv_sl (.inl rfl) rfl) ?_ | refine ops_op rfl rfl (runs_none rfl) (mv_s (.inl rfl) rfl) ?_ | refine ops_op rfl rfl (runs_none rfl) (mv_emp (.inl rfl) rfl) ?_
  refine ops_op rfl rfl (runs_none rfl) (mv_s (.inl rfl) rfl) ?_
  first | refine ops_op rfl rfl (runs_none rfl) (does_index_sl rfl ts30 ti3 rfl rfl rfl hlt rfl) ?_ | refine ops_op rfl rfl (runs_none rfl) (does_index_own rfl ts30 ti3 rfl rfl rfl hlt) ?_
  refine ops_eff rfl (runs_none rfl) (does_store rfl ti3 rfl rfl rfl hel rfl rfl (by decide) (by decide)) ?_
  refine ops_nil ?_
  repeat (first | refine aw_seq ?_ | refine ath_n ?_ | refine aw_skip ?_ | refine abl_n ?_ | refine aw_block ?_)
  refine aw_region ?_
  first | refine ops_op rfl rfl (runs_none rfl) (mv_own (.inl rfl) rfl) ?_ | refine ops_op rfl rfl (runs_none rfl) (mv_sl (.inl rfl) rfl) ?_ | refine ops_op rfl rfl (runs_none rfl) (mv_s (.inl rfl) rfl) ?_ | refine ops_op rfl rfl (runs_none rfl) (mv_emp (.inl rfl) rfl) ?_
  first | refine ops_op rfl rfl (runs_none rfl) (mv_own (.inr rfl) rfl) ?_ | refine ops_op rfl rfl (runs_none rfl) (mv_sl (.inr rfl) rfl) ?_ | refine ops_op rfl rfl (runs_none rfl) (mv_s (.inr rfl) rfl) ?_ | refine ops_op rfl rfl (runs_none rfl) (mv_emp (.inr rfl) rfl) ?_
  refine aops_weak (wk_froz (id := 1) rfl) (aops_weak (wk_sl (d := 4) rfl rfl (by first | rfl | (simp; done) | (simp; omega))) ?_)
  refine ops_nil ?_
  repeat (first | refine aw_seq ?_ | refine ath_n ?_ | refine aw_skip ?_ | refine abl_n ?_ | refine aw_block ?_)
  (refine aw_ret ?_; repeat (first | refine ath_r ?_ | refine abl_r ?_))
  exact post1 (.inr rfl) rfl (congrArg AV.sl hE)
end Go.Proofs.Ytmhbfoaecebobaa.Aw
end
section
namespace Go.Proofs.Ytmhbfoaecebobaa.Aw
set_option linter.unusedSimpArgs false
set_option linter.unusedVariables false
open Go.RowKit
def RnL (ρ : List Nat) (l l' : List AV) : Prop := l.length = l'.length ∧ ∀ (j : Nat) x y, l[j]? = some x → l'[j]? = some y → Rn ρ x y
theorem RnL.nil {ρ : List Nat} : RnL ρ [] [] := ⟨rfl, by simp⟩
theorem RnL.cons {ρ : List Nat} {x y : AV} {l l' : List AV} (h : Rn ρ x y) (t : RnL ρ l l') : RnL ρ (x :: l) (y :: l') := by
  refine ⟨by simp [t.1], fun j a b ha hb => ?_⟩
  cases j with
  | zero => simp at ha hb; subst ha hb; exact h
  | succ j => exact t.2 j a b (by simpa using ha) (by simpa using hb)
/-- a struct of the call's own that names rows of the call's own -/
theorem obRn_agg {ρ : List Nat} {sz : Nat} {cs cs' : List AV} (h : RnL ρ cs cs') : ObRn ρ (.row sz [.agg cs]) (.row sz [.agg cs']) := .rowR sz _ _ (.agg cs cs' h.1 h.2) h.2 h.1
section
variable {N : Nat} {F F' : Frm} {σ σ' : List Ob}
/-- a row is read in another way -/
theorem reread_rel {G : Cx} {id sz : Nat} {cs cs' : List AV} (hr : Rel G σ) (hs : σ[id]? = some (.row sz cs)) (h0 : cs = [] → cs' = []) (h : ∀ b f, RowAt G b sz cs f → RowAt G b sz cs' f) : Rel G (σ.set id (.row sz cs')) := by
  have hid : id < σ.length := (List.getElem?_eq_some_iff.1 hs).1
  refine ⟨hr.below, hr.le, hr.st, fun i ob hob => ?_, fun i j b hi hj hm hm' => ?_, fun i hi => hr.fresh i (by simpa using hi)⟩
  · by_cases hi : id = i
    · subst hi
      rw [List.getElem?_set_self hid] at hob
      cases hob
      have h1 := hr.obs id _ hs
      simp only [ObOk] at h1 ⊢
      cases hx : G.mu id with
      | none => rw [hx] at h1; exact h1
      | some x =>
        rw [hx] at h1
        cases x with
        | none => exact h0 h1
        | some b => exact ⟨h b _ h1.1, h1.2⟩
    · rw [List.getElem?_set_ne hi] at hob; exact hr.obs i ob hob
  · have old : ∀ i, alive (σ.set id (.row sz cs')) i → alive σ i := by
      rintro i ⟨sz1, cs1, hi⟩
      by_cases h2 : id = i
      · subst h2; exact ⟨sz, cs, hs⟩
      · rw [List.getElem?_set_ne h2] at hi; exact ⟨sz1, cs1, hi⟩
    exact hr.inj i j b (old i hi) (old j hj) hm hm'
/-- nil in a struct of the call's own, as an empty row of the call's own -/
theorem wk_ownC {id sz sz2 : Nat} {e e' : AV} {pre post : List AV} (hs : σ[id]? = some (.row sz [e])) (h1 : e.cells = pre ++ .s (.slice none 0 0) :: post) (h2 : e'.cells = pre ++ .own σ.length sz2 0 :: post) :
    Weak N F σ F (σ.set id (.row sz [e']) ++ [.row sz2 []]) := fun G a h => by
  have he := nil_ext h.rel
  have hr := nil_rel h.rel sz2
  have hid : id < σ.length := (List.getElem?_eq_some_iff.1 hs).1
  refine ⟨G.new σ.length G.w none, rfl, he.step, ?_, h.fr.ext he, h.df, h.nt⟩
  have hset : σ.set id (Ob.row sz [e']) ++ [Ob.row sz2 []] = (σ ++ [Ob.row sz2 []]).set id (Ob.row sz [e']) := by rw [List.set_append_left _ _ hid]
  rw [hset]
  refine reread_rel hr (by rw [List.getElem?_append_left hid]; exact hs) (fun h => by cases h) ?_
  rintro b f ⟨cur, t, fr, g1, g2, g3, g4⟩
  refine ⟨cur, t, fr, g1, g2, g3, fun k y hy => ?_⟩
  cases k with
  | succ k => simp at hy
  | zero =>
    simp at hy
    subst hy
    obtain ⟨k1, k2, k3⟩ := g4 0 e rfl
    rw [h1] at k1 k2 k3
    rw [h2]
    refine ⟨by simpa using k1, fun c hc => ?_, fun j c hc => ?_⟩
    · simp only [List.mem_append, List.mem_cons] at hc
      rcases hc with hc | rfl | hc
      · exact k2 c (by simp [hc])
      · rfl
      · exact k2 c (by simp [hc])
    · by_cases hj : j = pre.length
      · subst hj
        simp at hc
        subst hc
        obtain ⟨v, h6, h7⟩ := k3 pre.length (.s (.slice none 0 0)) (by simp)
        refine ⟨v, h6, ?_⟩
        cases h7
        exact .own0 σ.length sz2 none (fun a ha => by cases ha) (by simp [Cx.new])
      · have e : (pre ++ AV.s (.slice none 0 0) :: post)[j]? = some c := by
          rw [← hc]
          by_cases hlt : j < pre.length
          · rw [List.getElem?_append_left hlt, List.getElem?_append_left hlt]
          · rw [List.getElem?_append_right (by omega), List.getElem?_append_right (by omega)]
            obtain ⟨i, hi⟩ : ∃ i, j - pre.length = i + 1 := ⟨j - pre.length - 1, by omega⟩
            rw [hi]; rfl
        exact k3 j c e
end
section
variable {P : Program} {o : Oper} {F : Frm} {σ : List Ob}
/-- a new row that is finished at once -/
theorem does_fin {sz n : Nat} {l : List AV} (h : Does P o F [] (.own 0 sz n) [.row sz l]) (hn : n = l.length) (hop0 : ∀ y ∈ o.op.operands, Lo 0 (F.eval y)) (hlo : Lo 0 (.sl l)) : Does P o F σ (.sl l) σ := by
  intro G a next Q hr hop hk
  obtain ⟨G0, hG0⟩ : ∃ G0 : Cx, G0 = { base := G.w.heap.size, w0 := G.w, w := G.w, mu := fun _ => none, St := G.St } := ⟨_, rfl⟩
  have hr0 : Rel G0 [] := by
    subst hG0
    exact ⟨Below.refl _ _, Nat.le_refl _, hr.st, fun id ob h => by simp at h, fun i j b hi _ _ _ => by obtain ⟨_, _, h⟩ := hi; simp at h, fun _ _ => rfl⟩
  have hw : G.w = G0.w := by subst hG0; rfl
  rw [hw]
  refine h G0 a next Q hr0 (fun y hy => (hop y hy).low (hop0 y hy) (by subst hG0; exact fun _ _ h => h) (by subst hG0; exact fun _ _ _ => rfl) (fun id y h => by omega) (fun h => by omega)) (fun v G1 he hr1 hrep => ?_)
  obtain ⟨he2, hr2⟩ := froz_ok hr1 (id := 0) (sz := sz) (cs := l) rfl
  have hrep2 := rep_fz hr2 (id := 0) (sz := sz) (cs := l) rfl hn (hrep.ext he2)
  have hb0 : G1.base = G.w.heap.size := by rw [he.base]; subst hG0; rfl
  have hw0 : (G1.froz 0).w0 = G.w := by show G1.w0 = _; rw [he.w0]; subst hG0; rfl
  have hbel : Below G.w.heap.size G.w (G1.froz 0).w := by have := hr2.below; rwa [show (G1.froz 0).base = G.w.heap.size from hb0, hw0] at this
  have hSt : G0.St = G.St := by subst hG0; rfl
  obtain ⟨h4, h5⟩ := after_call (G1 := G1.froz 0) hr rfl hbel (fun b o h => he2.st _ _ (he.st _ _ (by rw [hSt]; exact h))) (fun b o h => by
    rcases he2.stN b o h with h1 | h1
    · rcases he.stN b o h1 with h2 | h2
      · rw [hSt] at h2; exact .inl h2
      · right; have e : G0.base = G.w.heap.size := by subst hG0; rfl
        omega
    · right; omega) hr2.st
  exact hk v { G with w := (G1.froz 0).w, St := (G1.froz 0).St } h4 h5 (hrep2.low hlo (fun _ _ h => h) (fun _ _ _ => rfl) (fun id y h => by omega) (fun h => by omega))
theorem does_append0F {t e : TypeId} {s y : Operand} {z : Value} {sz bt : Nat} {x y' : AV} {l : List AV} (ho : o.op = .call { callee := .builtin .append, args := #[s, y], argTypes := #[t, t] })
    (ht : tySlice P t = some e) (hi : tyInfo P e = some (some z, sz, bt)) (hzs : z.cells.size = sz) (hsz : 0 < sz) (hx : F.eval s = x) (hx2 : x = .emp ∨ x = .s (.slice none 0 0)) (hy : F.eval y = y') (hsrc : Src [] sz y' l)
    (h63 : l.length ≤ maxLen) (hby : l.length * bt ≤ 140737488355328) (hly : Lo 0 y') (hl : Lo 0 (.sl l)) : Does P o F σ (.sl l) σ :=
  does_fin (does_append0 ho ht hi hzs hsz hx hx2 hy hsrc h63 hby) rfl (fun u hu => by
    simp [ho, Op.operands, Call.operands] at hu
    rcases hu with rfl | rfl
    · rw [hx]; rcases hx2 with rfl | rfl
      · exact .emp
      · exact .s _
    · rw [hy]; exact hly) hl
theorem lit1_sF {t e : TypeId} {y : Operand} {z : Value} {bt : Nat} {v : Value} (ho : o.op = .buildSlice t 1 #[(0, y)]) (ht : tySlice P t = some e) (hi : tyInfo P e = some (some z, 1, bt))
    (h1 : (ofValue z).cells.all AV.one = true) (hn : (ofValue z).cells.length = 1) (hy : F.eval y = .s v) (hx : (AV.s v).one = true) : Does P o F σ (.sl [.s v]) σ :=
  does_fin (lit1_s ho ht hi h1 hn hy hx) rfl (fun u hu => by simp [ho, Op.operands] at hu; subst hu; rw [hy]; exact .s _) (.sl _ (lo_cons (.s _) lo_nil))
theorem lit1_slF {t e : TypeId} {y : Operand} {z : Value} {bt : Nat} {l : List AV} (ho : o.op = .buildSlice t 1 #[(0, y)]) (ht : tySlice P t = some e) (hi : tyInfo P e = some (some z, 1, bt))
    (h1 : (ofValue z).cells.all AV.one = true) (hn : (ofValue z).cells.length = 1) (hy : F.eval y = .sl l) (hx : (AV.sl l).one = true) (hl : Lo 0 (.sl l)) : Does P o F σ (.sl [.sl l]) σ :=
  does_fin (lit1_sl ho ht hi h1 hn hy hx) rfl (fun u hu => by simp [ho, Op.operands] at hu; subst hu; rw [hy]; exact hl) (.sl _ (lo_cons hl lo_nil))
theorem does_litAF {t e : TypeId} {y : Operand} {z : Value} {n bt : Nat} {cs : List AV} (ho : o.op = .buildSlice t 1 #[(0, y)]) (ht : tySlice P t = some e) (hi : tyInfo P e = some (some z, n, bt))
    (h1 : (ofValue z).cells.all AV.one = true) (hn : (ofValue z).cells.length = n) (h2 : 2 ≤ n) (hsm : n ≤ 16777216) (hy : F.eval y = .agg cs) (hx : cs.all AV.one = true) (hl : cs.length = n) (hlo : Lo 0 (.agg cs)) : Does P o F σ (.sl [.agg cs]) σ :=
  does_fin (does_litA ho ht hi h1 hn h2 hsm hy hx hl) rfl (fun u hu => by simp [ho, Op.operands] at hu; subst hu; rw [hy]; exact hlo) (.sl _ (lo_cons hlo lo_nil))
end
section
variable {P : Program} {F : Frm} {σ : List Ob}
/-- one result, a struct in a variable, taken as finished -/
theorem post1cf {ad : Tmp} {ty : TypeId} {id sz k n bt : Nat} {z : Option Value} {ob : Ob} {cs cs1 cs2 : List AV} {e1 : AV} {e : Exit} (he : e = .normal ∨ e = .ret) (ha : tyAgg P ty = some true) (hi : tyInfo P ty = some (z, n, bt)) (hp : F.get ad = .ptr id sz k 0) (hs : σ[id]? = some ob) (ho : rowOf ob = some (sz, cs)) (hk : cs[k]? = some e1) (hc : e1.cells = cs1) (hn : cs1.length = n) (hf : FiniL σ cs1 cs2) : APost P [.cell ad ty] (.agg cs2) e F σ :=
  ⟨he, [_], .cons _ _ _ _ (.cells ad ty id sz k n bt z ob cs e1 ha hi hp hs ho hk (by rw [hc]; exact hn)) .nil, by rw [hc]; exact .agg _ _ hf.1 hf.2⟩
end
end Go.Proofs.Ytmhbfoaecebobaa.Aw
end
