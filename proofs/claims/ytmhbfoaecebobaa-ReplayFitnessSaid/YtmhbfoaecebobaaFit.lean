/-
  frac.Make and replay.Fitness. Conditions: none.
-/
import Derived.Test.YtmhbfoaecebobaaPlay5
import Derived.Test.YtmhbfoaecebobaaFrac1
import Derived.Test.YtmhbfoaecebobaaRef01a
namespace Go.Proofs.Ytmhbfoaecebobaa
set_option linter.unusedSimpArgs false
set_option linter.unusedVariables false
open Go.RowKit

/-- a struct of two cells and a slot as the two results -/
theorem ret_B2t {fn : Func} {R : Ending → World → Prop} {a : Act} {w : World} {t u : Tmp} {g : Nat} {x y z : Value} (hres : fn.results = #[.cell t 39, .tmp u]) (hd : a.defers = [])
    (ht : a.tmps.getD t undef = .pointer (some ⟨g, 0, none⟩)) (hu : a.tmps.getD u undef = z) (hB : K2 w g x y) (hR : R (.returned (.tuple #[.agg #[x, y], z])) w) : bodyPost Try.prog fn R .ret a w := by
  obtain ⟨h1, h2, h3, h4, h5⟩ := hB
  rw [Array.getD_eq_getD_getElem?] at ht hu
  exact bodyPost_ret (by simp only [results, hres]; simp [go_sem, ht, hu, h1, h2]) hd hR
theorem fit_int (neg : Bool) (num den n : Int) (w : World) (h0 : 0 ≤ num) (hd : 0 < den) (h1 : num ≤ 9223372036854775808) (h2 : den ≤ 9223372036854775808) (hn : (if neg then -num else num) = n) :
    Calls Try.prog 81 #[.bool neg, .int .u64 num, .int .u64 den] w fun e w' => e = .returned (.tuple #[.agg #[.int .i64 (FE.of (mkF n den)).n, .int .i64 (FE.of (mkF n den)).d], .int .i64 (FE.of (mkF n den)).e]) ∧ Below w.heap.size w w' := by
  obtain ⟨a, rfl⟩ := Int.eq_ofNat_of_zero_le h0
  obtain ⟨b, rfl⟩ := Int.eq_ofNat_of_zero_le (Int.le_of_lt hd)
  subst hn
  exact fit_any neg a b w (by omega) (by omega) (by omega)
set_option maxRecDepth 100000 in
set_option maxHeartbeats 1000000 in
theorem fmake_any (n d : Int) (w : World) (hn : -4611686018427387904 ≤ n ∧ n ≤ 4611686018427387904) (hd : 0 < d ∧ d ≤ 4611686018427387904) :
    Calls Try.prog 38 #[.int .i64 n, .int .i64 d] w fun e w' => e = .returned (.tuple #[.agg #[.int .i64 (makeE n d).n, .int .i64 (makeE n d).d], .int .i64 (makeE n d).e]) ∧ Below w.heap.size w w' := by
  have hne : d ≠ 0 := by omega
  have HE : Hid (makeE n d = FE.of (mkF n d)) := Lib.hid (by unfold makeE; rw [if_neg hne])
  have hd0 : (d == 0) = false := by simpa using hne
  have hdn : decide (d < 0) = false := by simp; omega
  have HK : Hid (K2 (w.alloc (.cells #[.int .i64 0, .int .i64 0] 39)) w.heap.size (.int .i64 0) (.int .i64 0)) := Lib.hid (K2.new _ _ _ _)
  have HB : Hid (Below w.heap.size w (w.alloc (.cells #[.int .i64 0, .int .i64 0] 39))) := Lib.hid ((Below.refl _ _).alloc (Nat.le_refl _) _)
  have hk := HK.out
  obtain ⟨x1, x2⟩ := hn
  obtain ⟨x3, x4⟩ := hd
  by_cases h0 : n < 0
  all_goals
    refine calls_cps fun R hR => ?_
    have HR := Lib.hid hR
    clear hR
    go_enter Try.func38, Try.ntmps38
    go_wp2_with (first
      | (go_at_call 82; refine (abs_any _ _ (by omega) (by omega)).mono ?_; rintro e w' ⟨rfl, rfl⟩)
      | (go_at_call 81; refine (fit_int _ _ _ n _ (by omega) (by omega) (by omega) (by omega) (by first | (simp; done) | (simp; omega))).mono ?_; rintro e w3 ⟨rfl, hb3⟩; have HK3 := Lib.hid (K2.aft hb3 HK.out); have HB3 := Lib.hid (HB.out.trans (hb3.mono HB.out.size)); clear hb3; replace hk := HK3.out))
    have HDN : Hid ((d.natAbs : Int) = d) := Lib.hid (by omega)
    refine ret_B2t rfl rfl rfl rfl (K2.set HK3.out _ _) (HR.out _ _ ⟨?_, HB3.out.trans (below_set (Nat.le_refl _))⟩)
    rw [HE.out, HDN.out]
    rfl
abbrev encC (x : Cnt) : List Value := [.int .i64 x.p, .int .i64 x.c, .int .i64 x.m, .int .i64 x.r]
abbrev RdCn := Rd 4 encC
abbrev C4 (w : World) (b o : Nat) (x y z u : Value) : Prop := w.cell? ⟨b, o, none⟩ = some x ∧ w.cell? ⟨b, o + 1, none⟩ = some y ∧ w.cell? ⟨b, o + 2, none⟩ = some z ∧ w.cell? ⟨b, o + 3, none⟩ = some u
theorem RdCn.at4 {w : World} {lo hi : Nat} {A : Option Addr} {c : Nat} {l : List Cnt} (h : RdCn w lo hi (.slice A l.length c) l) {k : Nat} (hk : k < l.length) :
    ∃ b off, A = some ⟨b, off, none⟩ ∧ lo ≤ b ∧ b < hi ∧ C4 w b (off + k * 4) (.int .i64 (gti l k).p) (.int .i64 (gti l k).c) (.int .i64 (gti l k).m) (.int .i64 (gti l k).r) := by
  obtain ⟨b, off, hA, h1, h2, hc⟩ := Rd.at_ h (fun _ => rfl) (gti_get hk)
  exact ⟨b, off, hA, h1, h2, hc 0 _ rfl, hc 1 _ rfl, hc 2 _ rfl, hc 3 _ rfl⟩
def numOk (k : Int) : Bool := decide (0 ≤ k) && decide (k ≤ 1048576)
def cntOk (c : Cnt) : Bool := numOk c.p && numOk c.c && numOk c.m && numOk c.r
def addC (a b : Cnt) : Cnt := ⟨a.p + b.p, a.c + b.c, a.m + b.m, a.r + b.r⟩
/-- the sum of replays, if all are in bounds -/
def sumC : List Cnt → Cnt → Option Cnt
  | [], s => some s
  | c :: l, s => if cntOk c then sumC l (addC s c) else none
def fitF (s : Cnt) : FE := if s.c = 0 ∨ s.p = 0 then FE.err 10 else makeE (2 * (s.c * s.p) - s.m * s.p - s.r * s.c) (2 * (s.c * s.p))
def FitE (l : List Cnt) : FE := if 1000 < l.length then FE.err 1 else match sumC l ⟨0, 0, 0, 0⟩ with | none => FE.err 1 | some s => fitF s
/-- a sum of k replays -/
def Bd (k : Nat) (s : Cnt) : Prop := (0 ≤ s.p ∧ s.p ≤ 1048576 * k) ∧ (0 ≤ s.c ∧ s.c ≤ 1048576 * k) ∧ (0 ≤ s.m ∧ s.m ≤ 1048576 * k) ∧ (0 ≤ s.r ∧ s.r ≤ 1048576 * k)
theorem Bd.add {k : Nat} {s c : Cnt} (h : Bd k s) (hc : cntOk c = true) : Bd (k + 1) (addC s c) := by
  unfold cntOk numOk at hc
  simp only [Bool.and_eq_true, decide_eq_true_eq] at hc
  unfold Bd at h ⊢
  simp only [addC]
  omega

theorem cntOk_false {x : Cnt} {k : Nat} (hk : k < 4) (h : numOk (gti [x.p, x.c, x.m, x.r] k) = false) : cntOk x = false := by
  have e : k = 0 ∨ k = 1 ∨ k = 2 ∨ k = 3 := by omega
  rcases e with rfl | rfl | rfl | rfl <;> simp [gti] at h <;> simp [cntOk, h]
theorem cntOk_true {x : Cnt} (h : ∀ i, i < 4 → numOk (gti [x.p, x.c, x.m, x.r] i) = true) : cntOk x = true := by
  have h0 := h 0 (by omega)
  have h1 := h 1 (by omega)
  have h2 := h 2 (by omega)
  have h3 := h 3 (by omega)
  simp [gti] at h0 h1 h2 h3
  simp [cntOk, h0, h1, h2, h3]
set_option maxRecDepth 100000 in
set_option maxHeartbeats 4000000 in
theorem Fitness_any (l : List Cnt) (lo hi : Nat) (v : Value) (w : World) (hv : RdCn w lo hi v l) (hhi : hi ≤ w.heap.size) :
    Calls Try.prog 13 #[v] w fun e w' => e = .returned (.tuple #[.agg #[.int .i64 (FitE l).n, .int .i64 (FitE l).d], .int .i64 (FitE l).e]) ∧ Below w.heap.size w w' := by
  obtain ⟨A, c, rfl, hc, hm⟩ := hv.form
  have HV := Lib.hid hv
  clear hv
  have M : Hid (Mem [Loc.k2 w.heap.size (.int .i64 0) (.int .i64 0), Loc.bl w.heap.size w] (w.alloc (.cells #[.int .i64 0, .int .i64 0] 39))) := Lib.hid ⟨K2.new _ _ _ _, ⟨(Below.refl _ _).alloc (Nat.le_refl _) _, by simp⟩, True.intro⟩
  have hk2 := M.out.1
  refine calls_cps fun R hR => ?_
  have HR := Lib.hid hR
  clear hR
  go_enter Try.func13, Try.ntmps13
  by_cases h1000 : 1000 < l.length
  · have hd : decide ((1000 : Int) < l.length) = true := by simp; omega
    have HE : Hid (FitE l = FE.err 1) := Lib.hid (by unfold FitE; rw [if_pos h1000])
    go_wp2_with fail
    exact ret_B2t rfl rfl rfl rfl M.out.1 (HR.out _ _ ⟨by rw [HE.out]; rfl, M.out.2.1.1⟩)
  · have hd : decide ((1000 : Int) < l.length) = false := by simp; omega
    have HE : Hid (FitE l = match sumC l ⟨0, 0, 0, 0⟩ with | none => FE.err 1 | some s => fitF s) := Lib.hid (by unfold FitE; rw [if_neg h1000])
    have MS : Hid (Mem [Loc.k4f (w.heap.size + 1) (.int .i64 0) (.int .i64 0) (.int .i64 0) (.int .i64 0), Loc.k2 w.heap.size (.int .i64 0) (.int .i64 0), Loc.bl w.heap.size w] ((w.alloc (.cells #[.int .i64 0, .int .i64 0] 39)).alloc (.cells #[.int .i64 0, .int .i64 0, .int .i64 0, .int .i64 0] 29))) := Lib.hid ⟨by have := K4f.new (w.alloc (.cells #[.int .i64 0, .int .i64 0] 39)) (.int .i64 0) (.int .i64 0) (.int .i64 0) (.int .i64 0) 29; rw [World.size_alloc] at this; exact this, M.out.alloc _⟩
    go_wp2_with fail
    go_loopw [16, 6, 8] (fun v16 _ _ wr => ∃ (j : Nat) (s : Cnt), j ≤ l.length ∧ v16 = .int .i64 j ∧ Hid (sumC l ⟨0, 0, 0, 0⟩ = sumC (l.drop j) s) ∧ Hid (Bd j s) ∧ Hid (Mem [Loc.k4f (w.heap.size + 1) (.int .i64 s.p) (.int .i64 s.c) (.int .i64 s.m) (.int .i64 s.r), Loc.k2 w.heap.size (.int .i64 0) (.int .i64 0), Loc.bl w.heap.size w] wr)) (fun v16 _ _ _ => l.length - (intOf v16).toNat)
    case atStart => exact ⟨0, ⟨0, 0, 0, 0⟩, Nat.zero_le _, rfl, Lib.hid rfl, Lib.hid (by unfold Bd; simp), MS⟩
    case round =>
      clear M MS hk2
      obtain ⟨j, s, hj, rfl, HT, HB, M⟩ := hrel
      have hk2 := M.out.2.1
      have hks := M.out.1
      by_cases hlt : j < l.length
      · obtain ⟨bi, oi, rfl, _, _, hci⟩ := RdCn.at4 (HV.out.after M.out.2.2.1.1) hlt
        have HD : Hid (sumC l ⟨0, 0, 0, 0⟩ = if cntOk (gti l j) then sumC (l.drop (j + 1)) (addC s (gti l j)) else none) := Lib.hid (by rw [HT.out, drop_gti hlt]; rfl)
        clear HT
        obtain ⟨x, hx⟩ : ∃ x, gti l j = x := ⟨_, rfl⟩
        rw [hx] at hci HD
        clear hx
        have hzw := M.out.2.2.1.2
        obtain ⟨gx, hgx⟩ : ∃ g, wr.heap.size = g := ⟨_, rfl⟩
        have HGX := Lib.hid hgx
        have hgx1 : w.heap.size + 1 < gx := by have := hks.2.2.2.2.2.2.2.2; omega
        have M2 : Hid (Mem [Loc.rdI (gx + 1) (gx + 2) (.slice (some ⟨gx + 1, 0, none⟩) 4 4) [x.p, x.c, x.m, x.r], Loc.k4f gx (.int .i64 x.p) (.int .i64 x.c) (.int .i64 x.m) (.int .i64 x.r), Loc.k4f (w.heap.size + 1) (.int .i64 s.p) (.int .i64 s.c) (.int .i64 s.m) (.int .i64 s.r), Loc.k2 w.heap.size (.int .i64 0) (.int .i64 0), Loc.bl w.heap.size w] ((wr.alloc (.cells #[.int .i64 x.p, .int .i64 x.c, .int .i64 x.m, .int .i64 x.r] 29)).alloc (.cells #[.int .i64 x.p, .int .i64 x.c, .int .i64 x.m, .int .i64 x.r] 3))) := Lib.hid (by
          have h1 := Own.lit (enc := encI) (size := 1) (wr.alloc (.cells #[.int .i64 x.p, .int .i64 x.c, .int .i64 x.m, .int .i64 x.r] 29)) 3 (gx + 1) [x.p, x.c, x.m, x.r] #[.int .i64 x.p, .int .i64 x.c, .int .i64 x.m, .int .i64 x.r] 4 rfl rfl (by simp; omega) (by decide) (fun _ => rfl)
          simp only [World.size_alloc, hgx] at h1
          have h2 := K4f.new wr (.int .i64 x.p) (.int .i64 x.c) (.int .i64 x.m) (.int .i64 x.r) 29
          rw [hgx] at h2
          exact ⟨Own.rd h1, (Mem.alloc (l := [Loc.k4f gx _ _ _ _]) ⟨h2, True.intro⟩ _).1, (M.out.alloc _).alloc _⟩)
        clear M hgx
        go_wp2_with fail
        rw [HGX.out]
        go_loopw [30, 8] (fun v30 _ wr2 => ∃ k : Nat, k ≤ 4 ∧ v30 = .int .i64 k ∧ Hid (∀ i, i < k → numOk (gti [x.p, x.c, x.m, x.r] i) = true) ∧ Hid (Mem [Loc.rdI (gx + 1) (gx + 2) (.slice (some ⟨gx + 1, 0, none⟩) 4 4) [x.p, x.c, x.m, x.r], Loc.k4f gx (.int .i64 x.p) (.int .i64 x.c) (.int .i64 x.m) (.int .i64 x.r), Loc.k4f (w.heap.size + 1) (.int .i64 s.p) (.int .i64 s.c) (.int .i64 s.m) (.int .i64 s.r), Loc.k2 w.heap.size (.int .i64 0) (.int .i64 0), Loc.bl w.heap.size w] wr2)) (fun v30 _ _ => 4 - (intOf v30).toNat)
        case atStart => exact ⟨0, by omega, rfl, Lib.hid (fun i hi => absurd hi (by omega)), M2⟩
        case round =>
          clear M2 hci hk2 hks
          obtain ⟨k, hk4, rfl, HO, M⟩ := hrel
          have hk2 := M.out.2.2.2.1
          have hks := M.out.2.2.1
          have hkx := M.out.2.1
          by_cases hlk : k < 4
          · obtain ⟨bx, ox, hbx, _, _, hcx⟩ := RdI.at1 (l := [x.p, x.c, x.m, x.r]) M.out.1 (k := k) hlk
            injection hbx with hbx
            injection hbx with e1 e2
            subst e1 e2
            obtain ⟨X, hX⟩ : ∃ X, gti [x.p, x.c, x.m, x.r] k = X := ⟨_, rfl⟩
            have HX := Lib.hid hX
            rw [hX, Nat.zero_add] at hcx
            clear hX
            by_cases hn : X < 0
            · have hd1 : decide (X < 0) = true := by simpa using hn
              have HN : Hid (sumC l ⟨0, 0, 0, 0⟩ = none) := Lib.hid (by rw [HD.out, cntOk_false hlk (by rw [HX.out]; unfold numOk; simp; omega)]; rfl)
              go_wp2_with fail
              refine ret_B2t rfl rfl rfl rfl (K2.set M.out.2.2.2.1 _ _) (HR.out _ _ ⟨?_, (Mem.step (a' := Loc.k2 w.heap.size (.int .i64 0) (.int .i64 0)) M.out.2.2.2 (K2.set M.out.2.2.2.1 _ _) (Chg.set2 _ w.heap.size 0 1 _ _) (by (repeat' (first | exact True.intro | refine And.intro (fun k hk e => ?_) ?_)) <;> (first | exact e | ((try dsimp only [Loc.c1, Loc.c2, Loc.k1, Loc.k2, Loc.k3, Loc.k4, Loc.k6, Loc.fr, Loc.bl, Loc.own, Loc.sz, Loc.rd, Loc.rdI, Loc.rdS, Loc.rdM, Loc.rdT, Loc.ow, Loc.owI, Loc.owN, Loc.set, Loc.ns, Loc.cg, Loc.pb, silD, plD] at hk e) <;> omega)))).2.1.1⟩)
              rw [HE.out, HN.out]; rfl
            · have hd1 : decide (X < 0) = false := by simpa using hn
              by_cases hg : 1048576 < X
              · have hd2 : decide ((1048576 : Int) < X) = true := by simpa using hg
                have HN : Hid (sumC l ⟨0, 0, 0, 0⟩ = none) := Lib.hid (by rw [HD.out, cntOk_false hlk (by rw [HX.out]; unfold numOk; simp; omega)]; rfl)
                go_wp2_with fail
                refine ret_B2t rfl rfl rfl rfl (K2.set M.out.2.2.2.1 _ _) (HR.out _ _ ⟨?_, (Mem.step (a' := Loc.k2 w.heap.size (.int .i64 0) (.int .i64 0)) M.out.2.2.2 (K2.set M.out.2.2.2.1 _ _) (Chg.set2 _ w.heap.size 0 1 _ _) (by (repeat' (first | exact True.intro | refine And.intro (fun k hk e => ?_) ?_)) <;> (first | exact e | ((try dsimp only [Loc.c1, Loc.c2, Loc.k1, Loc.k2, Loc.k3, Loc.k4, Loc.k6, Loc.fr, Loc.bl, Loc.own, Loc.sz, Loc.rd, Loc.rdI, Loc.rdS, Loc.rdM, Loc.rdT, Loc.ow, Loc.owI, Loc.owN, Loc.set, Loc.ns, Loc.cg, Loc.pb, silD, plD] at hk e) <;> omega)))).2.1.1⟩)
                rw [HE.out, HN.out]; rfl
              · have hd2 : decide ((1048576 : Int) < X) = false := by simpa using hg
                have HOX : Hid (numOk X = true) := Lib.hid (by unfold numOk; simp; omega)
                go_wp2_with fail
                exact ⟨⟨k + 1, by omega, by go_num, Lib.hid (fun i hi => by
                  rcases Nat.lt_succ_iff_lt_or_eq.1 hi with h | rfl
                  · exact HO.out i h
                  · rw [HX.out]; exact HOX.out), M⟩, by simp [intOf]; omega⟩
          · obtain rfl : k = 4 := by omega
            have hok := cntOk_true HO.out
            have hbd := HB.out
            have HBN := Lib.hid (hbd.add hok)
            have HNX : Hid (sumC l ⟨0, 0, 0, 0⟩ = sumC (l.drop (j + 1)) (addC s x)) := Lib.hid (by rw [HD.out, hok]; rfl)
            have hb2 : (0 ≤ s.p ∧ s.p ≤ 1048576000) ∧ (0 ≤ s.c ∧ s.c ≤ 1048576000) ∧ (0 ≤ s.m ∧ s.m ≤ 1048576000) ∧ (0 ≤ s.r ∧ s.r ≤ 1048576000) ∧ (0 ≤ x.p ∧ x.p ≤ 1048576) ∧ (0 ≤ x.c ∧ x.c ≤ 1048576) ∧ (0 ≤ x.m ∧ x.m ≤ 1048576) ∧ (0 ≤ x.r ∧ x.r ≤ 1048576) := by
              unfold Bd at hbd
              unfold cntOk numOk at hok
              simp only [Bool.and_eq_true, decide_eq_true_eq] at hok
              omega
            clear hok hbd HD HO
            obtain ⟨⟨q1, q2⟩, ⟨q3, q4⟩, ⟨q5, q6⟩, ⟨q7, q8⟩, ⟨q9, q10⟩, ⟨q11, q12⟩, ⟨q13, q14⟩, ⟨q15, q16⟩⟩ := hb2
            go_wp2_with fail
            exact ⟨⟨j + 1, addC s x, by omega, by go_num, HNX, HBN, Lib.hid (Mem.step (a' := Loc.k4f (w.heap.size + 1) (.int .i64 (s.p + x.p)) (.int .i64 (s.c + x.c)) (.int .i64 (s.m + x.m)) (.int .i64 (s.r + x.r))) M.out.2.2 (K4f.set M.out.2.2.1 _ _ _ _) (Chg.set4 _ (w.heap.size + 1) _ _ _ _) (by (repeat' (first | exact True.intro | refine And.intro (fun k hk e => ?_) ?_)) <;> (first | exact e | ((try dsimp only [Loc.c1, Loc.c2, Loc.k1, Loc.k2, Loc.k3, Loc.k4, Loc.k6, Loc.fr, Loc.bl, Loc.own, Loc.sz, Loc.rd, Loc.rdI, Loc.rdS, Loc.rdM, Loc.rdT, Loc.ow, Loc.owI, Loc.owN, Loc.set, Loc.ns, Loc.cg, Loc.pb, silD, plD] at hk e) <;> omega))))⟩, by simp [intOf]; omega⟩
      · obtain rfl : j = l.length := by omega
        have hbd := HB.out
        have hb2 : (0 ≤ s.p ∧ s.p ≤ 1073741824) ∧ (0 ≤ s.c ∧ s.c ≤ 1073741824) ∧ (0 ≤ s.m ∧ s.m ≤ 1073741824) ∧ (0 ≤ s.r ∧ s.r ≤ 1073741824) := by unfold Bd at hbd; omega
        have HN : Hid (FitE l = fitF s) := Lib.hid (by rw [HE.out, HT.out, List.drop_length]; rfl)
        clear hbd HT HE
        obtain ⟨⟨q1, q2⟩, ⟨q3, q4⟩, ⟨q5, q6⟩, ⟨q7, q8⟩⟩ := hb2
        by_cases hc0 : s.c = 0
        · have hd1 : (s.c == 0) = true := by simpa using hc0
          have HF : Hid (fitF s = FE.err 10) := Lib.hid (by unfold fitF; rw [if_pos (.inl hc0)])
          clear hc0
          go_wp2_with fail
          refine ret_B2t rfl rfl rfl rfl (K2.set M.out.2.1 _ _) (HR.out _ _ ⟨?_, (Mem.step (a' := Loc.k2 w.heap.size (.int .i64 0) (.int .i64 0)) M.out.2 (K2.set M.out.2.1 _ _) (Chg.set2 _ w.heap.size 0 1 _ _) (by (repeat' (first | exact True.intro | refine And.intro (fun k hk e => ?_) ?_)) <;> (first | exact e | ((try dsimp only [Loc.c1, Loc.c2, Loc.k1, Loc.k2, Loc.k3, Loc.k4, Loc.k6, Loc.fr, Loc.bl, Loc.own, Loc.sz, Loc.rd, Loc.rdI, Loc.rdS, Loc.rdM, Loc.rdT, Loc.ow, Loc.owI, Loc.owN, Loc.set, Loc.ns, Loc.cg, Loc.pb, silD, plD] at hk e) <;> omega)))).2.1.1⟩)
          rw [HN.out, HF.out]; rfl
        · have hd1 : (s.c == 0) = false := by simpa using hc0
          by_cases hp0 : s.p = 0
          · have hd2 : (s.p == 0) = true := by simpa using hp0
            have HF : Hid (fitF s = FE.err 10) := Lib.hid (by unfold fitF; rw [if_pos (.inr hp0)])
            clear hp0 hc0
            go_wp2_with fail
            refine ret_B2t rfl rfl rfl rfl (K2.set M.out.2.1 _ _) (HR.out _ _ ⟨?_, (Mem.step (a' := Loc.k2 w.heap.size (.int .i64 0) (.int .i64 0)) M.out.2 (K2.set M.out.2.1 _ _) (Chg.set2 _ w.heap.size 0 1 _ _) (by (repeat' (first | exact True.intro | refine And.intro (fun k hk e => ?_) ?_)) <;> (first | exact e | ((try dsimp only [Loc.c1, Loc.c2, Loc.k1, Loc.k2, Loc.k3, Loc.k4, Loc.k6, Loc.fr, Loc.bl, Loc.own, Loc.sz, Loc.rd, Loc.rdI, Loc.rdS, Loc.rdM, Loc.rdT, Loc.ow, Loc.owI, Loc.owN, Loc.set, Loc.ns, Loc.cg, Loc.pb, silD, plD] at hk e) <;> omega)))).2.1.1⟩)
            rw [HN.out, HF.out]; rfl
          · have hd2 : (s.p == 0) = false := by simpa using hp0
            have HF : Hid (fitF s = makeE (2 * (s.c * s.p) - s.m * s.p - s.r * s.c) (2 * (s.c * s.p))) := Lib.hid (by unfold fitF; rw [if_neg (by omega)])
            have hm1 := mul_bd' s.c s.p (by omega) q4 (by omega) q2
            have hm2 := mul_bd' s.m s.p (by omega) q6 (by omega) q2
            have hm3 := mul_bd' s.r s.c (by omega) q8 (by omega) q4
            have hpos : 0 < s.c * s.p := Int.mul_pos (by omega) (by omega)
            obtain ⟨P1, hP1⟩ : ∃ P, s.c * s.p = P := ⟨_, rfl⟩
            obtain ⟨P2, hP2⟩ : ∃ P, s.m * s.p = P := ⟨_, rfl⟩
            obtain ⟨P3, hP3⟩ : ∃ P, s.r * s.c = P := ⟨_, rfl⟩
            have hw1 : wrap64 (s.c * s.p) = P1 := by rw [hP1]; rw [hP1] at hm1; exact IntWalk.wrap64_in _ (by omega)
            have hw2 : wrap64 (s.m * s.p) = P2 := by rw [hP2]; rw [hP2] at hm2; exact IntWalk.wrap64_in _ (by omega)
            have hw3 : wrap64 (s.r * s.c) = P3 := by rw [hP3]; rw [hP3] at hm3; exact IntWalk.wrap64_in _ (by omega)
            rw [hP1, hP2, hP3] at HF
            rw [hP1] at hm1 hpos
            rw [hP2] at hm2
            rw [hP3] at hm3
            clear hP1 hP2 hP3
            have HMK := Lib.hid (fun W => fmake_any (2 * P1 - P2 - P3) (2 * P1) W (by omega) (by omega))
            go_wp2_with (go_at_call 38; refine (HMK.out _).mono ?_; rintro e w5 ⟨rfl, hb5⟩; replace M := Lib.hid (M.out.below hb5); clear hb5; replace hk2 := M.out.2.1)
            refine ret_B2t rfl rfl rfl rfl (K2.set M.out.2.1 _ _) (HR.out _ _ ⟨?_, (Mem.step (a' := Loc.k2 w.heap.size _ _) M.out.2 (K2.set M.out.2.1 _ _) (Chg.set2 _ w.heap.size 0 1 _ _) (by (repeat' (first | exact True.intro | refine And.intro (fun k hk e => ?_) ?_)) <;> (first | exact e | ((try dsimp only [Loc.c1, Loc.c2, Loc.k1, Loc.k2, Loc.k3, Loc.k4, Loc.k6, Loc.fr, Loc.bl, Loc.own, Loc.sz, Loc.rd, Loc.rdI, Loc.rdS, Loc.rdM, Loc.rdT, Loc.ow, Loc.owI, Loc.owN, Loc.set, Loc.ns, Loc.cg, Loc.pb, silD, plD] at hk e) <;> omega)))).2.1.1⟩)
            rw [HN.out, HF.out]
            rfl
end Go.Proofs.Ytmhbfoaecebobaa
