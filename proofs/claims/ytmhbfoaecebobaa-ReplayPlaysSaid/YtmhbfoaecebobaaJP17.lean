/-
  Texts joined: Fit, BalP, Eq, Awk. Conditions: none.
-/
import Derived.Test.YtmhbfoaecebobaaJP16
import Derived.Test.YtmhbfoaecebobaaJP11
section
namespace Go.Proofs.Ytmhbfoaecebobaa
set_option linter.unusedSimpArgs false
set_option linter.unusedVariables false
open Go.RowKit

/-- a struct of two cells and a slot as the two results -/
theorem ret_B2t {fn : Func} {R : Ending → World → Prop} {a : Act} {w : World} {t u : Tmp} {g : Nat} {x y z : Value} (hres : fn.results = #[.cell t 39, .tmp u]) (hd : a.defers = [])
    (ht : a.tmps.getD t undef = .pointer (some ⟨g, 0, none⟩)) (hu : a.tmps.getD u undef = z) (hB : K2 w g x y) (hR : R (.returned (.tuple #[.agg #[x, y], z])) w) : bodyPost Try.prog fn R .ret a w := by
  obtain ⟨h1, h2, h3, h4, h5⟩ := hB
  rw [Array.getD_eq_getD_getElem?] at ht hu
  exact bodyPost_ret (by simp only [results, hres]; simp [go_sem, ht, hu, h1, h2]) hd hR
theorem fit_int (neg : Bool) (num den n : Int) (w : World) (h0 : 0 ≤ num) (hd : 0 < den) (h1 : num ≤ 9223372036854775808) (h2 : den ≤ 9223372036854775808) (hn : (if neg then -num else num) = n) :
    Calls Try.prog 81 #[.bool neg, .int .u64 num, .int .u64 den] w fun e w' => e = .returned (.tuple #[.agg #[.int .i64 (FE.of (mkF n den)).n, .int .i64 (FE.of (mkF n den)).d], .int .i64 (FE.of (mkF n den)).e]) ∧ Below w.heap.size w w' := by
  obtain ⟨a, rfl⟩ := Int.eq_ofNat_of_zero_le h0
  obtain ⟨b, rfl⟩ := Int.eq_ofNat_of_zero_le (Int.le_of_lt hd)
  subst hn
  exact fit_any neg a b w (by omega) (by omega) (by omega)
set_option maxRecDepth 100000 in
set_option maxHeartbeats 1000000 in
theorem fmake_any (n d : Int) (w : World) (hn : -4611686018427387904 ≤ n ∧ n ≤ 4611686018427387904) (hd : 0 < d ∧ d ≤ 4611686018427387904) :
    Calls Try.prog 38 #[.int .i64 n, .int .i64 d] w fun e w' => e = .returned (.tuple #[.agg #[.int .i64 (makeE n d).n, .int .i64 (makeE n d).d], .int .i64 (makeE n d).e]) ∧ Below w.heap.size w w' := by
  have hne : d ≠ 0 := by omega
  have HE : Hid (makeE n d = FE.of (mkF n d)) := Lib.hid (by unfold makeE; rw [if_neg hne])
  have hd0 : (d == 0) = false := by simpa using hne
  have hdn : decide (d < 0) = false := by simp; omega
  have HK : Hid (K2 (w.alloc (.cells #[.int .i64 0, .int .i64 0] 39)) w.heap.size (.int .i64 0) (.int .i64 0)) := Lib.hid (K2.new _ _ _ _)
  have HB : Hid (Below w.heap.size w (w.alloc (.cells #[.int .i64 0, .int .i64 0] 39))) := Lib.hid ((Below.refl _ _).alloc (Nat.le_refl _) _)
  have hk := HK.out
  obtain ⟨x1, x2⟩ := hn
  obtain ⟨x3, x4⟩ := hd
  by_cases h0 : n < 0
  all_goals
    refine calls_cps fun R hR => ?_
    have HR := Lib.hid hR
    clear hR
    go_enter Try.func38, Try.ntmps38
    go_wp2_with (first
      | (go_at_call 82; refine (abs_any _ _ (by omega) (by omega)).mono ?_; rintro e w' ⟨rfl, rfl⟩)
      | (go_at_call 81; refine (fit_int _ _ _ n _ (by omega) (by omega) (by omega) (by omega) (by first | (simp; done) | (simp; omega))).mono ?_; rintro e w3 ⟨rfl, hb3⟩; have HK3 := Lib.hid (K2.aft hb3 HK.out); have HB3 := Lib.hid (HB.out.trans (hb3.mono HB.out.size)); clear hb3; replace hk := HK3.out))
    have HDN : Hid ((d.natAbs : Int) = d) := Lib.hid (by omega)
    refine ret_B2t rfl rfl rfl rfl (K2.set HK3.out _ _) (HR.out _ _ ⟨?_, HB3.out.trans (below_set (Nat.le_refl _))⟩)
    rw [HE.out, HDN.out]
    rfl
abbrev encC (x : Cnt) : List Value := [.int .i64 x.p, .int .i64 x.c, .int .i64 x.m, .int .i64 x.r]
abbrev RdCn := Rd 4 encC
abbrev C4 (w : World) (b o : Nat) (x y z u : Value) : Prop := w.cell? ⟨b, o, none⟩ = some x ∧ w.cell? ⟨b, o + 1, none⟩ = some y ∧ w.cell? ⟨b, o + 2, none⟩ = some z ∧ w.cell? ⟨b, o + 3, none⟩ = some u
theorem RdCn.at4 {w : World} {lo hi : Nat} {A : Option Addr} {c : Nat} {l : List Cnt} (h : RdCn w lo hi (.slice A l.length c) l) {k : Nat} (hk : k < l.length) :
    ∃ b off, A = some ⟨b, off, none⟩ ∧ lo ≤ b ∧ b < hi ∧ C4 w b (off + k * 4) (.int .i64 (gti l k).p) (.int .i64 (gti l k).c) (.int .i64 (gti l k).m) (.int .i64 (gti l k).r) := by
  obtain ⟨b, off, hA, h1, h2, hc⟩ := Rd.at_ h (fun _ => rfl) (gti_get hk)
  exact ⟨b, off, hA, h1, h2, hc 0 _ rfl, hc 1 _ rfl, hc 2 _ rfl, hc 3 _ rfl⟩
def numOk (k : Int) : Bool := decide (0 ≤ k) && decide (k ≤ 1048576)
def cntOk (c : Cnt) : Bool := numOk c.p && numOk c.c && numOk c.m && numOk c.r
def addC (a b : Cnt) : Cnt := ⟨a.p + b.p, a.c + b.c, a.m + b.m, a.r + b.r⟩
/-- the sum of replays, if all are in bounds -/
def sumC : List Cnt → Cnt → Option Cnt
  | [], s => some s
  | c :: l, s => if cntOk c then sumC l (addC s c) else none
def fitF (s : Cnt) : FE := if s.c = 0 ∨ s.p = 0 then FE.err 10 else makeE (2 * (s.c * s.p) - s.m * s.p - s.r * s.c) (2 * (s.c * s.p))
def FitE (l : List Cnt) : FE := if 1000 < l.length then FE.err 1 else match sumC l ⟨0, 0, 0, 0⟩ with | none => FE.err 1 | some s => fitF s
/-- a sum of k replays -/
def Bd (k : Nat) (s : Cnt) : Prop := (0 ≤ s.p ∧ s.p ≤ 1048576 * k) ∧ (0 ≤ s.c ∧ s.c ≤ 1048576 * k) ∧ (0 ≤ s.m ∧ s.m ≤ 1048576 * k) ∧ (0 ≤ s.r ∧ s.r ≤ 1048576 * k)
theorem Bd.add {k : Nat} {s c : Cnt} (h : Bd k s) (hc : cntOk c = true) : Bd (k + 1) (addC s c) := by
  unfold cntOk numOk at hc
  simp only [Bool.and_eq_true, decide_eq_true_eq] at hc
  unfold Bd at h ⊢
  simp only [addC]
  omega

theorem cntOk_false {x : Cnt} {k : Nat} (hk : k < 4) (h : numOk (gti [x.p, x.c, x.m, x.r] k) = false) : cntOk x = false := by
  have e : k = 0 ∨ k = 1 ∨ k = 2 ∨ k = 3 := by omega
  rcases e with rfl | rfl | rfl | rfl <;> simp [gti] at h <;> simp [cntOk, h]
theorem cntOk_true {x : Cnt} (h : ∀ i, i < 4 → numOk (gti [x.p, x.c, x.m, x.r] i) = true) : cntOk x = true := by
  have h0 := h 0 (by omega)
  have h1 := h 1 (by omega)
  have h2 := h 2 (by omega)
  have h3 := h 3 (by omega)
  simp [gti] at h0 h1 h2 h3
  simp [cntOk, h0, h1, h2, h3]
set_option maxRecDepth 100000 in
set_option maxHeartbeats 4000000 in
theorem Fitness_any (l : List Cnt) (lo hi : Nat) (v : Value) (w : World) (hv : RdCn w lo hi v l) (hhi : hi ≤ w.heap.size) :
    Calls Try.prog 13 #[v] w fun e w' => e = .returned (.tuple #[.agg #[.int .i64 (FitE l).n, .int .i64 (FitE l).d], .int .i64 (FitE l).e]) ∧ Below w.heap.size w w' := by
  obtain ⟨A, c, rfl, hc, hm⟩ := hv.form
  have HV := Lib.hid hv
  clear hv
  have M : Hid (Mem [Loc.k2 w.heap.size (.int .i64 0) (.int .i64 0), Loc.bl w.heap.size w] (w.alloc (.cells #[.int .i64 0, .int .i64 0] 39))) := Lib.hid ⟨K2.new _ _ _ _, ⟨(Below.refl _ _).alloc (Nat.le_refl _) _, by simp⟩, True.intro⟩
  have hk2 := M.out.1
  refine calls_cps fun R hR => ?_
  have HR := Lib.hid hR
  clear hR
  go_enter Try.func13, Try.ntmps13
  by_cases h1000 : 1000 < l.length
  · have hd : decide ((1000 : Int) < l.length) = true := by simp; omega
    have HE : Hid (FitE l = FE.err 1) := Lib.hid (by unfold FitE; rw [if_pos h1000])
    go_wp2_with fail
    exact ret_B2t rfl rfl rfl rfl M.out.1 (HR.out _ _ ⟨by rw [HE.out]; rfl, M.out.2.1.1⟩)
  · have hd : decide ((1000 : Int) < l.length) = false := by simp; omega
    have HE : Hid (FitE l = match sumC l ⟨0, 0, 0, 0⟩ with | none => FE.err 1 | some s => fitF s) := Lib.hid (by unfold FitE; rw [if_neg h1000])
    have MS : Hid (Mem [Loc.k4f (w.heap.size + 1) (.int .i64 0) (.int .i64 0) (.int .i64 0) (.int .i64 0), Loc.k2 w.heap.size (.int .i64 0) (.int .i64 0), Loc.bl w.heap.size w] ((w.alloc (.cells #[.int .i64 0, .int .i64 0] 39)).alloc (.cells #[.int .i64 0, .int .i64 0, .int .i64 0, .int .i64 0] 29))) := Lib.hid ⟨by have := K4f.new (w.alloc (.cells #[.int .i64 0, .int .i64 0] 39)) (.int .i64 0) (.int .i64 0) (.int .i64 0) (.int .i64 0) 29; rw [World.size_alloc] at this; exact this, M.out.alloc _⟩
    go_wp2_with fail
    go_loopw [16, 6, 8] (fun v16 _ _ wr => ∃ (j : Nat) (s : Cnt), j ≤ l.length ∧ v16 = .int .i64 j ∧ Hid (sumC l ⟨0, 0, 0, 0⟩ = sumC (l.drop j) s) ∧ Hid (Bd j s) ∧ Hid (Mem [Loc.k4f (w.heap.size + 1) (.int .i64 s.p) (.int .i64 s.c) (.int .i64 s.m) (.int .i64 s.r), Loc.k2 w.heap.size (.int .i64 0) (.int .i64 0), Loc.bl w.heap.size w] wr)) (fun v16 _ _ _ => l.length - (intOf v16).toNat)
    case atStart => exact ⟨0, ⟨0, 0, 0, 0⟩, Nat.zero_le _, rfl, Lib.hid rfl, Lib.hid (by unfold Bd; simp), MS⟩
    case round =>
      clear M MS hk2
      obtain ⟨j, s, hj, rfl, HT, HB, M⟩ := hrel
      have hk2 := M.out.2.1
      have hks := M.out.1
      by_cases hlt : j < l.length
      · obtain ⟨bi, oi, rfl, _, _, hci⟩ := RdCn.at4 (HV.out.after M.out.2.2.1.1) hlt
        have HD : Hid (sumC l ⟨0, 0, 0, 0⟩ = if cntOk (gti l j) then sumC (l.drop (j + 1)) (addC s (gti l j)) else none) := Lib.hid (by rw [HT.out, drop_gti hlt]; rfl)
        clear HT
        obtain ⟨x, hx⟩ : ∃ x, gti l j = x := ⟨_, rfl⟩
        rw [hx] at hci HD
        clear hx
        have hzw := M.out.2.2.1.2
        obtain ⟨gx, hgx⟩ : ∃ g, wr.heap.size = g := ⟨_, rfl⟩
        have HGX := Lib.hid hgx
        have hgx1 : w.heap.size + 1 < gx := by have := hks.2.2.2.2.2.2.2.2; omega
        have M2 : Hid (Mem [Loc.rdI (gx + 1) (gx + 2) (.slice (some ⟨gx + 1, 0, none⟩) 4 4) [x.p, x.c, x.m, x.r], Loc.k4f gx (.int .i64 x.p) (.int .i64 x.c) (.int .i64 x.m) (.int .i64 x.r), Loc.k4f (w.heap.size + 1) (.int .i64 s.p) (.int .i64 s.c) (.int .i64 s.m) (.int .i64 s.r), Loc.k2 w.heap.size (.int .i64 0) (.int .i64 0), Loc.bl w.heap.size w] ((wr.alloc (.cells #[.int .i64 x.p, .int .i64 x.c, .int .i64 x.m, .int .i64 x.r] 29)).alloc (.cells #[.int .i64 x.p, .int .i64 x.c, .int .i64 x.m, .int .i64 x.r] 3))) := Lib.hid (by
          have h1 := Own.lit (enc := encI) (size := 1) (wr.alloc (.cells #[.int .i64 x.p, .int .i64 x.c, .int .i64 x.m, .int .i64 x.r] 29)) 3 (gx + 1) [x.p, x.c, x.m, x.r] #[.int .i64 x.p, .int .i64 x.c, .int .i64 x.m, .int .i64 x.r] 4 rfl rfl (by simp; omega) (by decide) (fun _ => rfl)
          simp only [World.size_alloc, hgx] at h1
          have h2 := K4f.new wr (.int .i64 x.p) (.int .i64 x.c) (.int .i64 x.m) (.int .i64 x.r) 29
          rw [hgx] at h2
          exact ⟨Own.rd h1, (Mem.alloc (l := [Loc.k4f gx _ _ _ _]) ⟨h2, True.intro⟩ _).1, (M.out.alloc _).alloc _⟩)
        clear M hgx
        go_wp2_with fail
        rw [HGX.out]
        go_loopw [30, 8] (fun v30 _ wr2 => ∃ k : Nat, k ≤ 4 ∧ v30 = .int .i64 k ∧ Hid (∀ i, i < k → numOk (gti [x.p, x.c, x.m, x.r] i) = true) ∧ Hid (Mem [Loc.rdI (gx + 1) (gx + 2) (.slice (some ⟨gx + 1, 0, none⟩) 4 4) [x.p, x.c, x.m, x.r], Loc.k4f gx (.int .i64 x.p) (.int .i64 x.c) (.int .i64 x.m) (.int .i64 x.r), Loc.k4f (w.heap.size + 1) (.int .i64 s.p) (.int .i64 s.c) (.int .i64 s.m) (.int .i64 s.r), Loc.k2 w.heap.size (.int .i64 0) (.int .i64 0), Loc.bl w.heap.size w] wr2)) (fun v30 _ _ => 4 - (intOf v30).toNat)
        case atStart => exact ⟨0, by omega, rfl, Lib.hid (fun i hi => absurd hi (by omega)), M2⟩
        case round =>
          clear M2 hci hk2 hks
          obtain ⟨k, hk4, rfl, HO, M⟩ := hrel
          have hk2 := M.out.2.2.2.1
          have hks := M.out.2.2.1
          have hkx := M.out.2.1
          by_cases hlk : k < 4
          · obtain ⟨bx, ox, hbx, _, _, hcx⟩ := RdI.at1 (l := [x.p, x.c, x.m, x.r]) M.out.1 (k := k) hlk
            injection hbx with hbx
            injection hbx with e1 e2
            subst e1 e2
            obtain ⟨X, hX⟩ : ∃ X, gti [x.p, x.c, x.m, x.r] k = X := ⟨_, rfl⟩
            have HX := Lib.hid hX
            rw [hX, Nat.zero_add] at hcx
            clear hX
            by_cases hn : X < 0
            · have hd1 : decide (X < 0) = true := by simpa using hn
              have HN : Hid (sumC l ⟨0, 0, 0, 0⟩ = none) := Lib.hid (by rw [HD.out, cntOk_false hlk (by rw [HX.out]; unfold numOk; simp; omega)]; rfl)
              go_wp2_with fail
              refine ret_B2t rfl rfl rfl rfl (K2.set M.out.2.2.2.1 _ _) (HR.out _ _ ⟨?_, (Mem.step (a' := Loc.k2 w.heap.size (.int .i64 0) (.int .i64 0)) M.out.2.2.2 (K2.set M.out.2.2.2.1 _ _) (Chg.set2 _ w.heap.size 0 1 _ _) (by (repeat' (first | exact True.intro | refine And.intro (fun k hk e => ?_) ?_)) <;> (first | exact e | ((try dsimp only [Loc.c1, Loc.c2, Loc.k1, Loc.k2, Loc.k3, Loc.k4, Loc.k6, Loc.fr, Loc.bl, Loc.own, Loc.sz, Loc.rd, Loc.rdI, Loc.rdS, Loc.rdM, Loc.rdT, Loc.ow, Loc.owI, Loc.owN, Loc.set, Loc.ns, Loc.cg, Loc.pb, silD, plD] at hk e) <;> omega)))).2.1.1⟩)
              rw [HE.out, HN.out]; rfl
            · have hd1 : decide (X < 0) = false := by simpa using hn
              by_cases hg : 1048576 < X
              · have hd2 : decide ((1048576 : Int) < X) = true := by simpa using hg
                have HN : Hid (sumC l ⟨0, 0, 0, 0⟩ = none) := Lib.hid (by rw [HD.out, cntOk_false hlk (by rw [HX.out]; unfold numOk; simp; omega)]; rfl)
                go_wp2_with fail
                refine ret_B2t rfl rfl rfl rfl (K2.set M.out.2.2.2.1 _ _) (HR.out _ _ ⟨?_, (Mem.step (a' := Loc.k2 w.heap.size (.int .i64 0) (.int .i64 0)) M.out.2.2.2 (K2.set M.out.2.2.2.1 _ _) (Chg.set2 _ w.heap.size 0 1 _ _) (by (repeat' (first | exact True.intro | refine And.intro (fun k hk e => ?_) ?_)) <;> (first | exact e | ((try dsimp only [Loc.c1, Loc.c2, Loc.k1, Loc.k2, Loc.k3, Loc.k4, Loc.k6, Loc.fr, Loc.bl, Loc.own, Loc.sz, Loc.rd, Loc.rdI, Loc.rdS, Loc.rdM, Loc.rdT, Loc.ow, Loc.owI, Loc.owN, Loc.set, Loc.ns, Loc.cg, Loc.pb, silD, plD] at hk e) <;> omega)))).2.1.1⟩)
                rw [HE.out, HN.out]; rfl
              · have hd2 : decide ((1048576 : Int) < X) = false := by simpa using hg
                have HOX : Hid (numOk X = true) := Lib.hid (by unfold numOk; simp; omega)
                go_wp2_with fail
                exact ⟨⟨k + 1, by omega, by go_num, Lib.hid (fun i hi => by
                  rcases Nat.lt_succ_iff_lt_or_eq.1 hi with h | rfl
                  · exact HO.out i h
                  · rw [HX.out]; exact HOX.out), M⟩, by simp [intOf]; omega⟩
          · obtain rfl : k = 4 := by omega
            have hok := cntOk_true HO.out
            have hbd := HB.out
            have HBN := Lib.hid (hbd.add hok)
            have HNX : Hid (sumC l ⟨0, 0, 0, 0⟩ = sumC (l.drop (j + 1)) (addC s x)) := Lib.hid (by rw [HD.out, hok]; rfl)
            have hb2 : (0 ≤ s.p ∧ s.p ≤ 1048576000) ∧ (0 ≤ s.c ∧ s.c ≤ 1048576000) ∧ (0 ≤ s.m ∧ s.m ≤ 1048576000) ∧ (0 ≤ s.r ∧ s.r ≤ 1048576000) ∧ (0 ≤ x.p ∧ x.p ≤ 1048576) ∧ (0 ≤ x.c ∧ x.c ≤ 1048576) ∧ (0 ≤ x.m ∧ x.m ≤ 1048576) ∧ (0 ≤ x.r ∧ x.r ≤ 1048576) := by
              unfold Bd at hbd
              unfold cntOk numOk at hok
              simp only [Bool.and_eq_true, decide_eq_true_eq] at hok
              omega
            clear hok hbd HD HO
            obtain ⟨⟨q1, q2⟩, ⟨q3, q4⟩, ⟨q5, q6⟩, ⟨q7, q8⟩, ⟨q9, q10⟩, ⟨q11, q12⟩, ⟨q13, q14⟩, ⟨q15, q16⟩⟩ := hb2
            go_wp2_with fail
            exact ⟨⟨j + 1, addC s x, by omega, by go_num, HNX, HBN, Lib.hid (Mem.step (a' := Loc.k4f (w.heap.size + 1) (.int .i64 (s.p + x.p)) (.int .i64 (s.c + x.c)) (.int .i64 (s.m + x.m)) (.int .i64 (s.r + x.r))) M.out.2.2 (K4f.set M.out.2.2.1 _ _ _ _) (Chg.set4 _ (w.heap.size + 1) _ _ _ _) (by (repeat' (first | exact True.intro | refine And.intro (fun k hk e => ?_) ?_)) <;> (first | exact e | ((try dsimp only [Loc.c1, Loc.c2, Loc.k1, Loc.k2, Loc.k3, Loc.k4, Loc.k6, Loc.fr, Loc.bl, Loc.own, Loc.sz, Loc.rd, Loc.rdI, Loc.rdS, Loc.rdM, Loc.rdT, Loc.ow, Loc.owI, Loc.owN, Loc.set, Loc.ns, Loc.cg, Loc.pb, silD, plD] at hk e) <;> omega))))⟩, by simp [intOf]; omega⟩
      · obtain rfl : j = l.length := by omega
        have hbd := HB.out
        have hb2 : (0 ≤ s.p ∧ s.p ≤ 1073741824) ∧ (0 ≤ s.c ∧ s.c ≤ 1073741824) ∧ (0 ≤ s.m ∧ s.m ≤ 1073741824) ∧ (0 ≤ s.r ∧ s.r ≤ 1073741824) := by unfold Bd at hbd; omega
        have HN : Hid (FitE l = fitF s) := Lib.hid (by rw [HE.out, HT.out, List.drop_length]; rfl)
        clear hbd HT HE
        obtain ⟨⟨q1, q2⟩, ⟨q3, q4⟩, ⟨q5, q6⟩, ⟨q7, q8⟩⟩ := hb2
        by_cases hc0 : s.c = 0
        · have hd1 : (s.c == 0) = true := by simpa using hc0
          have HF : Hid (fitF s = FE.err 10) := Lib.hid (by unfold fitF; rw [if_pos (.inl hc0)])
          clear hc0
          go_wp2_with fail
          refine ret_B2t rfl rfl rfl rfl (K2.set M.out.2.1 _ _) (HR.out _ _ ⟨?_, (Mem.step (a' := Loc.k2 w.heap.size (.int .i64 0) (.int .i64 0)) M.out.2 (K2.set M.out.2.1 _ _) (Chg.set2 _ w.heap.size 0 1 _ _) (by (repeat' (first | exact True.intro | refine And.intro (fun k hk e => ?_) ?_)) <;> (first | exact e | ((try dsimp only [Loc.c1, Loc.c2, Loc.k1, Loc.k2, Loc.k3, Loc.k4, Loc.k6, Loc.fr, Loc.bl, Loc.own, Loc.sz, Loc.rd, Loc.rdI, Loc.rdS, Loc.rdM, Loc.rdT, Loc.ow, Loc.owI, Loc.owN, Loc.set, Loc.ns, Loc.cg, Loc.pb, silD, plD] at hk e) <;> omega)))).2.1.1⟩)
          rw [HN.out, HF.out]; rfl
        · have hd1 : (s.c == 0) = false := by simpa using hc0
          by_cases hp0 : s.p = 0
          · have hd2 : (s.p == 0) = true := by simpa using hp0
            have HF : Hid (fitF s = FE.err 10) := Lib.hid (by unfold fitF; rw [if_pos (.inr hp0)])
            clear hp0 hc0
            go_wp2_with fail
            refine ret_B2t rfl rfl rfl rfl (K2.set M.out.2.1 _ _) (HR.out _ _ ⟨?_, (Mem.step (a' := Loc.k2 w.heap.size (.int .i64 0) (.int .i64 0)) M.out.2 (K2.set M.out.2.1 _ _) (Chg.set2 _ w.heap.size 0 1 _ _) (by (repeat' (first | exact True.intro | refine And.intro (fun k hk e => ?_) ?_)) <;> (first | exact e | ((try dsimp only [Loc.c1, Loc.c2, Loc.k1, Loc.k2, Loc.k3, Loc.k4, Loc.k6, Loc.fr, Loc.bl, Loc.own, Loc.sz, Loc.rd, Loc.rdI, Loc.rdS, Loc.rdM, Loc.rdT, Loc.ow, Loc.owI, Loc.owN, Loc.set, Loc.ns, Loc.cg, Loc.pb, silD, plD] at hk e) <;> omega)))).2.1.1⟩)
            rw [HN.out, HF.out]; rfl
          · have hd2 : (s.p == 0) = false := by simpa using hp0
            have HF : Hid (fitF s = makeE (2 * (s.c * s.p) - s.m * s.p - s.r * s.c) (2 * (s.c * s.p))) := Lib.hid (by unfold fitF; rw [if_neg (by omega)])
            have hm1 := mul_bd' s.c s.p (by omega) q4 (by omega) q2
            have hm2 := mul_bd' s.m s.p (by omega) q6 (by omega) q2
            have hm3 := mul_bd' s.r s.c (by omega) q8 (by omega) q4
            have hpos : 0 < s.c * s.p := Int.mul_pos (by omega) (by omega)
            obtain ⟨P1, hP1⟩ : ∃ P, s.c * s.p = P := ⟨_, rfl⟩
            obtain ⟨P2, hP2⟩ : ∃ P, s.m * s.p = P := ⟨_, rfl⟩
            obtain ⟨P3, hP3⟩ : ∃ P, s.r * s.c = P := ⟨_, rfl⟩
            have hw1 : wrap64 (s.c * s.p) = P1 := by rw [hP1]; rw [hP1] at hm1; exact IntWalk.wrap64_in _ (by omega)
            have hw2 : wrap64 (s.m * s.p) = P2 := by rw [hP2]; rw [hP2] at hm2; exact IntWalk.wrap64_in _ (by omega)
            have hw3 : wrap64 (s.r * s.c) = P3 := by rw [hP3]; rw [hP3] at hm3; exact IntWalk.wrap64_in _ (by omega)
            rw [hP1, hP2, hP3] at HF
            rw [hP1] at hm1 hpos
            rw [hP2] at hm2
            rw [hP3] at hm3
            clear hP1 hP2 hP3
            have HMK := Lib.hid (fun W => fmake_any (2 * P1 - P2 - P3) (2 * P1) W (by omega) (by omega))
            go_wp2_with (go_at_call 38; refine (HMK.out _).mono ?_; rintro e w5 ⟨rfl, hb5⟩; replace M := Lib.hid (M.out.below hb5); clear hb5; replace hk2 := M.out.2.1)
            refine ret_B2t rfl rfl rfl rfl (K2.set M.out.2.1 _ _) (HR.out _ _ ⟨?_, (Mem.step (a' := Loc.k2 w.heap.size _ _) M.out.2 (K2.set M.out.2.1 _ _) (Chg.set2 _ w.heap.size 0 1 _ _) (by (repeat' (first | exact True.intro | refine And.intro (fun k hk e => ?_) ?_)) <;> (first | exact e | ((try dsimp only [Loc.c1, Loc.c2, Loc.k1, Loc.k2, Loc.k3, Loc.k4, Loc.k6, Loc.fr, Loc.bl, Loc.own, Loc.sz, Loc.rd, Loc.rdI, Loc.rdS, Loc.rdM, Loc.rdT, Loc.ow, Loc.owI, Loc.owN, Loc.set, Loc.ns, Loc.cg, Loc.pb, silD, plD] at hk e) <;> omega)))).2.1.1⟩)
            rw [HN.out, HF.out]
            rfl
end Go.Proofs.Ytmhbfoaecebobaa
end
section
namespace Go.Proofs.Ytmhbfoaecebobaa
set_option linter.unusedSimpArgs false
set_option linter.unusedVariables false
open Go.RowKit

def inS (n : Net) : List Int → Int
  | [] => 0
  | t :: l => (gti n.trans t.toNat).inn.length + inS n l
def outS (n : Net) : List Int → Int
  | [] => 0
  | t :: l => (gti n.trans t.toNat).out.length + outS n l
theorem inS_snoc (n : Net) (t : Int) : ∀ l, inS n (l ++ [t]) = inS n l + (gti n.trans t.toNat).inn.length
  | [] => by simp [inS]
  | a :: l => by rw [List.cons_append, inS, inS, inS_snoc n t l]; omega
theorem outS_snoc (n : Net) (t : Int) : ∀ l, outS n (l ++ [t]) = outS n l + (gti n.trans t.toNat).out.length
  | [] => by simp [outS]
  | a :: l => by rw [List.cons_append, outS, outS, outS_snoc n t l]; omega
/-- the activities that no transition has -/
def PC (n : Net) (s : Pl) : Prop := ∃ u : Int, 0 ≤ u ∧ s.c.c = u + inS n s.run ∧ s.c.p = 1 + u + outS n s.run
theorem PC.take {n : Net} {s : Pl} (h : PC n s) (t : Int) : PC n (takeP n t s) := by
  obtain ⟨u, h0, h1, h2⟩ := h
  obtain ⟨e1, e2, e3, e4⟩ := takeP_c n t s
  refine ⟨u, h0, ?_, ?_⟩
  · rw [e1, e4, inS_snoc]; omega
  · rw [e2, e4, outS_snoc]; omega
theorem PC.all {n : Net} : ∀ {l : List Int} {s : Pl}, PC n s → PC n (takeAll n l s)
  | [], s, h => h
  | t :: l, s, h => PC.all (l := l) (s := takeP n t s) (h.take t)
theorem PC.play {n : Net} {s : Pl} (h : PC n s) (act : ByteArray) : PC n (playE n act s) := by
  unfold playE
  split
  · exact h.all.take _
  · split
    · exact h.take _
    · obtain ⟨u, h0, h1, h2⟩ := h
      exact ⟨u + 1, by omega, by simp only; omega, by simp only; omega⟩
theorem playL_some {n : Net} (hv : validB n = true) : ∀ {l : List ByteArray} {s s' : Pl} {B : Nat}, PM n s → s.big = false → Sm s B → PC n s → playL n l s = some s' → PM n s' ∧ s'.big = false ∧ Sm s' (B + 200 * l.length) ∧ PC n s'
  | [], s, s', B, h1, h2, h3, h4, h => by
    simp only [playL, Option.some.injEq] at h
    subst h
    exact ⟨h1, h2, by simpa using h3, h4⟩
  | a :: l, s, s', B, h1, h2, h3, h4, h => by
    rw [playL] at h
    split at h
    · cases h
    · rename_i hb
      obtain ⟨p1, p2⟩ := play_pm (act := a) hv h1 h2 h3
      obtain ⟨q1, q2, q3, q4⟩ := playL_some hv (l := l) p1 (by simpa using hb) p2 (h4.play a) h
      exact ⟨q1, q2, q3.mono (by simp; omega), q4⟩
theorem takeIn1_c (s : Pl) (k : Int) : (takeIn1 s k).c.p = s.c.p ∧ (takeIn1 s k).c.c = s.c.c + 1 ∧ (takeIn1 s k).c.r = s.c.r := by
  unfold takeIn1; split <;> exact ⟨rfl, rfl, rfl⟩
structure Good3 (n : Net) (c : Cnt) (run : List Int) : Prop where
  u : ∃ u : Int, 0 ≤ u ∧ c.c = 1 + u + inS n run ∧ c.p = 1 + u + outS n run
  m0 : 0 ≤ c.m
  mc : c.m ≤ c.c
  r0 : 0 ≤ c.r
  rp : c.r ≤ c.p
  bal : c.p + c.m = c.c + c.r
  rg : ∀ t ∈ run, 0 ≤ t ∧ t < n.trans.length
  big : c.p ≤ 10000000 ∧ c.c ≤ 10000000
  len : run.length ≤ 100000
  valid : validB n = true
theorem PlayE_good {n : Net} {w : List ByteArray} (h : (PlayE n w).2.2 = 0) : Good3 n (PlayE n w).1 (PlayE n w).2.1 := by
  unfold PlayE at h ⊢
  split at h
  · exact absurd h (by decide)
  · rename_i hw
    split at h
    · exact absurd h (by decide)
    · rename_i hl
      rw [if_neg hw, if_neg hl]
      have hv : validB n = true := by
        cases hz : wfB n with
        | false => rw [hz] at hw; exact absurd rfl hw
        | true => exact wfB_valid hz
      cases hp : playL n w (pl0 n) with
      | none => rw [hp] at h; exact absurd h (by simp [endE])
      | some s =>
        rw [hp] at h
        obtain ⟨a1, a2, a3⟩ := pl0_pm hv
        obtain ⟨b1, b2, b3, b4⟩ := playL_some hv a1 a3 a2 ⟨0, by omega, by simp [pl0, inS], by simp [pl0, outS]⟩ hp
        obtain ⟨c1, c2, c3⟩ := finA_pm hv b1 b2 b3
        have c4 : PC n (finA n s) := by
          unfold finA
          split
          · exact b4.all
          · exact b4
        unfold endE at h ⊢
        simp only at h ⊢
        split at h
        · exact absurd h (by simp)
        · rename_i hb
          rw [if_neg hb]
          have hs := (validB_ends hv).2
          have hpt := c1.pt.in1 hs.1 hs.2
          obtain ⟨e1, e2, e3⟩ := takeIn1_c (finA n s) n.sink
          have hbal := hpt.bal
          have hsum := sumI_ge _ hpt.nn
          have h1 := hpt.c0
          have h2 := hpt.mc
          have h3 := hpt.r0
          have h4 := c2.p
          have h5 := c2.c
          have h6 := c2.l
          obtain ⟨u, u0, u1, u2⟩ := c4
          refine ⟨⟨u, u0, ?_, ?_⟩, ?_, ?_, ?_, ?_, ?_, ?_, ⟨?_, ?_⟩, ?_, hv⟩
          · simp only [finE]; omega
          · simp only [finE]; omega
          · simp only [finE]; omega
          · simp only [finE]; omega
          · simp only [finE]; omega
          · simp only [finE]; omega
          · simp only [finE]; omega
          · exact c1.rg
          · simp only [finE]; omega
          · simp only [finE]; omega
          · simp only [finE]; omega
theorem PlayE_err {n : Net} {w : List ByteArray} (h : (PlayE n w).2.2 ≠ 0) : (PlayE n w).1 = ⟨0, 0, 0, 0⟩ ∧ (PlayE n w).2.1 = [] := by
  unfold PlayE at h ⊢
  split
  · exact ⟨rfl, rfl⟩
  · rename_i hw
    rw [if_neg hw] at h
    split
    · exact ⟨rfl, rfl⟩
    · rename_i hl
      rw [if_neg hl] at h
      unfold endE at h ⊢
      split
      · exact ⟨rfl, rfl⟩
      · rename_i s hs
        rw [hs] at h
        simp only at h
        split
        · exact ⟨rfl, rfl⟩
        · rename_i hb; rw [if_neg hb] at h; exact absurd rfl h
end Go.Proofs.Ytmhbfoaecebobaa
end
section
namespace Go.Proofs.Ytmhbfoaecebobaa
set_option linter.unusedSimpArgs false
set_option linter.unusedVariables false
open Go.RowKit

/-- a list, returned: it lies in new memory -/
def RetL (w : World) (l : List Int) (e : Ending) (w' : World) : Prop :=
  ∃ A c, e = .returned (.slice A l.length c) ∧ RdI w' w.heap.size w'.heap.size (.slice A l.length c) l ∧ Below w.heap.size w w'
theorem RetL.mk {w w' : World} {l : List Int} {n k : Nat} {A : Option Addr} (hn : n = l.length) {lo hi : Nat} (hr : RdI w' lo hi (.slice A n k) l) (hlo : w.heap.size ≤ lo) (hhi : hi ≤ w'.heap.size) (hb : Below w.heap.size w w') : RetL w l (.returned (.slice A n k)) w' := by
  subst hn
  exact ⟨A, k, rfl, hr.mono hlo hhi, hb⟩

def oneR (p : Int) (k : Nat) : List Int := (List.range k).map fun (i : Nat) => if (i : Int) = p then 1 else 0
theorem oneR_succ (p : Int) (k : Nat) : oneR p (k + 1) = oneR p k ++ [if (k : Int) = p then 1 else 0] := by simp [oneR, List.range_succ]
theorem oneR_len (p : Int) (k : Nat) : (oneR p k).length = k := by simp [oneR]
theorem oneR_eq {p : Int} {k : Nat} (h0 : 0 ≤ p) : oneR p k = oneL k p := by
  obtain ⟨q, rfl⟩ := Int.eq_ofNat_of_zero_le h0
  unfold oneR oneL
  apply List.ext_getElem?
  intro i
  rw [List.getElem?_set, Int.toNat_natCast]
  by_cases hi : i < k
  · by_cases hq : q = i
    · subst hq; simp [hi]
    · have : ¬ (i : Int) = q := by omega
      simp [hi, hq, this]
  · by_cases hq : q = i
    · subst hq; simp [hi]
    · simp [hi, hq]

/-- two lists of one length, equal or not, element by element -/
def eqLs {α : Type} [DecidableEq α] : List α → List α → Bool
  | [], [] => true
  | x :: a, y :: b => if x = y then eqLs a b else false
  | _, _ => false
theorem eqLs_iff {α : Type} [DecidableEq α] : ∀ a b : List α, eqLs a b = decide (a = b)
  | [], [] => rfl
  | [], _ :: _ => by simp [eqLs]
  | _ :: _, [] => by simp [eqLs]
  | x :: a, y :: b => by
    rw [eqLs, eqLs_iff a b]
    by_cases h : x = y <;> simp [h]
theorem eqLs_len {α : Type} [DecidableEq α] {a b : List α} (h : a.length ≠ b.length) : decide (a = b) = false := by
  simp
  intro e
  exact h (by rw [e])

set_option maxHeartbeats 1000000 in
theorem equalI_any (a b : List Int) (lo hi lo2 hi2 : Nat) (v1 v2 : Value) (w : World) (h1 : RdI w lo hi v1 a) (h2 : RdI w lo2 hi2 v2 b) :
    Calls Try.prog 12 #[v1, v2] w fun e w' => e = .returned (.bool (decide (a = b))) ∧ Below w.heap.size w w' := by
  obtain ⟨A1, c1, rfl, hc1, hm1⟩ := h1.form
  obtain ⟨A2, c2, rfl, hc2, hm2⟩ := h2.form
  have H1 := Lib.hid h1
  have H2 := Lib.hid h2
  clear h1 h2
  refine calls_cps fun R hR => ?_
  have HR := Lib.hid hR
  clear hR
  go_enter Try.func12, Try.ntmps12
  by_cases hl : a.length = b.length
  · have hl' : (a.length : Int) = b.length := by omega
    have HL := Lib.hid hl
    clear hl
    go_wp2_with fail
    go_loopw [13, 5] (fun v13 _ wr => ∃ (k q : Nat), k ≤ a.length ∧ v13 = .int .i64 k ∧ wr = w.drewN q ∧ Hid (decide (a = b) = eqLs (a.drop k) (b.drop k))) (fun v13 _ _ => a.length - (intOf v13).toNat)
    case atStart => exact ⟨0, 0, by omega, rfl, rfl, Lib.hid (by rw [← eqLs_iff]; rfl)⟩
    case round =>
      obtain ⟨k, q, hk, rfl, rfl, HI⟩ := hrel
      by_cases hlt : k < a.length
      · have hkd : decide ((k : Int) < (a.length : Int)) = true := by simp; omega
        have hkb : (k : Int) < (a.length : Int) := by omega
        have hkc : (k : Int) < (b.length : Int) := by omega
        obtain ⟨b1, o1, rfl, _, _, f1⟩ := RdI.at1 H1.out hlt
        obtain ⟨b2, o2, rfl, _, _, f2⟩ := RdI.at1 H2.out (k := k) (by have := HL.out; omega)
        have HJ : Hid (decide (a = b) = if gti a k = gti b k then eqLs (a.drop (k + 1)) (b.drop (k + 1)) else false) := Lib.hid (by rw [HI.out, drop_gti hlt, drop_gti (l := b) (k := k) (by have := HL.out; omega), eqLs])
        generalize gti a k = x at *
        generalize gti b k = y at *
        go_wp2
        go_quiet (fail)
        go_wp2
        all_goals have hj := HJ.out
        · refine HR.out _ _ ⟨ret_bool ?_, below_drewN (below_drewN (Below.refl _ _) _) _⟩
          clear HJ HI; go_light; grind
        all_goals first
          | (refine ⟨⟨k + 1, q + nq, by omega, by go_num, by first | rfl | rw [World.drewN_drewN], Lib.hid (by clear HJ HI; go_light; grind)⟩, by simp [intOf]; omega⟩)
      · have hkd : decide ((k : Int) < (a.length : Int)) = false := by simp; omega
        have HE : Hid (decide (a = b) = true) := Lib.hid (by rw [HI.out, List.drop_eq_nil_of_le (by omega), List.drop_eq_nil_of_le (by have := HL.out; omega)]; rfl)
        clear HI
        go_wp2
        exact HR.out _ _ ⟨ret_bool HE.out.symm, below_drewN (Below.refl _ _) _⟩
  · have hl' : ¬ (a.length : Int) = b.length := by omega
    have HL := Lib.hid hl
    clear hl
    go_wp2_with fail
    exact HR.out _ _ ⟨ret_bool (eqLs_len HL.out).symm, Below.refl _ _⟩

end Go.Proofs.Ytmhbfoaecebobaa
end
section
namespace Go.Proofs.Ytmhbfoaecebobaa
set_option linter.unusedSimpArgs false
set_option linter.unusedVariables false
open Go.RowKit

theorem Rd.of_cells {α : Type} {size : Nat} {enc : α → List Value} {W : World} {b : Nat} {l : List α} (he : ∀ a, (enc a).length = size) (hm : l.length ≤ maxLen) (h : ∀ j u, (l.flatMap enc)[j]? = some u → W.cell? ⟨b, j, none⟩ = some u) (n : Nat) (hn : n = l.length) (hi : Nat) (hb : b < hi) :
    Rd size enc W 0 hi (.slice (some ⟨b, 0, none⟩) n n) l := by
  subst hn
  exact ⟨flatMap_len he l, _, _, rfl, Nat.le_refl _, hm, fun _ => ⟨b, 0, rfl, Nat.zero_le _, hb, fun j u hu => by rw [Nat.zero_add]; exact h j u hu⟩⟩
theorem get9 {x0 x1 x2 x3 x4 x5 x6 x7 x8 : Value} {P : Nat → Value → Prop} (h0 : P 0 x0) (h1 : P 1 x1) (h2 : P 2 x2) (h3 : P 3 x3) (h4 : P 4 x4) (h5 : P 5 x5) (h6 : P 6 x6) (h7 : P 7 x7) (h8 : P 8 x8) : ∀ j u, [x0, x1, x2, x3, x4, x5, x6, x7, x8][j]? = some u → P j u := by
  intro j u hu
  match j, hu with
  | 0, hu => simp at hu; exact hu ▸ h0
  | 1, hu => simp at hu; exact hu ▸ h1
  | 2, hu => simp at hu; exact hu ▸ h2
  | 3, hu => simp at hu; exact hu ▸ h3
  | 4, hu => simp at hu; exact hu ▸ h4
  | 5, hu => simp at hu; exact hu ▸ h5
  | 6, hu => simp at hu; exact hu ▸ h6
  | 7, hu => simp at hu; exact hu ▸ h7
  | 8, hu => simp at hu; exact hu ▸ h8
  | j + 9, hu => simp at hu
theorem get1 {x0 : Value} {P : Nat → Value → Prop} (h0 : P 0 x0) : ∀ j u, [x0][j]? = some u → P j u := by
  intro j u hu
  match j, hu with
  | 0, hu => simp at hu; exact hu ▸ h0
  | j + 1, hu => simp at hu
theorem get2 {x0 x1 : Value} {P : Nat → Value → Prop} (h0 : P 0 x0) (h1 : P 1 x1) : ∀ j u, [x0, x1][j]? = some u → P j u := by
  intro j u hu
  match j, hu with
  | 0, hu => simp at hu; exact hu ▸ h0
  | 1, hu => simp at hu; exact hu ▸ h1
  | j + 2, hu => simp at hu
theorem rdI_one {W : World} {b hi : Nat} {x : Int} (h : W.cell? ⟨b, 0, none⟩ = some (.int .i64 x)) (hb : b < hi) : RdI W 0 hi (.slice (some ⟨b, 0, none⟩) 1 1) [x] :=
  Rd.of_cells (enc := encI) (l := [x]) (fun _ => rfl) (by simp [maxLen]) (get1 (P := fun j u => W.cell? ⟨b, j, none⟩ = some u) h) 1 rfl hi hb

theorem RdS.lit1 (W : World) (a : ByteArray) (t : TypeId) : RdS (W.alloc (.cells #[.string a] t)) 0 (W.heap.size + 1) (.slice (some ⟨W.heap.size, 0, none⟩) 1 1) [a] := Rd.lit W t [a] _ 1 rfl rfl (by decide) (fun _ => rfl)
theorem RdS.lit2 (W : World) (a b : ByteArray) (t : TypeId) : RdS (W.alloc (.cells #[.string a, .string b] t)) 0 (W.heap.size + 1) (.slice (some ⟨W.heap.size, 0, none⟩) 2 2) [a, b] := Rd.lit W t [a, b] _ 2 rfl rfl (by decide) (fun _ => rfl)
theorem get6 {x0 x1 x2 x3 x4 x5 : Value} {P : Nat → Value → Prop} (h0 : P 0 x0) (h1 : P 1 x1) (h2 : P 2 x2) (h3 : P 3 x3) (h4 : P 4 x4) (h5 : P 5 x5) : ∀ j u, [x0, x1, x2, x3, x4, x5][j]? = some u → P j u := by
  intro j u hu
  match j, hu with
  | 0, hu => simp at hu; exact hu ▸ h0
  | 1, hu => simp at hu; exact hu ▸ h1
  | 2, hu => simp at hu; exact hu ▸ h2
  | 3, hu => simp at hu; exact hu ▸ h3
  | 4, hu => simp at hu; exact hu ▸ h4
  | 5, hu => simp at hu; exact hu ▸ h5
  | j + 6, hu => simp at hu
theorem RdS.lit2E (W : World) (a b : ByteArray) (t : TypeId) (g hi : Nat) (hg : W.heap.size = g) (hh : g + 1 ≤ hi) : RdS (W.alloc (.cells #[.string a, .string b] t)) 0 hi (.slice (some ⟨g, 0, none⟩) 2 2) [a, b] := by
  subst hg
  exact (RdS.lit2 W a b t).mono (Nat.le_refl _) hh
theorem RdS.lit1E (W : World) (a : ByteArray) (t : TypeId) (g hi : Nat) (hg : W.heap.size = g) (hh : g + 1 ≤ hi) : RdS (W.alloc (.cells #[.string a] t)) 0 hi (.slice (some ⟨g, 0, none⟩) 1 1) [a] := by
  subst hg
  exact (RdS.lit1 W a t).mono (Nat.le_refl _) hh
theorem RdCn.lit1E (W : World) (a : Cnt) (t : TypeId) (g hi : Nat) (hg : W.heap.size = g) (hh : g + 1 ≤ hi) : RdCn (W.alloc (.cells #[.int .i64 a.p, .int .i64 a.c, .int .i64 a.m, .int .i64 a.r] t)) 0 hi (.slice (some ⟨g, 0, none⟩) 1 1) [a] := by
  subst hg
  exact (Rd.lit W t [a] _ 1 rfl rfl (by decide) (fun _ => rfl)).mono (Nat.le_refl _) hh
def exTr : List Tr := [⟨⟨#[97]⟩, [0], [1]⟩, ⟨⟨#[98]⟩, [1], [2]⟩]
def exNet : Net := ⟨3, exTr, 0, 2⟩
theorem ex_wf : Wf exNet := by
  have h0 : Rch exNet false 0 0 := .start
  have h1 : Rch exNet false 0 1 := .step (i := 0) (p := 0) (q := 1) (by decide) (by decide) h0 (by decide)
  have h2 : Rch exNet false 0 2 := .step (i := 1) (p := 1) (q := 2) (by decide) (by decide) h1 (by decide)
  have k2 : Rch exNet true 2 2 := .start
  have k1 : Rch exNet true 2 1 := .step (i := 1) (p := 2) (q := 1) (by decide) (by decide) k2 (by decide)
  have k0 : Rch exNet true 2 0 := .step (i := 0) (p := 1) (q := 0) (by decide) (by decide) k1 (by decide)
  refine ⟨by decide +kernel, by decide, ?_, ?_, ?_⟩
  · intro i hi
    match i, hi with
    | 0, _ => exact ⟨by decide, by decide⟩
    | 1, _ => exact ⟨by decide, by decide⟩
    | i + 2, hi => exact absurd hi (by simp [exNet, exTr])
  · intro back p hp
    match p, hp with
    | 0, _ => cases back; exact h0; exact k0
    | 1, _ => cases back; exact h1; exact k1
    | 2, _ => cases back; exact h2; exact k2
    | p + 3, hp => exact absurd hp (by simp [exNet])
  · intro back i hi
    match i, hi with
    | 0, _ => cases back; exact ⟨0, by decide, h0⟩; exact ⟨1, by decide, k1⟩
    | 1, _ => cases back; exact ⟨1, by decide, h1⟩; exact ⟨2, by decide, k2⟩
    | i + 2, hi => exact absurd hi (by simp [exNet, exTr])
theorem ex_play1 : PlayE exNet [⟨#[97]⟩, ⟨#[98]⟩] = (⟨3, 3, 0, 0⟩, [0, 1], 0) := by
  have h : endE exNet (playL exNet [⟨#[97]⟩, ⟨#[98]⟩] (pl0 exNet)) = (⟨3, 3, 0, 0⟩, [0, 1], 0) := by decide +kernel
  have ha : allN [⟨#[97]⟩, ⟨#[98]⟩] = true := by decide +kernel
  unfold PlayE
  rw [wfB_true ex_wf, ha, if_neg (by decide), if_neg (by decide), h]
theorem ex_play2 : ∃ run, PlayE exNet [⟨#[98]⟩] = (⟨2, 2, 1, 1⟩, run, 0) := by
  have h : endE exNet (playL exNet [⟨#[98]⟩] (pl0 exNet)) = (⟨2, 2, 1, 1⟩, [1], 0) := by decide +kernel
  have ha : allN [⟨#[98]⟩] = true := by decide +kernel
  refine ⟨[1], ?_⟩
  unfold PlayE
  rw [wfB_true ex_wf, ha, if_neg (by decide), if_neg (by decide), h]
theorem ex_fit : FitE [⟨2, 2, 1, 1⟩] = ⟨1, 2, 0⟩ := by
  have h : (fitF ⟨2, 2, 1, 1⟩).n = 1 ∧ (fitF ⟨2, 2, 1, 1⟩).d = 2 ∧ (fitF ⟨2, 2, 1, 1⟩).e = 0 := by decide +kernel
  have h2 : FitE [⟨2, 2, 1, 1⟩] = fitF ⟨2, 2, 1, 1⟩ := by unfold FitE; rw [if_neg (by decide)]; rfl
  rw [h2]
  obtain ⟨h1, h3, h4⟩ := h
  generalize fitF ⟨2, 2, 1, 1⟩ = x at *
  obtain ⟨a, b, c⟩ := x
  simp only at h1 h3 h4
  rw [h1, h3, h4]
theorem play_ex1 (W : World) (vt v : Value) (lo hi lo' hi' : Nat) (hv : RdT W lo hi vt exTr) (hw : RdS W lo' hi' v [⟨#[97]⟩, ⟨#[98]⟩]) (h1 : hi ≤ W.heap.size) (h2 : hi' ≤ W.heap.size) :
    Calls Try.prog 10 #[.agg #[.int .i64 3, vt, .int .i64 0, .int .i64 2], v] W fun e w' => ∃ A k, e = .returned (.tuple #[.agg #[.int .i64 3, .int .i64 3, .int .i64 0, .int .i64 0], .slice A 2 k, .int .i64 0]) ∧ RdI w' W.heap.size w'.heap.size (.slice A 2 k) [0, 1] ∧ Below W.heap.size W w' := by
  have h := Play_any exNet [⟨#[97]⟩, ⟨#[98]⟩] vt v lo hi lo' hi' W hv hw h1 h2
  rw [ex_play1] at h
  exact h
theorem play_ex2 (W : World) (vt v : Value) (lo hi lo' hi' : Nat) (hv : RdT W lo hi vt exTr) (hw : RdS W lo' hi' v [⟨#[98]⟩]) (h1 : hi ≤ W.heap.size) (h2 : hi' ≤ W.heap.size) :
    Calls Try.prog 10 #[.agg #[.int .i64 3, vt, .int .i64 0, .int .i64 2], v] W fun e w' => ∃ A n k, e = .returned (.tuple #[.agg #[.int .i64 2, .int .i64 2, .int .i64 1, .int .i64 1], .slice A n k, .int .i64 0]) ∧ Below W.heap.size W w' := by
  have h := Play_any exNet [⟨#[98]⟩] vt v lo hi lo' hi' W hv hw h1 h2
  obtain ⟨run, hr⟩ := ex_play2
  rw [hr] at h
  refine h.mono ?_
  rintro e w' ⟨A, k, h1, _, h3⟩
  exact ⟨A, run.length, k, h1, h3⟩
theorem fit_ex (W : World) (v : Value) (lo hi : Nat) (hv : RdCn W lo hi v [⟨2, 2, 1, 1⟩]) (h1 : hi ≤ W.heap.size) :
    Calls Try.prog 13 #[v] W fun e w' => e = .returned (.tuple #[.agg #[.int .i64 1, .int .i64 2], .int .i64 0]) ∧ Below W.heap.size W w' := by
  have h := Fitness_any [⟨2, 2, 1, 1⟩] lo hi v W hv h1
  rw [ex_fit] at h
  exact h
theorem exRdT {W : World} {g hi : Nat} (hi6 : g + 4 < hi)
    (h0 : W.cell? ⟨g, 0, none⟩ = some (.int .i64 0)) (h1 : W.cell? ⟨g + 1, 0, none⟩ = some (.int .i64 1)) (h2 : W.cell? ⟨g + 2, 0, none⟩ = some (.int .i64 1)) (h3 : W.cell? ⟨g + 3, 0, none⟩ = some (.int .i64 2))
    (c0 : W.cell? ⟨g + 4, 0, none⟩ = some (.string ⟨#[97]⟩)) (c1 : W.cell? ⟨g + 4, 1, none⟩ = some (.slice (some ⟨g, 0, none⟩) 1 1)) (c2 : W.cell? ⟨g + 4, 2, none⟩ = some (.slice (some ⟨g + 1, 0, none⟩) 1 1))
    (c3 : W.cell? ⟨g + 4, 3, none⟩ = some (.string ⟨#[98]⟩)) (c4 : W.cell? ⟨g + 4, 4, none⟩ = some (.slice (some ⟨g + 2, 0, none⟩) 1 1)) (c5 : W.cell? ⟨g + 4, 5, none⟩ = some (.slice (some ⟨g + 3, 0, none⟩) 1 1)) :
    RdT W 0 hi (.slice (some ⟨g + 4, 0, none⟩) 2 2) exTr := by
  refine ⟨[⟨⟨#[97]⟩, .slice (some ⟨g, 0, none⟩) 1 1, .slice (some ⟨g + 1, 0, none⟩) 1 1⟩, ⟨⟨#[98]⟩, .slice (some ⟨g + 2, 0, none⟩) 1 1, .slice (some ⟨g + 3, 0, none⟩) 1 1⟩], ?_, rfl, ?_⟩
  · exact Rd.of_cells (enc := encV) (l := [_, _]) (fun _ => rfl) (by simp [maxLen]) (get6 (P := fun j u => W.cell? ⟨g + 4, j, none⟩ = some u) c0 c1 c2 c3 c4 c5) 2 rfl hi hi6
  · intro k hk
    match k, hk with
    | 0, _ => exact ⟨rfl, rdI_one h0 (by omega), rdI_one h1 (by omega)⟩
    | 1, _ => exact ⟨rfl, rdI_one h2 (by omega), rdI_one h3 (by omega)⟩
    | k + 2, hk => exact absurd hk (by simp [exTr])
set_option maxRecDepth 100000 in
set_option maxHeartbeats 4000000 in
theorem exMem (w : World) : Mem [Loc.rdT 0 (w.heap.size + 5) (.slice (some ⟨w.heap.size + 4, 0, none⟩) 2 2) exTr, Loc.k4 (w.heap.size + 5) (.int .i64 3) (.slice (some ⟨w.heap.size + 4, 0, none⟩) 2 2) (.int .i64 0) (.int .i64 2), Loc.bl w.heap.size w]
    ((((((w.alloc (Obj.cells #[Value.int IntKind.i64 0] 3)).alloc (Obj.cells #[Value.int IntKind.i64 1] 3)).alloc
                              (Obj.cells #[Value.int IntKind.i64 1] 3)).alloc
                          (Obj.cells #[Value.int IntKind.i64 2] 3)).alloc
                  (Obj.cells
                    #[Value.string { data := #[97] }, Value.slice (some { block := w.heap.size, off := 0 }) 1 1,
                      Value.slice (some { block := w.heap.size + 1, off := 0 }) 1 1, Value.string { data := #[98] },
                      Value.slice (some { block := w.heap.size + 1 + 1, off := 0 }) 1 1,
                      Value.slice (some { block := w.heap.size + 1 + 1 + 1, off := 0 }) 1 1]
                    46)).alloc
              (Obj.cells
                #[Value.int IntKind.i64 3,
                  Value.slice (some { block := w.heap.size + 1 + 1 + 1 + 1, off := 0 }) 2 2,
                  Value.int IntKind.i64 0, Value.int IntKind.i64 2]
                24)) := by
  refine ⟨exRdT (by omega) ?_ ?_ ?_ ?_ ?_ ?_ ?_ ?_ ?_ ?_, ⟨?_, ?_, ?_, ?_, ?_⟩, ⟨?_, ?_⟩, True.intro⟩
  all_goals first
    | (simp [go_sem]; done)
    | (simp [go_sem]; omega)
    | (repeat (first | exact Below.refl _ _ | assumption | refine Below.setCell ?_ (by first | omega | (simp; done) | (simp; omega)) _ | refine Below.alloc ?_ (by first | omega | (simp; done) | (simp; omega)) _ | refine Below.drew ?_ | refine below_drewN ?_ _))

set_option maxRecDepth 100000 in
set_option maxHeartbeats 4000000 in
theorem awake_any (w : World) :
    Calls Try.prog 8 #[] w fun e w' => e = .returned (.bool true) ∧ Below w.heap.size w w' := by
  refine calls_cps fun R hR => ?_
  have HR := Lib.hid hR
  clear hR
  go_enter Try.func8, Try.ntmps8
  have M := Lib.hid (exMem w)
  have hk4 := M.out.2.1
  go_wp2_with fail
  refine Calls.mono (play_ex1 _ _ _ 0 (w.heap.size + 5) 0 (w.heap.size + 7) (M.out.1.after ((Below.refl _ _).alloc (Nat.le_refl _) _)) (RdS.lit2E _ _ _ _ _ _ (by simp) (by omega)) (by simp only [World.size_alloc]; omega) (by simp only [World.size_alloc]; omega)) ?_
  rintro e w1 ⟨A1, k1, rfl, hr1, hb1⟩
  have M1 : Hid (Mem [Loc.rdT 0 (w.heap.size + 5) (.slice (some ⟨w.heap.size + 4, 0, none⟩) 2 2) exTr, Loc.k4 (w.heap.size + 5) (.int .i64 3) (.slice (some ⟨w.heap.size + 4, 0, none⟩) 2 2) (.int .i64 0) (.int .i64 2), Loc.bl w.heap.size w] w1) := Lib.hid ((M.out.alloc _).below hb1)
  have HR1 := Lib.hid hr1
  have hz1 := hb1.size
  simp only [World.size_alloc] at hz1
  clear M hb1 hr1
  replace hk4 := M1.out.2.1
  go_wp2_with fail
  have M2 : Hid (Mem [Loc.k4 w1.heap.size (.int .i64 3) (.int .i64 3) (.int .i64 0) (.int .i64 0), Loc.rdT 0 (w.heap.size + 5) (.slice (some ⟨w.heap.size + 4, 0, none⟩) 2 2) exTr, Loc.k4 (w.heap.size + 5) (.int .i64 3) (.slice (some ⟨w.heap.size + 4, 0, none⟩) 2 2) (.int .i64 0) (.int .i64 2), Loc.bl w.heap.size w] ((w1.alloc (.cells #[.int .i64 3, .int .i64 3, .int .i64 0, .int .i64 0] 29)).alloc (.cells #[.string ⟨#[98]⟩] 9))) := Lib.hid ⟨(Mem.alloc (l := [Loc.k4 w1.heap.size _ _ _ _]) ⟨K4.new _ _ _ _ _ _, True.intro⟩ _).1, (M1.out.alloc _).alloc _⟩
  have HR2 := Lib.hid (HR1.out.after (((Below.refl w1.heap.size w1).alloc (Nat.le_refl _) (.cells #[.int .i64 3, .int .i64 3, .int .i64 0, .int .i64 0] 29)).alloc (by simp) (.cells #[.string ⟨#[98]⟩] 9)))
  clear M1 HR1
  obtain ⟨g1, hg1⟩ : ∃ g, w1.heap.size = g := ⟨_, rfl⟩
  refine Calls.mono (play_ex2 _ _ _ 0 (w.heap.size + 5) 0 (w1.heap.size + 2) M2.out.2.1 (RdS.lit1E _ _ _ _ _ (by simp) (by omega)) (by simp only [World.size_alloc]; omega) (by simp only [World.size_alloc]; omega)) ?_
  rintro e w2 ⟨A2, n2, k2, rfl, hb2⟩
  replace M2 := Lib.hid (M2.out.below hb2)
  replace HR2 := Lib.hid (HR2.out.after hb2)
  have hz2 := hb2.size
  simp only [World.size_alloc] at hz2
  rw [hg1] at M2 hz2
  rw [hg1]
  clear hb2
  replace hk4 := M2.out.2.2.1
  have hkx := M2.out.1
  go_wp2_with fail
  have M3 : Hid (Mem [Loc.k4 w2.heap.size (.int .i64 2) (.int .i64 2) (.int .i64 1) (.int .i64 1), Loc.k4 g1 (.int .i64 3) (.int .i64 3) (.int .i64 0) (.int .i64 0), Loc.rdT 0 (w.heap.size + 5) (.slice (some ⟨w.heap.size + 4, 0, none⟩) 2 2) exTr, Loc.k4 (w.heap.size + 5) (.int .i64 3) (.slice (some ⟨w.heap.size + 4, 0, none⟩) 2 2) (.int .i64 0) (.int .i64 2), Loc.bl w.heap.size w] ((w2.alloc (.cells #[.int .i64 2, .int .i64 2, .int .i64 1, .int .i64 1] 29)).alloc (.cells #[.int .i64 2, .int .i64 2, .int .i64 1, .int .i64 1] 29))) := Lib.hid ⟨(Mem.alloc (l := [Loc.k4 w2.heap.size _ _ _ _]) ⟨K4.new _ _ _ _ _ _, True.intro⟩ _).1, (M2.out.alloc _).alloc _⟩
  have HR3 := Lib.hid (HR2.out.after (((Below.refl w2.heap.size w2).alloc (Nat.le_refl _) (.cells #[.int .i64 2, .int .i64 2, .int .i64 1, .int .i64 1] 29)).alloc (by simp) (.cells #[.int .i64 2, .int .i64 2, .int .i64 1, .int .i64 1] 29)))
  clear M2 HR2 hkx
  obtain ⟨g2, hg2⟩ : ∃ g, w2.heap.size = g := ⟨_, rfl⟩
  refine Calls.mono (fit_ex _ _ 0 (w2.heap.size + 2) (RdCn.lit1E _ ⟨2, 2, 1, 1⟩ _ _ _ (by simp) (by omega)) (by simp only [World.size_alloc]; omega)) ?_
  rintro e w3 ⟨rfl, hb3⟩
  replace M3 := Lib.hid (M3.out.below hb3)
  replace HR3 := Lib.hid (HR3.out.after hb3)
  have hz3 := hb3.size
  simp only [World.size_alloc] at hz3
  rw [hg2] at M3 hz3
  rw [hg2]
  clear hb3
  replace hk4 := M3.out.2.2.2.1
  have hkx := M3.out.2.1
  have hky := M3.out.1
  go_wp2_with fail
  have M4 : Hid (Mem [Loc.k2 w3.heap.size (.int .i64 1) (.int .i64 2), Loc.k4 g2 (.int .i64 2) (.int .i64 2) (.int .i64 1) (.int .i64 1), Loc.k4 g1 (.int .i64 3) (.int .i64 3) (.int .i64 0) (.int .i64 0), Loc.bl w.heap.size w] ((w3.alloc (.cells #[.int .i64 1, .int .i64 2] 39)).alloc (.cells #[.int .i64 0, .int .i64 1] 3))) := Lib.hid ⟨(Mem.alloc (l := [Loc.k2 w3.heap.size _ _]) ⟨K2.new _ _ _ _, True.intro⟩ _).1, (M3.out.1 |> fun h => (Mem.alloc (Mem.alloc (l := [Loc.k4 g2 _ _ _ _]) ⟨h, True.intro⟩ _) _).1), (M3.out.2.1 |> fun h => (Mem.alloc (Mem.alloc (l := [Loc.k4 g1 _ _ _ _]) ⟨h, True.intro⟩ _) _).1), (Mem.alloc (Mem.alloc (l := [Loc.bl w.heap.size w]) ⟨M3.out.2.2.2.2.1, True.intro⟩ _) _).1, True.intro⟩
  have HR4 := Lib.hid (HR3.out.after (((Below.refl w3.heap.size w3).alloc (Nat.le_refl _) (.cells #[.int .i64 1, .int .i64 2] 39)).alloc (by simp) (.cells #[.int .i64 0, .int .i64 1] 3)))
  clear M3 HR3 hkx hky hk4
  have hq : RdI ((w3.alloc (.cells #[.int .i64 1, .int .i64 2] 39)).alloc (.cells #[.int .i64 0, .int .i64 1] 3)) 0 (w3.heap.size + 2) (.slice (some ⟨w3.heap.size + 1, 0, none⟩) 2 2) [0, 1] := by
    have := Rd.lit (enc := encI) (size := 1) (w3.alloc (.cells #[.int .i64 1, .int .i64 2] 39)) 3 [0, 1] #[.int .i64 0, .int .i64 1] 2 rfl rfl (by decide) (fun _ => rfl)
    rw [World.size_alloc] at this
    exact this
  refine Calls.mono (equalI_any [0, 1] [0, 1] _ _ 0 (w3.heap.size + 2) _ _ _ HR4.out hq) ?_
  rintro e w4 ⟨rfl, hb4⟩
  replace M4 := Lib.hid (M4.out.below hb4)
  clear hb4 HR4 hq
  have hkz := M4.out.1
  have hky := M4.out.2.1
  have hkx := M4.out.2.2.1
  have hdt : decide (([0, 1] : List Int) = [0, 1]) = true := by decide
  rw [hdt]
  obtain ⟨g3, hg3⟩ : ∃ g, w3.heap.size = g := ⟨_, rfl⟩
  rw [hg3] at M4 hkz
  rw [hg3]
  go_wp2_with fail
  exact HR.out _ _ ⟨rfl, M4.out.2.2.2.1.1⟩
end Go.Proofs.Ytmhbfoaecebobaa
end
