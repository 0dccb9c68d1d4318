/-
  Walks of casebookref52: Number. Conditions: none.
-/
import Derived.Test.YthlgkomhnhkooaaQRef8
namespace Go.Proofs.Ythlgkomhnhkooaa
set_option linter.unusedSimpArgs false
set_option linter.unusedVariables false
open Go.RowKit

/-- the state of the reference's sum -/
def RnI (r : List Fr) (cp k : Nat) (s : Fr) (x : Bool) : Prop := (x = false ∧ numS r k = some s) ∨ (x = true ∧ numS r (cp + 1) = none)
def RnM (r : List Fr) (cp k : Nat) (s p : Fr) (x : Bool) : Prop := (x = false ∧ numS r (k + 1) = fadd s p ∧ nn s ∧ nn p) ∨ (x = true ∧ numS r (cp + 1) = none)
theorem RnI.mul {r : List Fr} {cp k : Nat} {s : Fr} (hr : ∀ a ∈ r, nn a) (hcp : cp ≤ 15) (hk : k ≤ cp) (h : RnI r cp k s false) {x : Bool} {v : Fr} (hx : (false || ((mulE ⟨k, 1⟩ (gt r k)).e != 0)) = x) (hv : (⟨(mulE ⟨k, 1⟩ (gt r k)).n, (mulE ⟨k, 1⟩ (gt r k)).d⟩ : Fr) = v) : RnM r cp k s v x := by
  rcases h with ⟨_, h⟩ | ⟨h, _⟩
  · have hn := nat_ok (k := k) (by omega)
    have hs : numS r (k + 1) = (fmul ⟨k, 1⟩ (gt r k)).bind fun p => fadd s p := by
      show (numS r k).bind _ = _
      rw [h]
      rfl
    rcases opR (mulE_ok hn.1 (gt_nn hr k).1) hx hv with ⟨e1, e2⟩ | ⟨e1, e2⟩
    · exact .inl ⟨e1, by rw [hs, e2]; rfl, numS_nn hr (by omega) h, nn_mul hn (gt_nn hr k) e2⟩
    · exact .inr ⟨e1, numS_none (k := k + 1) (by rw [hs, e2]; rfl) (by omega)⟩
  · cases h
theorem RnM.add {r : List Fr} {cp k : Nat} {s p : Fr} (hk : k ≤ cp) (h : RnM r cp k s p false) {x : Bool} {v : Fr} (hx : (false || ((addE s p).e != 0)) = x) (hv : (⟨(addE s p).n, (addE s p).d⟩ : Fr) = v) : RnI r cp (k + 1) v x := by
  rcases h with ⟨_, h, h1, h2⟩ | ⟨h, _⟩
  · rcases opR (addE_ok h1.1 h2.1) hx hv with ⟨e1, e2⟩ | ⟨e1, e2⟩
    · exact .inl ⟨e1, h.trans e2⟩
    · exact .inr ⟨e1, numS_none (k := k + 1) (h.trans e2) (by omega)⟩
  · cases h
theorem RnM.big {r : List Fr} {cp k k' : Nat} {s s' p : Fr} (h : RnM r cp k s p true) : RnI r cp k' s' true := by
  rcases h with ⟨h, _⟩ | h
  · cases h
  · exact .inr h

set_option maxRecDepth 100000 in
set_option maxHeartbeats 8000000 in
theorem rNumber_any (ar se : Fr) (sv cp : Nat) (w : World) (hq : QOk ar se sv cp) :
    Calls Try.prog 19 #[.agg #[.int .i64 ar.n, .int .i64 ar.d, .int .i64 se.n, .int .i64 se.d, .int .i64 sv, .int .i64 cp]] w fun e w' => e = .returned (.tuple #[.agg #[.int .i64 (gF (numQ ar se sv cp)).n, .int .i64 (gF (numQ ar se sv cp)).d], .bool (numQ ar se sv cp).isSome]) ∧ Below w.heap.size w w' := by
  have hv1 := hq.v1
  have hc1 := hq.c1
  have hc2 := hq.c2
  refine calls_cps fun R hR => ?_
  have HR := Lib.hid hR
  clear hR
  go_enter Try.func19, Try.ntmps19
  go_wp2_with fail
  have M0 : Mem [Loc.k6 w.heap.size (.int .i64 ar.n) (.int .i64 ar.d) (.int .i64 se.n) (.int .i64 se.d) (.int .i64 sv) (.int .i64 cp), Loc.bl w.heap.size w] (w.alloc (.cells #[.int .i64 ar.n, .int .i64 ar.d, .int .i64 se.n, .int .i64 se.d, .int .i64 sv, .int .i64 cp] 25)) := ⟨K6.new w _ _ _ _ _ _ _, ⟨(Below.refl _ _).alloc (Nat.le_refl _) _, by simp⟩, True.intro⟩
  have r0 := K2.new (w.alloc (.cells #[.int .i64 ar.n, .int .i64 ar.d, .int .i64 se.n, .int .i64 se.d, .int .i64 sv, .int .i64 cp] 25)) (.int .i64 0) (.int .i64 0) 23
  simp only [World.size_alloc] at r0
  have M1 : Mem [Loc.k2 (w.heap.size + 1) (.int .i64 0) (.int .i64 0), Loc.k6 w.heap.size (.int .i64 ar.n) (.int .i64 ar.d) (.int .i64 se.n) (.int .i64 se.d) (.int .i64 sv) (.int .i64 cp), Loc.bl w.heap.size w] _ := ⟨r0, M0.alloc _⟩
  refine (rStationary_any ar se sv cp _ hq).mono ?_
  rintro e w1 ⟨v, x, r, rfl, hb1, rf1, hE⟩
  replace M1 := M1.below hb1
  have hz1 := hb1.size
  simp at hz1 rf1
  clear hb1 M0 r0
  have hfin : numQ ar se sv cp = none → ∀ W : World, Below w.heap.size w W → R (.returned (.tuple #[.agg #[.int .i64 0, .int .i64 0], .bool false])) W := by
    intro hno W hb
    refine HR.out _ _ ⟨?_, hb⟩
    rw [hno]
    rfl
  have HFIN := Lib.hid hfin
  clear hfin
  cases x with
  | false =>
    have hno : numQ ar se sv cp = none := by
      rcases hE with ⟨h, _⟩ | ⟨_, _, h⟩
      · cases h
      · unfold numQ; rw [h]; rfl
    have HNO := Lib.hid hno
    have r1 := M1.1
    have HB := Lib.hid M1.2.2.1.1
    clear hno hE rf1 M1
    go_wp2_with fail
    refine ret_B2_tmp (x := .int .i64 0) (y := .int .i64 0) (z := .bool false) rfl rfl rfl rfl (K2.set r1 _ _) (HFIN.out HNO.out _ ?_)
    have := HB.out
    (repeat (first | exact Below.refl _ _ | assumption | refine Below.setCell ?_ (by first | omega | (simp; done) | (simp; omega)) _ | refine Below.alloc ?_ (by first | omega | (simp; done) | (simp; omega)) _ | refine Below.drew ?_ | refine below_drewN ?_ _))
  | true =>
    have hs : r.length = cp + 1 ∧ (statQ ar se sv cp).map (·.1) = some r := by
      rcases hE with ⟨_, h1, h2⟩ | ⟨h, _⟩
      · exact ⟨h1, h2⟩
      · cases h
    obtain ⟨b, hst⟩ : ∃ b, statQ ar se sv cp = some (r, b) := by
      cases h : statQ ar se sv cp with
      | none => rw [h] at hs; cases hs.2
      | some p => rw [h] at hs; have := hs.2; injection this with h3; exact ⟨p.2, by rw [← h3]⟩
    have HRN := Lib.hid (statQ_good hq hst).2.1
    have HNQ := Lib.hid (show numQ ar se sv cp = numS r (cp + 1) by unfold numQ; rw [hst]; rfl)
    obtain ⟨rA, rc, rfl, hrc, hrm⟩ := rf1.form
    have hrl : cp + 1 ≤ r.length ∧ r.length ≤ cp + 1 := by omega
    obtain ⟨rb, roff, rfl, _, _, _, _⟩ := RdF.at2 rf1 (gt_get (l := r) (i := 0) (by omega))
    have M2 : Mem [Loc.rdF (w.heap.size + 1 + 1) w1.heap.size (.slice (some ⟨rb, roff, none⟩) r.length rc) r, Loc.k2 (w.heap.size + 1) (.int .i64 0) (.int .i64 0), Loc.bl w.heap.size w] w1 := ⟨rf1, M1.1, M1.2.2⟩
    clear hE hs hst rf1 M1
    go_wp2_with fail
    have k0 := K1.new w1 (.bool false) 66
    replace M2 := M2.alloc (.cells #[.bool false] 66)
    refine (zero_any _).mono ?_
    rintro e w2 ⟨rfl, hb2⟩
    replace M2 := (M2.below hb2).alloc (.cells #[.int .i64 0, .int .i64 1] 23)
    have c2 := K1.alloc (K1.aft hb2 k0) (.cells #[.int .i64 0, .int .i64 1] 23)
    have s2 := K2.new w2 (.int .i64 0) (.int .i64 1) 23
    have hz2 := hb2.size
    simp at hz2
    clear hb2 k0
    go_wp2
    go_loopw [8] (fun v8 wr => ∃ (k : Nat) (s : Fr) (x : Bool), k ≤ cp + 1 ∧ v8 = .int .i64 k ∧ K1 wr w1.heap.size (.bool x) ∧ K2 wr w2.heap.size (.int .i64 s.n) (.int .i64 s.d) ∧ Mem [Loc.rdF (w.heap.size + 1 + 1) w1.heap.size (.slice (some ⟨rb, roff, none⟩) r.length rc) r, Loc.k2 (w.heap.size + 1) (.int .i64 0) (.int .i64 0), Loc.bl w.heap.size w] wr ∧ RnI r cp k s x) (fun v8 _ => cp + 1 - (intOf v8).toNat)
    case atStart => exact ⟨0, zeroF, false, by omega, rfl, c2, s2, M2, .inl ⟨rfl, rfl⟩⟩
    case round =>
      clear c2 s2 M2
      obtain ⟨k, s, x, hk, rfl, c1, s1, M, hI⟩ := hrel
      have HI := Lib.hid hI
      clear hI
      have hbig : x = true → numQ ar se sv cp = none := by
        intro hx
        rw [HNQ.out]
        rcases HI.out with ⟨h, _⟩ | ⟨_, h⟩
        · rw [hx] at h; cases h
        · exact h
      have HBIG := Lib.hid hbig
      clear hbig
      by_cases hkc : k ≤ cp
      · have hkd : decide ((k : Int) < (r.length : Int)) = true := by simp; omega
        cases x with
        | true =>
          have r1 := M.2.1
          have HB := Lib.hid M.2.2.1.1
          clear M
          go_wp2_with fail
          refine ret_B2_tmp (x := .int .i64 0) (y := .int .i64 0) (z := .bool false) rfl rfl rfl rfl (K2.set r1 _ _) (HFIN.out (HBIG.out (by first | trivial | rfl)) _ ?_)
          have := HB.out
          (repeat (first | exact Below.refl _ _ | assumption | refine Below.setCell ?_ (by first | omega | (simp; done) | (simp; omega)) _ | refine Below.alloc ?_ (by first | omega | (simp; done) | (simp; omega)) _ | refine Below.drew ?_ | refine below_drewN ?_ _))
        | false =>
          obtain ⟨rb', roff', hbA, lo4, hi4, f4, f5⟩ := RdF.at2 M.1 (gt_get (l := r) (i := k) (by omega))
          injection hbA with hbA
          injection hbA with hb1' hb2'
          subst hb1' hb2'
          obtain ⟨p, hp⟩ : ∃ v : Fr, (⟨(mulE ⟨k, 1⟩ (gt r k)).n, (mulE ⟨k, 1⟩ (gt r k)).d⟩ : Fr) = v := ⟨_, rfl⟩
          obtain ⟨y, hy⟩ : ∃ y, (false || ((mulE ⟨k, 1⟩ (gt r k)).e != 0)) = y := ⟨_, rfl⟩
          have HM2 := Lib.hid (HI.out.mul HRN.out hc2 hkc hy hp)
          have HP := Lib.hid (show (mulE ⟨k, 1⟩ (gt r k)).n = p.n ∧ (mulE ⟨k, 1⟩ (gt r k)).d = p.d by rw [← hp]; exact ⟨rfl, rfl⟩)
          have HY := Lib.hid hy
          have hkb : (k : Int) < (r.length : Int) := by omega
          have hsw : w2.heap.size < wr.heap.size := s1.2.2.2.2
          have S : Mem [Loc.c2 rb (roff + k * 2) (.int .i64 (gt r k).n) (.int .i64 (gt r k).d)] wr := ⟨⟨f4, f5⟩, True.intro⟩
          clear hp hy f4 f5
          go_upto_region 9 with (fail)
          go_cut [9] (fun s9 wx => ∃ pb : Nat, s9 = .pointer (some ⟨pb, 0, none⟩) ∧ K1 wx w1.heap.size (.bool y) ∧ K2 wx pb (.int .i64 p.n) (.int .i64 p.d) ∧ K2 wx w2.heap.size (.int .i64 s.n) (.int .i64 s.d) ∧ Mem [Loc.rdF (w.heap.size + 1 + 1) w1.heap.size (.slice (some ⟨rb, roff, none⟩) r.length rc) r, Loc.k2 (w.heap.size + 1) (.int .i64 0) (.int .i64 0), Loc.bl w.heap.size w] wx)
          case first =>
            go_region_held3 (fun W => C2 W rb (roff + k * 2) (.int .i64 (gt r k).n) (.int .i64 (gt r k).d) ∧ True) (first | exact S | exact S.alloc _ | exact S.set2 (by (repeat' (first | exact True.intro | refine And.intro (fun k hk e => ?_) ?_)) <;> (first | exact e | ((try dsimp only [Loc.c1, Loc.c2, Loc.k1, Loc.k2, Loc.k6, Loc.rdF, Loc.rdFF, Loc.all2, Loc.fr, Loc.bl, Loc.own, Loc.sz] at hk e) <;> omega)))) (first
              | (go_at_call 51; refine (rof_any k _).mono ?_; rintro e w3 ⟨rfl, hb3⟩; replace M := Mem.below (by first | exact M.drew | exact (M.alloc _).drew) hb3; replace S := Mem.below (by first | exact S.drew | exact (S.alloc _).drew) hb3; replace c1 := K1.aft hb3 (by first | exact c1 | exact K1.alloc c1 _); replace s1 := K2.aft hb3 (by first | exact s1 | exact K2.alloc s1 _); (first | have s0 := K2.aft hb3 (K2.newd wr (.int .i64 0) (.int .i64 0) 23) | skip); have hs3 := hb3.size; (try simp at hs3); clear hb3)
              | (go_at_call 49; refine (cmul_any ⟨k, 1⟩ (gt r k) w1.heap.size false _ (by first | exact c1 | exact K1.alloc c1 _)).mono ?_; rintro e w4 ⟨rfl, hc4, ho4⟩; rw [HP.out.1, HP.out.2]; rw [HY.out] at hc4; replace M := Mem.off (by first | exact M | exact M.alloc _) ho4 (by (repeat' (first | exact True.intro | refine And.intro (fun k hk e => ?_) ?_)) <;> (first | exact e | ((try dsimp only [Loc.c1, Loc.c2, Loc.k1, Loc.k2, Loc.k6, Loc.rdF, Loc.rdFF, Loc.all2, Loc.fr, Loc.bl, Loc.own, Loc.sz] at hk e) <;> omega))); replace S := Mem.off (by first | exact S | exact S.alloc _) ho4 (by (repeat' (first | exact True.intro | refine And.intro (fun k hk e => ?_) ?_)) <;> (first | exact e | ((try dsimp only [Loc.c1, Loc.c2, Loc.k1, Loc.k2, Loc.k6, Loc.rdF, Loc.rdFF, Loc.all2, Loc.fr, Loc.bl, Loc.own, Loc.sz] at hk e) <;> omega))); replace s1 := K2.oft ho4 (by first | exact s1 | exact K2.alloc s1 _) (by omega); (first | replace s0 := K2.oft ho4 s0 (by omega) | have s0 := K2.oft ho4 (K2.new _ (.int .i64 0) (.int .i64 0) 23) (by have := c1.2.2; omega) | skip); have hs4 := ho4.size; (try simp at hs4); clear ho4))
            · go_wp2_with fail
              go_meet
              exact ⟨w4.heap.size, rfl, K1.alloc hc4 _, K2.new _ _ _ _, K2.alloc s1 _, M.alloc _⟩
            all_goals
              go_wp2_with fail
              go_meet
              exact ⟨_, rfl, K1.far2 hc4 (by omega) _ _, K2.set s0 _ _, K2.far' s1 (by omega) _ _, M.set2 (by (repeat' (first | exact True.intro | refine And.intro (fun k hk e => ?_) ?_)) <;> (first | exact e | ((try dsimp only [Loc.c1, Loc.c2, Loc.k1, Loc.k2, Loc.k6, Loc.rdF, Loc.rdFF, Loc.all2, Loc.fr, Loc.bl, Loc.own, Loc.sz] at hk e) <;> omega)))⟩
          case rest =>
            clear M c1 s1 S
            obtain ⟨pb, rfl, c1, p1, s1, M⟩ := hcut
            cases y with
            | true =>
              have HC := Lib.hid c1
              have HS := Lib.hid s1
              have HM := Lib.hid M
              clear M
              go_wp2_with fail
              go_roundw
              case rel =>
                have hrel : ∃ (k' : Nat) (s' : Fr) (x' : Bool), k' ≤ cp + 1 ∧ Value.int .i64 ((k : Int) + 1) = .int .i64 k' ∧ K1 wc w1.heap.size (.bool x') ∧ K2 wc w2.heap.size (.int .i64 s'.n) (.int .i64 s'.d) ∧ Mem [Loc.rdF (w.heap.size + 1 + 1) w1.heap.size (.slice (some ⟨rb, roff, none⟩) r.length rc) r, Loc.k2 (w.heap.size + 1) (.int .i64 0) (.int .i64 0), Loc.bl w.heap.size w] wc ∧ RnI r cp k' s' x' := ⟨k + 1, s, true, by omega, by go_num, HC.out, HS.out, HM.out, HM2.out.big⟩
                first | exact hrel | ((repeat apply Exists.intro); exact ⟨hrel, rfl⟩)
              case measure => first | (simp [intOf]; done) | (simp [intOf]; omega)
            | false =>
              obtain ⟨u, hu⟩ : ∃ u : Fr, (⟨(addE s p).n, (addE s p).d⟩ : Fr) = u := ⟨_, rfl⟩
              obtain ⟨y2, hy2⟩ : ∃ y, (false || ((addE s p).e != 0)) = y := ⟨_, rfl⟩
              have HI2 := Lib.hid (HM2.out.add hkc hy2 hu)
              have HU := Lib.hid (show (addE s p).n = u.n ∧ (addE s p).d = u.d by rw [← hu]; exact ⟨rfl, rfl⟩)
              have HY2 := Lib.hid hy2
              clear hu hy2
              go_wp2_with fail
              refine (cadd_any s p w1.heap.size false _ c1).mono ?_
              rintro e w6 ⟨rfl, hc6, ho6⟩
              rw [HU.out.1, HU.out.2]
              rw [HY2.out] at hc6
              replace M := M.off ho6 (by (repeat' (first | exact True.intro | refine And.intro (fun k hk e => ?_) ?_)) <;> (first | exact e | ((try dsimp only [Loc.c1, Loc.c2, Loc.k1, Loc.k2, Loc.k6, Loc.rdF, Loc.rdFF, Loc.all2, Loc.fr, Loc.bl, Loc.own, Loc.sz] at hk e) <;> omega)))
              replace s1 := K2.oft ho6 s1 (by omega)
              clear ho6
              have HM6 := Lib.hid (M.set2 (g := w2.heap.size) (i := 0) (j := 1) (u := .int .i64 u.n) (v := .int .i64 u.d) (by (repeat' (first | exact True.intro | refine And.intro (fun k hk e => ?_) ?_)) <;> (first | exact e | ((try dsimp only [Loc.c1, Loc.c2, Loc.k1, Loc.k2, Loc.k6, Loc.rdF, Loc.rdFF, Loc.all2, Loc.fr, Loc.bl, Loc.own, Loc.sz] at hk e) <;> omega))))
              have HS6 := Lib.hid (K2.set s1 (.int .i64 u.n) (.int .i64 u.d))
              have HC6 := Lib.hid (K1.far2 hc6 (show w1.heap.size ≠ w2.heap.size by omega) (.int .i64 u.n) (.int .i64 u.d))
              clear M c1 hc6 p1
              go_wp2_with fail
              go_roundw
              case rel =>
                have hrel : ∃ (k' : Nat) (s' : Fr) (x' : Bool), k' ≤ cp + 1 ∧ Value.int .i64 ((k : Int) + 1) = .int .i64 k' ∧ K1 ((w6.setCell ⟨w2.heap.size, 0, none⟩ (.int .i64 u.n)).setCell ⟨w2.heap.size, 1, none⟩ (.int .i64 u.d)) w1.heap.size (.bool x') ∧ K2 ((w6.setCell ⟨w2.heap.size, 0, none⟩ (.int .i64 u.n)).setCell ⟨w2.heap.size, 1, none⟩ (.int .i64 u.d)) w2.heap.size (.int .i64 s'.n) (.int .i64 s'.d) ∧ Mem [Loc.rdF (w.heap.size + 1 + 1) w1.heap.size (.slice (some ⟨rb, roff, none⟩) r.length rc) r, Loc.k2 (w.heap.size + 1) (.int .i64 0) (.int .i64 0), Loc.bl w.heap.size w] ((w6.setCell ⟨w2.heap.size, 0, none⟩ (.int .i64 u.n)).setCell ⟨w2.heap.size, 1, none⟩ (.int .i64 u.d)) ∧ RnI r cp k' s' x' := ⟨k + 1, u, y2, by omega, by go_num, HC6.out, HS6.out, HM6.out, HI2.out⟩
                first | exact hrel | ((repeat apply Exists.intro); exact ⟨hrel, rfl⟩)
              case measure => first | (simp [intOf]; done) | (simp [intOf]; omega)
      · have hkd : decide ((k : Int) < (r.length : Int)) = false := by simp; omega
        obtain rfl : k = cp + 1 := by omega
        have r1 := M.2.1
        have HB := Lib.hid M.2.2.1.1
        clear M
        cases x with
        | true =>
          go_wp2_with fail
          refine ret_B2_tmp (x := .int .i64 0) (y := .int .i64 0) (z := .bool false) rfl rfl rfl rfl (K2.set r1 _ _) (HFIN.out (HBIG.out (by first | trivial | rfl)) _ ?_)
          have := HB.out
          (repeat (first | exact Below.refl _ _ | assumption | refine Below.setCell ?_ (by first | omega | (simp; done) | (simp; omega)) _ | refine Below.alloc ?_ (by first | omega | (simp; done) | (simp; omega)) _ | refine Below.drew ?_ | refine below_drewN ?_ _))
        | false =>
          have HSO : Hid (numQ ar se sv cp = some s) := Lib.hid (by
            rw [HNQ.out]
            rcases HI.out with ⟨_, h⟩ | ⟨h, _⟩
            · exact h
            · cases h)
          go_wp2_with fail
          refine ret_B2_tmp (x := .int .i64 s.n) (y := .int .i64 s.d) (z := .bool true) rfl rfl rfl rfl (K2.set r1 _ _) (HR.out _ _ ⟨by rw [HSO.out]; rfl, ?_⟩)
          have := HB.out
          (repeat (first | exact Below.refl _ _ | assumption | refine Below.setCell ?_ (by first | omega | (simp; done) | (simp; omega)) _ | refine Below.alloc ?_ (by first | omega | (simp; done) | (simp; omega)) _ | refine Below.drew ?_ | refine below_drewN ?_ _))

end Go.Proofs.Ythlgkomhnhkooaa
