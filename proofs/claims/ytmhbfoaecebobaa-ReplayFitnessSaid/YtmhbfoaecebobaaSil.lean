/-
  replay.silent: the silent search. Conditions: none.
-/
import Derived.Test.YtmhbfoaecebobaaSet2
namespace Go.Proofs.Ytmhbfoaecebobaa
set_option linter.unusedSimpArgs false
set_option linter.unusedVariables false
open Go.RowKit Go.Maps Go.WideMaps

/-- what a search returns -/
def RetW (w : World) (r : Option (List Int)) (e : Ending) (w' : World) : Prop :=
  ∃ A c, e = .returned (.tuple #[.slice A (r.getD []).length c, .bool r.isSome]) ∧ RdI w' w.heap.size w'.heap.size (.slice A (r.getD []).length c) (r.getD []) ∧ Below w.heap.size w w'
abbrev silD (hh gs qb : Nat) : Nat → Prop := fun k => k < hh ∧ k ≠ gs ∧ k ≠ qb
set_option maxRecDepth 100000 in
set_option maxHeartbeats 4000000 in
theorem silent_any (n : Net) (m : List Int) (vt v : Value) (lo hi lo' hi' : Nat) (f : FuncId) (hent : Ent f) (cap : Array Value) (good : List Int → Bool) (w : World) (hv : RdT w lo hi vt n.trans) (hm : RdI w lo' hi' v m) (hmk : markB n m = true) (hhi : hi' ≤ w.heap.size)
    (hg : ∀ (x : List Int) (lo hi : Nat) (v : Value) (W : World), markB n x = true → Below w.heap.size w W → RdI W lo hi v x → Calls Try.prog f (#[v] ++ cap) W fun e W' => e = .returned (.bool (good x)) ∧ Below W.heap.size W W') :
    Calls Try.prog 71 #[netV n vt, v, .func (.func f) #[] cap] w (RetW w (silE n good m)) := by
  obtain ⟨A, c, rfl, hc, hmm⟩ := hv.form
  obtain ⟨A2, c2, rfl, hc2, hmm2⟩ := hm.form
  have HV := Lib.hid hv
  have HW := Lib.hid hm
  have HG := Lib.hid hg
  have HMK := Lib.hid hmk
  have HML := Lib.hid (markB_len hmk)
  unfold Ent at hent
  clear hv hm hg hmk
  have hmmk := @run_makeMap Try.prog
  refine calls_cps fun R hR => ?_
  have HR := Lib.hid hR
  clear hR
  go_enter Try.func71, Try.ntmps71
  have M : Hid (Mem [Loc.k4 w.heap.size (.int .i64 n.places) (.slice A n.trans.length c) (.int .i64 n.source) (.int .i64 n.sink), Loc.bl w.heap.size w] (w.alloc (.cells #[.int .i64 n.places, .slice A n.trans.length c, .int .i64 n.source, .int .i64 n.sink] 24))) := Lib.hid ⟨K4.new w _ _ _ _ _, ⟨(Below.refl _ _).alloc (Nat.le_refl _) _, by simp⟩, True.intro⟩
  have hk4 := M.out.1
  have M2 : Hid (Mem [Loc.set (w.heap.size + 1) [], Loc.k4 w.heap.size (.int .i64 n.places) (.slice A n.trans.length c) (.int .i64 n.source) (.int .i64 n.sink), Loc.bl w.heap.size w] ((w.alloc (.cells #[.int .i64 n.places, .slice A n.trans.length c, .int .i64 n.source, .int .i64 n.sink] 24)).alloc (.map #[] 0))) := Lib.hid ⟨by have := SetAt.made (w.alloc (.cells #[.int .i64 n.places, .slice A n.trans.length c, .int .i64 n.source, .int .i64 n.sink] 24)); rw [World.size_alloc] at this; exact this, M.out.alloc _⟩
  go_wp2_with (first
    | (go_at_call 44; refine (key_any m lo' hi' _ _ (HW.out.after M2.out.2.2.1.1) (markB_small HMK.out) (by have := HML.out; omega) (by have := HML.out; intro e; rw [e] at this; simp at this)).mono ?_; rintro e w1 ⟨rfl, hb1⟩; replace M := Lib.hid (M2.out.below hb1); clear hb1 M2)
    | (refine wpList_put_set rfl _ _ _ (.inr rfl) (keyL m) rfl rfl rfl M.out (by (repeat' (first | exact True.intro | refine And.intro (fun k hk e => ?_) ?_)) <;> (first | exact e | ((try dsimp only [Loc.c1, Loc.c2, Loc.k1, Loc.k2, Loc.k3, Loc.k4, Loc.k6, Loc.fr, Loc.bl, Loc.own, Loc.sz, Loc.rd, Loc.rdI, Loc.rdS, Loc.rdM, Loc.rdT, Loc.ow, Loc.owI] at hk e) <;> omega))) (by rw [keyL_len]; have := HML.out; omega) (by simp) ?_; intro w2 hM2 hs2; replace M := Lib.hid hM2; clear hM2; replace hk4 := M.out.2.1))
  have hgs : w.heap.size + 1 < w2.heap.size := SetAt.lt M.out.1
  obtain ⟨qb, hqb⟩ : ∃ b, b = w2.heap.size := ⟨_, rfl⟩
  have M0 : Hid (Mem [Loc.owN qb (qb + 1) (.slice (some ⟨qb, 0, none⟩) 1 1) [⟨0, A2, m.length, c2, none, 0, 0⟩], Loc.set (w.heap.size + 1) (keysOf [⟨0, m, []⟩]), Loc.ns (silD w2.heap.size (w.heap.size + 1) qb) (w.heap.size + 2) [⟨0, A2, m.length, c2, none, 0, 0⟩] [⟨0, m, []⟩], Loc.k4 w.heap.size (.int .i64 n.places) (.slice A n.trans.length c) (.int .i64 n.source) (.int .i64 n.sink), Loc.bl w.heap.size w] (w2.alloc (.cells #[.int .i64 0, .slice A2 m.length c2, .slice none 0 0] 86))) := Lib.hid (by
    have hal := M.out.alloc (.cells #[.int .i64 0, .slice A2 m.length c2, .slice none 0 0] 86)
    refine ⟨?_, hal.1, ?_, hal.2⟩
    · rw [hqb]
      exact Own.lit w2 86 _ _ _ 1 rfl rfl (Nat.le_refl _) (by decide) (fun _ => rfl)
    · refine RdNs.snoc (RdNs.nil _ _ _) (v := ⟨0, A2, m.length, c2, none, 0, 0⟩) (x := ⟨0, m, []⟩) rfl (RdB.of (HW.out.after hal.2.2.1.1) (fun k h1 h2 => ⟨by omega, by omega, by omega⟩)) (RdB.nil _ _))
  have HQ0 : Hid (QI n m [⟨0, m, []⟩]) := Lib.hid (QI.init HMK.out)
  have hqs : qb < w2.heap.size + 1 := by omega
  have hgq : w.heap.size + 1 < qb := by omega
  go_wp2_with fail
  rw [← hqb]
  go_loopw [10, 9, 11, 12, 13, 14, 15] (fun v10 v9 _ _ _ _ _ wr => ∃ (i : Nat) (q : List Nd) (vs : List NdV) (B : Option Addr) (d qb hh : Nat), i ≤ q.length ∧ v10 = .int .i64 i ∧ v9 = .slice B vs.length d ∧ hh ≤ wr.heap.size ∧ w.heap.size + 1 < qb ∧ qb < wr.heap.size ∧ Hid (QI n m q) ∧ Hid (silE n good m = srch n good (201 - i) i q) ∧ Hid (Mem [Loc.owN qb (qb + 1) (.slice B vs.length d) vs, Loc.set (w.heap.size + 1) (keysOf q), Loc.ns (silD hh (w.heap.size + 1) qb) (w.heap.size + 2) vs q, Loc.k4 w.heap.size (.int .i64 n.places) (.slice A n.trans.length c) (.int .i64 n.source) (.int .i64 n.sink), Loc.bl w.heap.size w] wr)) (fun v10 _ _ _ _ _ _ _ => 201 - (intOf v10).toNat)
  case atStart => exact ⟨0, _, _, _, 1, qb, w2.heap.size, Nat.zero_le _, rfl, rfl, by simp, hgq, by simp; omega, HQ0, Lib.hid rfl, M0⟩
  case round =>
    clear M M0 HQ0 hqs hgq hqb hk4 hgs hmmk
    obtain ⟨i, q, vs, B, d, qb, hh, hil, rfl, rfl, hhs, hgq, hqs, HQ, HI, M⟩ := hrel
    have hk4 := M.out.2.2.2.1
    have hvl := M.out.2.2.1.1
    have hql := HQ.out.len
    by_cases hlt : i < q.length
    · obtain ⟨hxm, hxr, hxt⟩ := HQ.out.at_ i hlt
      obtain ⟨bq, offq, rfl, _, _, hcq⟩ := OwnN.at3 M.out.1 (k := i) (by omega)
      have hlt' : i < vs.length := by omega
      obtain ⟨hxk, hxm2, hxr2⟩ := M.out.2.2.1.2 i hlt
      have HXM := Lib.hid hxm
      have HXR := Lib.hid hxr
      have HXT := Lib.hid hxt
      obtain ⟨bm, hxm3⟩ := hxm2.rd
      have HRM := Lib.hid hxm3
      have HRR := Lib.hid hxr2
      have HS1 : Hid (silE n good m = if good (gti q i).m then some (gti q i).run else srch n good (201 - (i + 1)) (i + 1) (roundS n (gti q i) q n.trans.length)) := Lib.hid (by
        rw [HI.out]
        have e : 201 - i = (201 - (i + 1)) + 1 := by omega
        rw [e, srch, if_pos hlt])
      have HRD : Hid (∀ k, k ≤ n.trans.length → QI n m (roundS n (gti q i) q k)) := Lib.hid (fun k hk => HQ.out.round hlt hk)
      have HRA : Hid (∀ k, i < (roundS n (gti q i) q k).length ∧ gti (roundS n (gti q i) q k) i = gti q i) := Lib.hid (roundS_at hlt (gti q i))
      have HVL := Lib.hid hvl
      clear HI hxm hxr hxt hxm2 hxm3 hxr2 HXT hvl
      obtain ⟨x, hx⟩ : ∃ x, gti q i = x := ⟨_, rfl⟩
      obtain ⟨xv, hxv⟩ : ∃ x, gti vs i = x := ⟨_, rfl⟩
      have HX := Lib.hid hx
      have HXV := Lib.hid hxv
      rw [hx] at HS1 HRD HRA HXM HXR HRM HRR hxk
      rw [hxv] at HRM HRR hxk hcq
      clear hx hxv
      obtain ⟨xk, am, nm, cm, ar, nr, cr⟩ := xv
      dsimp only at hxk hcq HRM HRR
      have hnm : nm = x.m.length := by obtain ⟨_, _, h, _⟩ := HRM.out.form; injection h
      have hnr : nr = x.run.length := by obtain ⟨_, h⟩ := HRR.out; obtain ⟨_, _, h, _⟩ := h.2.form; injection h
      subst hnm hnr hxk
      have M3 : Hid (Mem [Loc.k3 wr.heap.size (.int .i64 x.k) (.slice am x.m.length cm) (.slice ar x.run.length cr), Loc.owN qb (qb + 1) (.slice (some ⟨bq, offq, none⟩) vs.length d) vs, Loc.set (w.heap.size + 1) (keysOf q), Loc.ns (silD hh (w.heap.size + 1) qb) (w.heap.size + 2) vs q, Loc.k4 w.heap.size (.int .i64 n.places) (.slice A n.trans.length c) (.int .i64 n.source) (.int .i64 n.sink), Loc.bl w.heap.size w] (wr.alloc (.cells #[.int .i64 x.k, .slice am x.m.length cm, .slice ar x.run.length cr] 86))) :=
        Lib.hid ⟨K3.new wr _ _ _ _, M.out.alloc _⟩
      have HRM3 := Lib.hid (HRM.out.after ((Below.refl _ _).alloc (Nat.le_refl _) (.cells #[.int .i64 x.k, .slice am x.m.length cm, .slice ar x.run.length cr] 86)))
      have HRR3 := Lib.hid (HRR.out.keep (Chg.alloc wr (.cells #[.int .i64 x.k, .slice am x.m.length cm, .slice ar x.run.length cr] 86)) (fun _ _ h => h))
      clear M HRM HRR
      have hkx := M3.out.1
      go_wp2_with fail
      refine (HG.out x.m bm (bm + 1) _ _ HXM.out M3.out.2.2.2.2.2.1.1 HRM3.out).mono ?_
      rintro e w3 ⟨rfl, hb3⟩
      have M := Lib.hid (M3.out.below hb3)
      have HRR := Lib.hid (HRR3.out.keep (Chg.below hb3) (fun _ _ h => h))
      have hw3 := hb3.size
      simp only [World.size_alloc] at hw3
      clear M3 hb3 HRM3 HRR3 hcq
      generalize wr.heap.size = gx at *
      replace hkx := M.out.1
      replace hk4 := M.out.2.2.2.2.1
      obtain ⟨zg, hzg⟩ : ∃ z, good x.m = z := ⟨_, rfl⟩
      rw [hzg] at HS1
      rw [hzg]
      clear hzg
      cases zg with
      | true =>
        rw [if_pos rfl] at HS1
        go_wp2_with fail
        exact HR.out _ _ ⟨_, _, by rw [HS1.out]; rfl, by rw [HS1.out]; exact HRR.out.within (fun k hk => ⟨by omega, by omega⟩), M.out.2.2.2.2.2.1.1⟩
      | false =>
        rw [if_neg (by simp)] at HS1
        go_wp2_with fail
        go_loopw [42, 9, 12, 13, 14, 15] (fun v42 v9 _ _ _ _ wr2 => ∃ (k : Nat) (vs2 : List NdV) (B2 : Option Addr) (d2 qb2 hh2 : Nat), k ≤ n.trans.length ∧ v42 = .int .i64 k ∧ v9 = .slice B2 vs2.length d2 ∧ hh2 ≤ wr2.heap.size ∧ w.heap.size + 1 < qb2 ∧ qb2 < wr2.heap.size ∧ qb2 ≠ gx ∧ gx + 1 ≤ wr2.heap.size ∧ Hid (∃ r, vs2 = vs ++ r) ∧ Hid (Mem [Loc.set (w.heap.size + 1) (keysOf (roundS n x q k)), Loc.owN qb2 (qb2 + 1) (.slice B2 vs2.length d2) vs2, Loc.ns (silD hh2 (w.heap.size + 1) qb2) (w.heap.size + 2) vs2 (roundS n x q k), Loc.k3 gx (.int .i64 x.k) (.slice am x.m.length cm) (.slice ar x.run.length cr), Loc.k4 w.heap.size (.int .i64 n.places) (.slice A n.trans.length c) (.int .i64 n.source) (.int .i64 n.sink), Loc.bl w.heap.size w] wr2)) (fun v42 _ _ _ _ _ _ => n.trans.length - (intOf v42).toNat)
        case atStart => exact ⟨0, vs, _, d, qb, hh, Nat.zero_le _, rfl, rfl, by omega, hgq, by omega, by omega, hw3, Lib.hid ⟨[], by simp⟩, Lib.hid ⟨M.out.2.2.1, M.out.2.1, M.out.2.2.2.1, M.out.1, M.out.2.2.2.2⟩⟩
        case round =>
          clear M HRR hkx hk4
          obtain ⟨k, vs2, B2, d2, qb2, hh2, hk, rfl, rfl, hhs2, hgq2, hqs2, hqx, hws2, HPRE, M⟩ := hrel
          have hkx := M.out.2.2.2.1
          have hk4 := M.out.2.2.2.2.1
          by_cases hlt2 : k < n.trans.length
          · have HQ2 := Lib.hid (HRD.out k hk)
            have HX2 := Lib.hid (HRA.out k)
            have HR3 : Hid (roundS n x q (k + 1) = stepS n x (roundS n x q k) k) := Lib.hid rfl
            obtain ⟨q2, hq2⟩ : ∃ y, roundS n x q k = y := ⟨_, rfl⟩
            rw [hq2] at HQ2 HX2 HR3 M
            clear hq2
            have hvl2 := M.out.2.2.1.1
            have hq200 := HQ2.out.len
            have hvl200 : vs2.length ≤ 200 := by omega
            obtain ⟨b4, off4, vi, vo, rfl, _, _, hct, hri, hro⟩ := RdT.at3 (HV.out.after M.out.2.2.2.2.2.1.1) hlt2
            obtain ⟨Ai, ci, rfl, hci, hmi⟩ := hri.form
            obtain ⟨Ao, co, rfl, hco, hmo⟩ := hro.form
            have HFE := Lib.hid (fun (W : World) (hW : Below w.heap.size w W) (bb : Nat) (hr : RdI W bb (bb + 1) (.slice am x.m.length cm) x.m) => Fire_any n x.m k _ _ lo hi bb (bb + 1) W (HV.out.after hW) hr)
            have HFM : Hid ((FireE n x.m k).2 = 0 → markB n (FireE n x.m k).1 = true) := Lib.hid (FireE_mark HXM.out)
            have HST : Hid (stepS n x q2 k = if silB n k = false ∨ q2.length = 200 then q2 else if (FireE n x.m k).2 ≠ 0 ∨ (FireE n x.m k).1 ∈ q2.map Nd.m then q2 else q2 ++ [⟨0, (FireE n x.m k).1, x.run ++ [(k : Int)]⟩]) := Lib.hid rfl
            obtain ⟨⟨fl, fe⟩, hfe⟩ : ∃ r, FireE n x.m k = r := ⟨_, rfl⟩
            rw [hfe] at HFE HFM HST
            dsimp only at HFM HST
            clear hfe hri hro
            obtain ⟨zl, hzl⟩ : ∃ z, silB n k = z := ⟨_, rfl⟩
            rw [hzl] at HST
            unfold silB at hzl
            generalize gti n.trans k = tr at *
            have HVL2 := Lib.hid hvl2
            cases zl with
            | false =>
              have HSQ : Hid (roundS n x q (k + 1) = q2) := Lib.hid (by rw [HR3.out, HST.out, if_pos (.inl rfl)])
              clear hvl2
              go_wp2_with fail
              exact ⟨⟨k + 1, vs2, B2, d2, qb2, hh2, by omega, by go_num, rfl, by simp; omega, hgq2, by simp; omega, hqx, by simp; omega, HPRE, Lib.hid (by rw [HSQ.out]; exact M.out.alloc _)⟩, by simp [intOf]; omega⟩
            | true =>
              by_cases h200 : q2.length = 200
              · have HSQ : Hid (roundS n x q (k + 1) = q2) := Lib.hid (by rw [HR3.out, HST.out, if_pos (.inr h200)])
                have hd1 : ((vs2.length : Int) == 200) = true := by simp; omega
                have hd2 : decide ((vs2.length : Int) = 200) = true := by simp; omega
                clear hvl2 h200
                go_wp2_with fail
                exact ⟨⟨k + 1, vs2, B2, d2, qb2, hh2, by omega, by go_num, rfl, by simp; omega, hgq2, by simp; omega, hqx, by simp; omega, HPRE, Lib.hid (by rw [HSQ.out]; exact M.out.alloc _)⟩, by simp [intOf]; omega⟩
              · have hd1 : ((vs2.length : Int) == 200) = false := by simp; omega
                have hd2 : decide ((vs2.length : Int) = 200) = false := by simp; omega
                rw [if_neg (by simp [h200])] at HST
                have H200 := Lib.hid h200
                clear h200
                obtain ⟨nv, hnv⟩ : ∃ v, v = gti vs2 i := ⟨_, rfl⟩
                have hxm2 := (M.out.2.2.1.2 i HX2.out.1).2.1
                have hxr2 := (M.out.2.2.1.2 i HX2.out.1).2.2
                have hve : gti vs2 i = ⟨x.k, am, x.m.length, cm, ar, x.run.length, cr⟩ := by
                  obtain ⟨r, hr⟩ := HPRE.out
                  rw [hr, gti_pre hlt', HXV.out]
                rw [HX2.out.2, hve] at hxm2 hxr2
                have HVE := Lib.hid hve
                clear hve hnv nv
                obtain ⟨bm2, hxm3⟩ := hxm2.rd
                have HXM3 := Lib.hid (Rd.after hxm3 ((Below.refl _ _).alloc (Nat.le_refl _) (.cells #[.string tr.label, .slice Ai tr.inn.length ci, .slice Ao tr.out.length co] 46)))
                clear hxm2 hxm3 hvl2
                by_cases hfe : fe = 0
                · subst hfe
                  have HFK := Lib.hid (HFM.out rfl)
                  have HFL := Lib.hid (markB_len HFK.out)
                  have HFS := Lib.hid (markB_small HFK.out)
                  have HKY := Lib.hid (HQ2.out.key HFK.out)
                  have HKL : Hid ((keyL fl).length ≤ 1000000) := Lib.hid (by rw [keyL_len]; have := HFL.out; omega)
                  obtain ⟨zs, hzs⟩ : ∃ z, decide (fl ∈ q2.map Nd.m) = z := ⟨_, rfl⟩
                  rw [hzs] at HKY
                  have HZS := Lib.hid hzs
                  clear hzs
                  obtain ⟨gt, hgt⟩ : ∃ g, wr.heap.size + 1 = g := ⟨_, rfl⟩
                  have HGT := Lib.hid hgt
                  have hgt1 : wr.heap.size < gt := by omega
                  clear hgt
                  cases zs with
                  | true =>
                    have HSQ : Hid (roundS n x q (k + 1) = q2) := Lib.hid (by rw [HR3.out, HST.out, if_pos (.inr (of_decide_eq_true HZS.out))])
                    go_wp2_with (first
                      | (go_at_call 45; refine (HFE.out _ (M.out.alloc _).2.2.2.2.2.1.1 bm2 HXM3.out).mono ?_; rintro e w5 ⟨A5, c5, rfl, hr5, hb5⟩; replace M := Lib.hid ((M.out.alloc (.cells #[.string tr.label, .slice Ai tr.inn.length ci, .slice Ao tr.out.length co] 46)).below hb5); have hz5 := hb5.size; simp only [World.size_alloc] at hz5 hr5; have HR5 := Lib.hid hr5; clear hb5 hr5)
                      | (go_at_call 44; refine (key_any fl _ _ _ _ HR5.out HFS.out (by have := HFL.out; omega) (by have := HFL.out; intro e; rw [e] at this; simp at this)).mono ?_; rintro e w6 ⟨rfl, hb6⟩; replace M := Lib.hid (M.out.below hb6); have hz6 := hb6.size; have hlook := SetAt.look' M.out.1 (keyL fl) HKL.out HKY.out; clear hb6)
                      )
                    exact ⟨⟨k + 1, vs2, B2, d2, qb2, hh2, by omega, by go_num, rfl, by omega, hgq2, by omega, hqx, by omega, HPRE, Lib.hid (by rw [HSQ.out]; exact M.out)⟩, by simp [intOf]; omega⟩
                  | false =>
                    have HSQ : Hid (roundS n x q (k + 1) = q2 ++ [⟨0, fl, x.run ++ [(k : Int)]⟩]) := Lib.hid (by rw [HR3.out, HST.out, if_neg (by simp; have := of_decide_eq_false HZS.out; simpa using this)])
                    have HXL : Hid (x.run.length ≤ 200) := Lib.hid (by have := HXR.out; omega)
                    go_wp2_with (first
                      | (go_at_call 45; refine (HFE.out _ (M.out.alloc _).2.2.2.2.2.1.1 bm2 HXM3.out).mono ?_; rintro e w5 ⟨A5, c5, rfl, hr5, hb5⟩; have hz5 := hb5.size; simp only [World.size_alloc] at hz5 hr5; rw [HGT.out] at hr5 hz5; replace M : Hid (Mem [_, _, _, _, Loc.rdI gt w5.heap.size _ fl, _, _] w5) := Lib.hid (by have hal := ((M.out.alloc (.cells #[.string tr.label, .slice Ai tr.inn.length ci, .slice Ao tr.out.length co] 46)).below hb5); exact ⟨hal.1, hal.2.1, hal.2.2.1, hal.2.2.2.1, hr5, hal.2.2.2.2⟩); clear hb5 hr5)
                      | (go_at_call 44; refine (key_any fl _ _ _ _ M.out.2.2.2.2.1 HFS.out (by have := HFL.out; omega) (by have := HFL.out; intro e; rw [e] at this; simp at this)).mono ?_; rintro e w6 ⟨rfl, hb6⟩; replace M := Lib.hid (M.out.below hb6); have hz6 := hb6.size; have hlook := SetAt.look' M.out.1 (keyL fl) HKL.out HKY.out; clear hb6)
                      | (refine wpList_put_set rfl _ _ _ (.inl rfl) (keyL fl) rfl rfl rfl M.out (by (repeat' (first | exact True.intro | refine And.intro (fun k hk e => ?_) ?_)) <;> (first | exact e | ((try dsimp only [Loc.c1, Loc.c2, Loc.k1, Loc.k2, Loc.k3, Loc.k4, Loc.k6, Loc.fr, Loc.bl, Loc.own, Loc.sz, Loc.rd, Loc.rdI, Loc.rdS, Loc.rdM, Loc.rdT, Loc.ow, Loc.owI, Loc.owN, Loc.set, Loc.ns, Loc.cg, silD] at hk e) <;> omega))) HKL.out (by rw [keysOf_len]; omega) ?_; intro w7 hM7 hs7; replace M := Lib.hid hM7; clear hM7; replace hkx := M.out.2.2.2.1; replace hk4 := M.out.2.2.2.2.2.1)
                      | (go_at_call 46; have hxr3 := (M.out.2.2.1.2 i HX2.out.1).2.2; rw [HX2.out.2, HVE.out] at hxr3; obtain ⟨br, hbr⟩ := hxr3.rd; clear hxr3; refine (clone_any x.run _ br (br + 1) _ hbr (by have := HXL.out; omega)).mono ?_; rintro e w8 ⟨A8, c8, rfl, ho8, hb8⟩; replace M := Lib.hid (M.out.below hb8); have hz8 := hb8.size; have HO := Lib.hid ho8; clear hb8 ho8 hbr)
                      | (at_builtin; refine wpList_app2 rfl _ _ rfl ti_int (fun _ => rfl) oneI rfl rfl (Mem.cons (a := Loc.owI w7.heap.size w8.heap.size _ _) (HO.out.alloc _) (M.out.alloc _)) (by (repeat' (first | exact True.intro | refine And.intro (fun k hk e => ?_) ?_)) <;> (first | exact e | ((try dsimp only [Loc.c1, Loc.c2, Loc.k1, Loc.k2, Loc.k3, Loc.k4, Loc.k6, Loc.fr, Loc.bl, Loc.own, Loc.sz, Loc.rd, Loc.rdI, Loc.rdS, Loc.rdM, Loc.rdT, Loc.ow, Loc.owI, Loc.owN, Loc.set, Loc.ns, Loc.cg, silD] at hk e) <;> omega))) (RdI.lit1 _ _ _) (by have := HXL.out; simp; omega) (by have := HXL.out; simp; omega) (by simp; omega) ?_; intro A9 c9 w9 g0 g1 hg9 hM9 hs9 hch9; have M9 := Lib.hid hM9; simp only [World.size_alloc] at hs9 hg9; clear hM9 hch9; have tok9 : True := trivial)
                      | (have _t := tok9; at_builtin; refine wpList_app2 rfl _ _ rfl ti_node (fun _ => rfl) oneN rfl rfl (Mem.cons (a := Loc.owN qb2 (qb2 + 1) _ vs2) (M9.out.alloc _).2.2.1 (Mem.cons (a := Loc.owI g0 g1 _ (x.run ++ [(k : Int)])) (M9.out.alloc _).1 (Mem.cons (a := Loc.set _ _) (M9.out.alloc _).2.1 (M9.out.alloc _).2.2.2))) (by (repeat' (first | exact True.intro | refine And.intro (fun k hk e => ?_) ?_)) <;> (first | exact e | ((try dsimp only [Loc.c1, Loc.c2, Loc.k1, Loc.k2, Loc.k3, Loc.k4, Loc.k6, Loc.fr, Loc.bl, Loc.own, Loc.sz, Loc.rd, Loc.rdI, Loc.rdS, Loc.rdM, Loc.rdT, Loc.ow, Loc.owI, Loc.owN, Loc.set, Loc.ns, Loc.cg, silD] at hk e) <;> omega))) (RdNv.lit w9 ⟨0, A5, fl.length, c5, A9, x.run.length + 1, c9⟩ _) (by simp; omega) (by simp; omega) (by simp; omega) ?_; intro AA cA wA q0 q1 hgA hMA hsA hchA; have MA := Lib.hid hMA; simp only [World.size_alloc] at hsA hgA; clear hMA hchA))
                    have hq1 : q1 = q0 + 1 := by omega
                    subst hq1
                    have HNS : Hid (RdNs (silD wA.heap.size (w.heap.size + 1) q0) (w.heap.size + 2) wA (vs2 ++ [⟨0, A5, fl.length, c5, A9, x.run.length + 1, c9⟩]) (q2 ++ [⟨0, fl, x.run ++ [(k : Int)]⟩])) := Lib.hid (by
                      refine RdNs.snoc (RdNs.mono MA.out.2.2.2.1 (fun k hk => ?_)) rfl (RdB.of MA.out.2.2.2.2.2.1 (fun k h1 h2 => ?_)) (RdB.of (Own.rd MA.out.2.1) (fun k h1 h2 => ?_))
                      · have := hk.1; have := hk.2.1; have := hk.2.2
                        refine ⟨?_, ?_, ?_⟩ <;> omega
                      · refine ⟨?_, ?_, ?_⟩ <;> omega
                      · refine ⟨?_, ?_, ?_, ?_⟩ <;> omega)
                    exact ⟨⟨k + 1, vs2 ++ [⟨0, A5, fl.length, c5, A9, x.run.length + 1, c9⟩], AA, cA, q0, wA.heap.size, by omega, by go_num, by simp, Nat.le_refl _, by omega, by omega, by omega, by omega, Lib.hid (by obtain ⟨r, hr⟩ := HPRE.out; exact ⟨r ++ [_], by rw [hr, List.append_assoc]⟩), Lib.hid (by rw [HSQ.out, keysOf_snoc, List.length_append]; exact ⟨MA.out.2.2.1, MA.out.1, HNS.out, MA.out.2.2.2.2.1, MA.out.2.2.2.2.2.2⟩)⟩, by simp [intOf]; omega⟩
                · have HSQ : Hid (roundS n x q (k + 1) = q2) := Lib.hid (by rw [HR3.out, HST.out, if_pos (.inl hfe)])
                  go_wp2_with (go_at_call 45; refine (HFE.out _ (M.out.alloc _).2.2.2.2.2.1.1 bm2 HXM3.out).mono ?_; rintro e w5 ⟨A5, c5, rfl, hr5, hb5⟩; replace M := Lib.hid ((M.out.alloc (.cells #[.string tr.label, .slice Ai tr.inn.length ci, .slice Ao tr.out.length co] 46)).below hb5); have hz5 := hb5.size; simp only [World.size_alloc] at hz5; clear hb5 hr5)
                  exact ⟨⟨k + 1, vs2, B2, d2, qb2, hh2, by omega, by go_num, rfl, by omega, hgq2, by omega, hqx, by omega, HPRE, Lib.hid (by rw [HSQ.out]; exact M.out)⟩, by simp [intOf]; omega⟩
          · obtain rfl : k = n.trans.length := by omega
            have HAT := Lib.hid (HRA.out n.trans.length)
            go_wp2_with fail
            exact ⟨⟨i + 1, roundS n x q n.trans.length, vs2, B2, d2, qb2, hh2, by have := HAT.out.1; omega, by go_num, rfl, hhs2, hgq2, hqs2, Lib.hid (HRD.out _ (Nat.le_refl _)), HS1, Lib.hid ⟨M.out.2.1, M.out.1, M.out.2.2.1, M.out.2.2.2.2⟩⟩, by simp [intOf]; omega⟩
    · obtain rfl : i = q.length := by omega
      have hlt' : ¬ q.length < vs.length := by omega
      clear hvl
      have HE : Hid (silE n good m = none) := Lib.hid (by
        rw [HI.out]
        obtain h | ⟨k, h⟩ : 201 - q.length = 0 ∨ ∃ k, 201 - q.length = k + 1 := by
          rcases Nat.eq_zero_or_pos (201 - q.length) with h | h
          · exact .inl h
          · exact .inr ⟨201 - q.length - 1, by omega⟩
        · rw [h]; rfl
        · rw [h, srch, if_neg (by omega)])
      clear HI
      go_wp2_with fail
      exact HR.out _ _ ⟨none, 0, by rw [HE.out]; rfl, by rw [HE.out]; exact Rd.nil _ _ _, M.out.2.2.2.2.1.1⟩
end Go.Proofs.Ytmhbfoaecebobaa
