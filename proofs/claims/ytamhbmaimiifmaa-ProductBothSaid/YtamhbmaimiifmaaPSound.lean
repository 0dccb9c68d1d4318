/-
  ProductSound, for every net, word, costs, and alignment: of an alignment that Check accepts the word of its moves is the word, and the run of its moves leads from the initial to the final marking. Conditions: none.
-/
import Derived.Test.YtamhbmaimiifmaaPChecks
import Derived.Test.YtamhbmaimiifmaaPRun
namespace Go.Proofs.Ytamhbmaimiifmaa
set_option linter.unusedSimpArgs false
set_option linter.unusedVariables false
open Go.ChangeShapes Go.WideShapes Go.ChangeAt Go.RowKit

abbrev sndL (w0 : World) (n : Net) (vt : Value) (c : Cst) (vs : Value) (k : Int) : List Loc := [Loc.k4 w0.heap.size (.int .i64 n.places) (vt) (.int .i64 n.source) (.int .i64 n.sink), Loc.k3 (w0.heap.size + 1) (.int .i64 c.log) (.int .i64 c.model) (.int .i64 c.silent), Loc.k2 (w0.heap.size + 2) vs (.int .i64 k), Loc.bl w0.heap.size w0]
theorem sndM (w0 : World) (n : Net) (vt : Value) (c : Cst) (vs : Value) (k : Int) : Mem (sndL w0 n vt c vs k) (((w0.alloc (.cells #[.int .i64 n.places, vt, .int .i64 n.source, .int .i64 n.sink] 24)).alloc (.cells #[.int .i64 c.log, .int .i64 c.model, .int .i64 c.silent] 27)).alloc (.cells #[vs, .int .i64 k] 30)) := by
  have h := chkM w0 n vt c vs k
  refine ⟨h.1, h.2.1, ?_, h.2.2.2.2⟩
  have := K2.new ((w0.alloc (.cells #[.int .i64 n.places, vt, .int .i64 n.source, .int .i64 n.sink] 24)).alloc (.cells #[.int .i64 c.log, .int .i64 c.model, .int .i64 c.silent] 27)) vs (.int .i64 k) 30
  simp only [World.size_alloc] at this
  exact this
theorem RetS.of {w : World} {r r' : List ByteArray × Int} {e : Ending} {w' : World} (h : RetS w r e w') (hr : r = r') : RetS w r' e w' := hr ▸ h
theorem RetR.of {w : World} {r r' : List Int × Int × Int} {e : Ending} {w' : World} (h : RetR w r e w') (hr : r = r') : RetR w r' e w' := hr ▸ h
theorem snd_store {W : World} {n : Net} {vt : Value} {c : Cst} {vs : Value} {k : Int} {w0 : World} (h : Mem (sndL w0 n vt c vs k) W) (u : Int) : Mem (sndL w0 n vt c vs u) (W.setCell ⟨w0.heap.size + 2, 1, none⟩ (.int .i64 u)) := by
  have h1 := h.1
  have h2 := h.2.1
  have h3 := h.2.2.1
  have h4 := h.2.2.2.1
  have hr : Mem [Loc.k4 w0.heap.size (.int .i64 n.places) (vt) (.int .i64 n.source) (.int .i64 n.sink), Loc.k3 (w0.heap.size + 1) (.int .i64 c.log) (.int .i64 c.model) (.int .i64 c.silent), Loc.bl w0.heap.size w0] (W.setCell ⟨w0.heap.size + 2, 1, none⟩ (.int .i64 u)) := Mem.set (g := w0.heap.size + 2) ⟨h1, h2, h4, True.intro⟩ (by (repeat' (first | exact True.intro | refine And.intro (fun k hk e => ?_) ?_)) <;> (first | exact e | ((try dsimp only [Loc.c1, Loc.c2, Loc.k1, Loc.k2, Loc.k3, Loc.k4, Loc.k6, Loc.fr, Loc.bl, Loc.own, Loc.sz, Loc.rd, Loc.rdI, Loc.rdS, Loc.rdM, Loc.rdT, Loc.ow, Loc.owI] at hk e) <;> omega)))
  refine ⟨hr.1, hr.2.1, ?_, hr.2.2⟩
  obtain ⟨a1, a2, a3, a4, a5⟩ := h3
  exact ⟨by rw [World.cell?_setCell_other _ _ _ _ (by simp)]; exact a1, by simp [go_sem, a2], by simp [go_sem, a3], by simp [go_sem, a4], by simpa using a5⟩

set_option maxRecDepth 100000 in
set_option maxHeartbeats 8000000 in
theorem lawSound_any (n : Net) (l : List ByteArray) (c : Cst) (sl : List Stp) (k : Int) (vt v vs : Value) (lo hi lo2 hi2 : Nat) (w : World) (hv : RdT w lo hi vt n.trans) (hw : RdS w lo hi v l) (hs : RdM w lo2 hi2 vs sl) :
    Calls Try.prog 5 #[netV n vt, v, cstV c, algV vs k] w fun e w' => e = .returned (.bool true) ∧ Below w.heap.size w w' := by
  obtain ⟨A, ca, rfl, hc, hmm⟩ := hv.form
  obtain ⟨A2, c2, rfl, hc2, hmm2⟩ := hw.form
  obtain ⟨A3, c3, rfl, hc3, hmm3⟩ := hs.form
  have HV := Lib.hid hv
  have HW := Lib.hid hw
  have HS := Lib.hid hs
  have M := Lib.hid (sndM w n (.slice A n.trans.length ca) c (.slice A3 sl.length c3) k)
  clear hv hw hs
  have HCH := Lib.hid (fun (q : Int) (W : World) (h : Below w.heap.size w W) => Check_any n l c sl q _ _ _ lo hi lo hi lo2 hi2 W (HV.out.after h) (HW.out.after h) (HS.out.after h))
  obtain ⟨z, hcb⟩ : ∃ z, checkB n l c sl k = z := ⟨_, rfl⟩
  have HCB := Lib.hid hcb
  by_cases hgo : z = false ∨ 60 < sl.length
  · clear hcb
    have hgo' : ¬ (z = true ∧ ¬ (60 : Int) < sl.length) := by
      rintro ⟨h1, h2⟩
      rcases hgo with h | h
      · rw [h] at h1; cases h1
      · omega
    clear hgo
    cases z
    · skip
      refine calls_cps fun R hR => ?_
      have HR := Lib.hid hR
      clear hR
      go_enter Try.func5, Try.ntmps5
      have hk4 := M.out.1
      have hk3 := M.out.2.1
      have hk2 := M.out.2.2.1
      go_wp2_with (first
      | (go_at_call 9; refine (awake_any _).mono ?_; rintro e w1 ⟨rfl, hb1⟩; replace M := Lib.hid (M.out.below hb1); clear hb1; replace hk4 := M.out.1; replace hk3 := M.out.2.1; replace hk2 := M.out.2.2.1)
      | (go_at_call 10; refine (few_any n l lo hi _ _ _ (HV.out.after M.out.2.2.2.1.1) (HW.out.after M.out.2.2.2.1.1)).mono ?_; rintro e w1 ⟨z1, rfl, hb1⟩; replace M := Lib.hid (M.out.below hb1); clear hb1; replace hk4 := M.out.1; replace hk3 := M.out.2.1; replace hk2 := M.out.2.2.1)
      | (go_at_call 11; refine (short_any sl lo2 hi2 _ _ (HS.out.after M.out.2.2.2.1.1)).mono ?_; rintro e w1 ⟨z2, rfl, hb1⟩; replace M := Lib.hid (M.out.below hb1); clear hb1; replace hk4 := M.out.1; replace hk3 := M.out.2.1; replace hk2 := M.out.2.2.1)
      | (go_at_call 12; refine (HCH.out k _ M.out.2.2.2.1.1).mono ?_; rintro e w1 ⟨rfl, hb1⟩; rw [HCB.out]; replace M := Lib.hid (M.out.below hb1); clear hb1; replace hk4 := M.out.1; replace hk3 := M.out.2.1; replace hk2 := M.out.2.2.1))
      all_goals exact HR.out _ _ ⟨rfl, M.out.2.2.2.1.1⟩
    · have h60 : (60 : Int) < sl.length := by
        by_cases h : (60 : Int) < sl.length
        · exact h
        · exact absurd ⟨rfl, h⟩ hgo'
      clear hgo'
      refine calls_cps fun R hR => ?_
      have HR := Lib.hid hR
      clear hR
      go_enter Try.func5, Try.ntmps5
      have hk4 := M.out.1
      have hk3 := M.out.2.1
      have hk2 := M.out.2.2.1
      go_wp2_with (first
      | (go_at_call 9; refine (awake_any _).mono ?_; rintro e w1 ⟨rfl, hb1⟩; replace M := Lib.hid (M.out.below hb1); clear hb1; replace hk4 := M.out.1; replace hk3 := M.out.2.1; replace hk2 := M.out.2.2.1)
      | (go_at_call 10; refine (few_any n l lo hi _ _ _ (HV.out.after M.out.2.2.2.1.1) (HW.out.after M.out.2.2.2.1.1)).mono ?_; rintro e w1 ⟨z1, rfl, hb1⟩; replace M := Lib.hid (M.out.below hb1); clear hb1; replace hk4 := M.out.1; replace hk3 := M.out.2.1; replace hk2 := M.out.2.2.1)
      | (go_at_call 11; refine (short_any sl lo2 hi2 _ _ (HS.out.after M.out.2.2.2.1.1)).mono ?_; rintro e w1 ⟨z2, rfl, hb1⟩; replace M := Lib.hid (M.out.below hb1); clear hb1; replace hk4 := M.out.1; replace hk3 := M.out.2.1; replace hk2 := M.out.2.2.1)
      | (go_at_call 12; refine (HCH.out k _ M.out.2.2.2.1.1).mono ?_; rintro e w1 ⟨rfl, hb1⟩; rw [HCB.out]; replace M := Lib.hid (M.out.below hb1); clear hb1; replace hk4 := M.out.1; replace hk3 := M.out.2.1; replace hk2 := M.out.2.2.1))
      all_goals exact HR.out _ _ ⟨rfl, M.out.2.2.2.1.1⟩
  · have hz : z = true := by cases z <;> simp_all
    subst hz
    have h60n : sl.length ≤ 60 := by
      rcases Nat.lt_or_ge 60 sl.length with h | h
      · exact absurd (Or.inr h) hgo
      · exact h
    have h60 : ¬ (60 : Int) < sl.length := by omega
    obtain ⟨f1, f2, f3, f4, f5, f6, f7⟩ := check_sound hcb
    have HWE : Hid (wordE sl = (l, 0)) := Lib.hid (by rw [wordE, f4, if_pos rfl, f6])
    have HCE : Hid (costE c sl = (k, 0)) := Lib.hid (by rw [costE, f3, f4]; simp [f5])
    have hrl := runAt_len sl sl.length
    have hpl := validB_places f1
    have HCN : Hid (checkB n l c sl (k + 1) = false) := Lib.hid (by
      unfold checkB
      rw [decide_eq_false (p := costAt c sl sl.length = k + 1) (by omega)]
      simp)
    have hkb : 0 ≤ k ∧ k ≤ 60000 := by
      have := costAt_bd f3 sl sl.length
      rw [f5] at this
      omega
    have HRE : Hid (runE sl = (runAt sl sl.length, 0)) := Lib.hid (by rw [runE, f4, if_pos rfl])
    generalize runAt sl sl.length = rl at *
    have HRU : Hid (RunE n (oneL n.places.toNat n.source) rl = (oneL n.places.toNat n.sink, (rl.length : Int), 0)) := Lib.hid (by
      rw [RunE, if_pos (by rw [markB, f1, oneL_mark _ hpl.1]; rfl), if_neg (by omega), runG_M f7]
      simp)
    have HI1 := Lib.hid (oneE_true f1 n.source)
    have HI2 := Lib.hid (oneE_true f1 n.sink)
    generalize oneL n.places.toNat n.source = m1 at *
    generalize oneL n.places.toNat n.sink = m2 at *
    clear hcb hgo f1 f2 f3 f4 f5 f6 f7 hpl hrl
    have hwr : IntKind.i64.wrap (k + 1) = k + 1 := IntWalk.i64_in _ (by omega)
    refine calls_cps fun R hR => ?_
    have HR := Lib.hid hR
    clear hR
    go_enter Try.func5, Try.ntmps5
    have hk4 := M.out.1
    have hk3 := M.out.2.1
    have hk2 := M.out.2.2.1
    have tok1 : True := trivial
    go_wp2_with (first
      | (go_at_call 9; refine (awake_any _).mono ?_; rintro e w1 ⟨rfl, hb1⟩; replace M := Lib.hid (M.out.below hb1); clear hb1; replace hk4 := M.out.1; replace hk3 := M.out.2.1; replace hk2 := M.out.2.2.1)
      | (go_at_call 10; refine (few_any n l lo hi _ _ _ (HV.out.after M.out.2.2.2.1.1) (HW.out.after M.out.2.2.2.1.1)).mono ?_; rintro e w1 ⟨z1, rfl, hb1⟩; replace M := Lib.hid (M.out.below hb1); clear hb1; replace hk4 := M.out.1; replace hk3 := M.out.2.1; replace hk2 := M.out.2.2.1)
      | (go_at_call 11; refine (short_any sl lo2 hi2 _ _ (HS.out.after M.out.2.2.2.1.1)).mono ?_; rintro e w1 ⟨z2, rfl, hb1⟩; replace M := Lib.hid (M.out.below hb1); clear hb1; replace hk4 := M.out.1; replace hk3 := M.out.2.1; replace hk2 := M.out.2.2.1)
      | (go_at_call 12; have _t := tok1; refine (HCH.out k _ M.out.2.2.2.1.1).mono ?_; rintro e w1 ⟨rfl, hb1⟩; rw [HCB.out]; replace M := Lib.hid (M.out.below hb1); clear hb1; clear tok1; replace hk4 := M.out.1; replace hk3 := M.out.2.1; replace hk2 := M.out.2.2.1)
      | (go_at_call 16; refine (Word_any sl lo2 hi2 _ _ (HS.out.after M.out.2.2.2.1.1)).mono ?_; rintro e w2 hret; replace hret := hret.of HWE.out; obtain ⟨A4, c4, rfl, hr, hb⟩ := hret; dsimp only at hr ⊢; replace M := Lib.hid (Mem.cons (a := Loc.rdS _ _ _ _) hr (M.out.below hb)); clear hb hr; replace hk4 := M.out.2.1; replace hk3 := M.out.2.2.1; replace hk2 := M.out.2.2.2.1)
      | (go_at_call 18; refine (Run_any sl lo2 hi2 _ _ (HS.out.after M.out.2.2.2.2.1.1)).mono ?_; rintro e w3 hret; replace hret := hret.of HRE.out; obtain ⟨A5, c5, rfl, hr, hb⟩ := hret; dsimp only at hr ⊢; replace M := Lib.hid (Mem.cons (a := Loc.rdI _ _ _ _) hr (M.out.below hb)); clear hb hr; replace hk4 := M.out.2.2.1; replace hk3 := M.out.2.2.2.1; replace hk2 := M.out.2.2.2.2.1)
      | (go_at_call 14; refine (Cost_any c sl lo2 hi2 _ _ (HS.out.after M.out.2.2.2.2.2.1.1)).mono ?_; rintro e w4 ⟨rfl, hb⟩; rw [HCE.out]; dsimp only; replace M := Lib.hid (M.out.below hb); clear hb; replace hk4 := M.out.2.2.1; replace hk3 := M.out.2.2.2.1; replace hk2 := M.out.2.2.2.2.1)
      | (go_at_call 24; refine (equalS_eq l _ _ lo hi _ _ _ M.out.2.1 (HW.out.after M.out.2.2.2.2.2.1.1)).mono ?_; rintro e w5 ⟨rfl, hb⟩; replace M := Lib.hid (M.out.below hb); clear hb; replace hk4 := M.out.2.2.1; replace hk3 := M.out.2.2.2.1; replace hk2 := M.out.2.2.2.2.1)
      | (go_at_call 25; refine (initial_any n _ lo hi _ (HV.out.after M.out.2.2.2.2.2.1.1)).mono ?_; rintro e w6 hret; replace hret := hret.of HI1.out; obtain ⟨A6, c6, rfl, hr, hb⟩ := hret; dsimp only at hr ⊢; replace M := Lib.hid (Mem.cons (a := Loc.rdI _ _ _ _) hr (M.out.below hb)); clear hb hr; replace hk4 := M.out.2.2.2.1; replace hk3 := M.out.2.2.2.2.1; replace hk2 := M.out.2.2.2.2.2.1)
      | (go_at_call 26; refine (final_any n _ lo hi _ (HV.out.after M.out.2.2.2.2.2.2.1.1)).mono ?_; rintro e w7 hret; replace hret := hret.of HI2.out; obtain ⟨A7, c7, rfl, hr, hb⟩ := hret; dsimp only at hr ⊢; replace M := Lib.hid (Mem.cons (a := Loc.rdI _ _ _ _) hr (M.out.below hb)); clear hb hr; replace hk4 := M.out.2.2.2.2.1; replace hk3 := M.out.2.2.2.2.2.1; replace hk2 := M.out.2.2.2.2.2.2.1)
      | (go_at_call 27; refine (pRun_any n m1 rl _ _ _ lo hi _ _ _ _ _ (HV.out.after M.out.2.2.2.2.2.2.2.1.1) M.out.2.1 M.out.2.2.1).mono ?_; rintro e w8 hret; replace hret := hret.of HRU.out; obtain ⟨A8, c8, rfl, hr, hb⟩ := hret; dsimp only at hr ⊢; replace M := Lib.hid (Mem.cons (a := Loc.rdI _ _ _ _) hr (M.out.below hb)); clear hb hr; replace hk4 := M.out.2.2.2.2.2.1; replace hk3 := M.out.2.2.2.2.2.2.1; replace hk2 := M.out.2.2.2.2.2.2.2.1)
      | (go_at_call 23; refine (equalI_any m2 m2 _ _ _ _ _ _ _ M.out.1 M.out.2.1).mono ?_; rintro e w9 ⟨rfl, hb⟩; rw [decide_eq_true rfl]; have hM9 := (M.out.below hb).2.2.2.2.2; have HN := Lib.hid (snd_store hM9 (k + 1)); replace M := Lib.hid hM9; clear hb hM9; replace hk4 := M.out.1; replace hk3 := M.out.2.1; replace hk2 := M.out.2.2.1))
    all_goals try exact HR.out _ _ ⟨rfl, M.out.2.2.2.1.1⟩
    refine (HCH.out (k + 1) _ HN.out.2.2.2.1.1).mono ?_
    rintro e w10 ⟨rfl, hb⟩
    rw [HCN.out]
    replace M := Lib.hid (HN.out.below hb)
    clear hb HN
    go_wp2_with fail
    exact HR.out _ _ ⟨rfl, M.out.2.2.2.1.1⟩

set_option maxRecDepth 100000 in
theorem productSound_lifted (os : Os) (started : os.Started) (H : Type) (enc : TypeId × Value → H) :
    ReturnsInHanded {} Try.checked os 5 .any (Rows.productSoundSpec.pre6 enc Try.prog Try.f5 Rows.productSoundRow.domain false) (Rows.productSoundSpec.post enc Try.prog Try.f5 false true false false) := by
  refine returnsInHanded_of_change (C := Try.checked) own_knob started (by kernel_rfl) Try.func5
    (ChangeSpec.witness6 (enc := enc) (C := Try.checked) false ⟨#[], #[.agg #[.int .i64 0, .slice none 0 0, .int .i64 0, .int .i64 0], .slice none 0 0, .agg #[.int .i64 0, .int .i64 0, .int .i64 0], .agg #[.slice none 0 0, .int .i64 0]], []⟩ 8 (by kernel_rfl) (by kernel_rfl) (by kernel_rfl) (by kernel_rfl)) ?_
  intro W base args ds gs before hval0 hW hcnd _
  have hval : ∀ (j : Nat) t v, Try.f5.params[j]? = some t → args[j]? = some v → Value.okWide Try.prog W .any base t v := hval0
  have hW' := hW
  obtain ⟨p, q, hA0, hV, rfl, hfz, hnd⟩ := hW
  have hA : DataW.TrodAll enc Try.prog W 0 (fun _ => true) true Try.f5.params.toList args.toList ds p := hA0
  rw [Try.params5] at hA hval
  obtain ⟨v0, v1, v2, v3, d0, d1, d2, d3, p0, p1, p2, p3, rfl, rfl, rfl, h0, h1, h2, h3⟩ := trodAll_four hA
  obtain ⟨rfl, rfl⟩ := trodVars_none hV
  obtain ⟨n, vt, rfl, rn⟩ := open_net (hval 0 24 v0 rfl rfl) h0
  obtain ⟨l, rl⟩ := open_strs' (hval 1 25 v1 rfl rfl) h1
  obtain ⟨c, rfl⟩ := open_costs (hval 2 27 v2 rfl rfl) h2
  obtain ⟨sl, vs, k, rfl, rs⟩ := open_algn (hval 3 30 v3 rfl rfl) h3
  simp only [List.append_nil] at hW'
  refine (lawSound_any n l c sl k vt v1 vs 0 _ 0 _ W rn rl rs).mono fun e W' ⟨he, hb⟩ => ?_
  subst he
  have hp : ∀ x ∈ p0 ++ p1 ++ p2 ++ p3, x.block < W.heap.size := fun x hx => hW'.lt x (by simpa using hx)
  have hg := trodAll_mk4 (Below.trod laid_out (by kernel_rfl) (of_decide_eq_true (by kernel_rfl)) h0 hb (fun x hx => hp x (by simp [hx]))) (Below.trod laid_out (by kernel_rfl) (of_decide_eq_true (by kernel_rfl)) h1 hb (fun x hx => hp x (by simp [hx]))) (Below.trod laid_out (by kernel_rfl) (of_decide_eq_true (by kernel_rfl)) h2 hb (fun x hx => hp x (by simp [hx]))) (Below.trod laid_out (by kernel_rfl) (of_decide_eq_true (by kernel_rfl)) h3 hb (fun x hx => hp x (by simp [hx])))
  rw [← List.append_assoc, ← List.append_assoc] at hg
  exact ⟨_, rfl, law_post (t := 4) hW' (by kernel_rfl) Try.underlying4 ⟨rfl, rfl, rfl⟩ rfl hg hb⟩

theorem productSound_holds : Rows.ProductSoundSaid :=
  OpenClaim.holds_of_wide 5 Try.f5 rfl rfl rfl rfl rfl rfl rfl ⟨rfl, rfl, rfl, rfl, rfl⟩ rfl rfl rfl rfl rfl (by kernel_rfl) Try.func5 (by kernel_rfl)
    (of_decide_eq_true (by kernel_rfl)) (by unfold Func.isWrapper; first | (rw [if_pos (by decide +kernel)]; kernel_rfl) | (rw [if_neg (by decide +kernel)]; exact ⟨rfl, rfl⟩))
    (fun os started H enc _ => productSound_lifted os started H enc)

#print axioms productSound_holds

end Go.Proofs.Ytamhbmaimiifmaa
