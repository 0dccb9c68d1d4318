/-
  replay.Play. Conditions: none.
-/
import Derived.Test.YtmhbfoaecebobaaPlay4
namespace Go.Proofs.Ytmhbfoaecebobaa
set_option linter.unusedSimpArgs false
set_option linter.unusedVariables false
open Go.RowKit

abbrev cntV (c : Cnt) : Value := .agg #[.int .i64 c.p, .int .i64 c.c, .int .i64 c.m, .int .i64 c.r]
/-- a block of four cells of the call's own -/
abbrev K4f (w : World) (g : Nat) (a b c d : Value) : Prop := w.cell? ⟨g, 0, none⟩ = some a ∧ w.cell? ⟨g, 1, none⟩ = some b ∧ w.cell? ⟨g, 2, none⟩ = some c ∧ w.cell? ⟨g, 3, none⟩ = some d ∧ w.frozen? ⟨g, 0, none⟩ = false ∧ w.frozen? ⟨g, 1, none⟩ = false ∧ w.frozen? ⟨g, 2, none⟩ = false ∧ w.frozen? ⟨g, 3, none⟩ = false ∧ g < w.heap.size
theorem K4f.of_block {W W' : World} {g : Nat} {a b c d : Value} (h : K4f W g a b c d) (he : W'.heap[g]? = W.heap[g]?) (hs : W.heap.size ≤ W'.heap.size) : K4f W' g a b c d := by
  obtain ⟨h1, h2, h3, h4, f1, f2, f3, f4, h7⟩ := h
  exact ⟨(World.cell?_of_block (w := W) he).trans h1, (World.cell?_of_block (w := W) he).trans h2, (World.cell?_of_block (w := W) he).trans h3, (World.cell?_of_block (w := W) he).trans h4, (World.frozen?_of_block (w := W) he).trans f1, (World.frozen?_of_block (w := W) he).trans f2, (World.frozen?_of_block (w := W) he).trans f3, (World.frozen?_of_block (w := W) he).trans f4, Nat.lt_of_lt_of_le h7 hs⟩
theorem K4f.new (W : World) (a b c d : Value) (t : TypeId) : K4f (W.alloc (.cells #[a, b, c, d] t)) W.heap.size a b c d := by simp [K4f, go_sem]
abbrev Loc.k4f (g : Nat) (a b c d : Value) : Loc := ⟨fun w => K4f w g a b c d, fun k => k = g, fun h hd hp => K4f.of_block hp (h.block g hp.2.2.2.2.2.2.2.2 (hd g rfl)) h.size⟩
theorem K4f.set {W : World} {g : Nat} {a b c d : Value} (h : K4f W g a b c d) (x y z u : Value) : K4f ((((W.setCell ⟨g, 0, none⟩ x).setCell ⟨g, 1, none⟩ y).setCell ⟨g, 2, none⟩ z).setCell ⟨g, 3, none⟩ u) g x y z u := by
  obtain ⟨h1, h2, h3, h4, f1, f2, f3, f4, h7⟩ := h
  refine ⟨by simp [go_sem, h1], by simp [go_sem, h2], by simp [go_sem, h3], by simp [go_sem, h4], by simp [go_sem, f1], by simp [go_sem, f2], by simp [go_sem, f3], by simp [go_sem, f4], by simpa using h7⟩
theorem Chg.set4 (w : World) (g : Nat) (x y z u : Value) : Chg (fun k => k = g) w ((((w.setCell ⟨g, 0, none⟩ x).setCell ⟨g, 1, none⟩ y).setCell ⟨g, 2, none⟩ z).setCell ⟨g, 3, none⟩ u) :=
  ⟨rfl, rfl, rfl, by simp [World.setCell], fun k hk hc => (Below.heap_setCell _ _ _ _ hc).trans ((Below.heap_setCell _ _ _ _ hc).trans ((Below.heap_setCell _ _ _ _ hc).trans (Below.heap_setCell _ _ _ _ hc)))⟩
/-- a struct of four cells and two slots as the three results -/
theorem ret_B4_tmp2 {fn : Func} {R : Ending → World → Prop} {a : Act} {w : World} {t u v : Tmp} {g : Nat} {x1 x2 x3 x4 y z : Value} (hres : fn.results = #[.cell t 29, .tmp u, .tmp v]) (hd : a.defers = [])
    (ht : a.tmps.getD t undef = .pointer (some ⟨g, 0, none⟩)) (hu : a.tmps.getD u undef = y) (hv : a.tmps.getD v undef = z) (hB : K4f w g x1 x2 x3 x4) (hR : R (.returned (.tuple #[.agg #[x1, x2, x3, x4], y, z])) w) : bodyPost Try.prog fn R .ret a w := by
  obtain ⟨h1, h2, h3, h4, _⟩ := hB
  rw [Array.getD_eq_getD_getElem?] at ht hu hv
  exact bodyPost_ret (by simp only [results, hres]; simp [go_sem, ht, hu, hv, h1, h2, h3, h4]) hd hR
/-- what a replay returns -/
def RetPl (w : World) (r : Cnt × List Int × Int) (e : Ending) (w' : World) : Prop :=
  ∃ A k, e = .returned (.tuple #[cntV r.1, .slice A r.2.1.length k, .int .i64 r.2.2]) ∧ RdI w' w.heap.size w'.heap.size (.slice A r.2.1.length k) r.2.1 ∧ Below w.heap.size w w'
theorem RetPl.err {w w' : World} {r : Cnt × List Int × Int} {e : Int} (h : r = (⟨0, 0, 0, 0⟩, [], e)) (hb : Below w.heap.size w w') : RetPl w r (.returned (.tuple #[.agg #[.int .i64 0, .int .i64 0, .int .i64 0, .int .i64 0], .slice none 0 0, .int .i64 e])) w' := by
  subst h
  exact ⟨none, 0, rfl, Rd.nil _ _ _, hb⟩
theorem wfB_valid {n : Net} (h : wfB n = true) : validB n = true := (wfB_wf h).valid

set_option maxHeartbeats 1000000 in
theorem initial_own (n : Net) (np : Nat) (vt : Value) (lo hi : Nat) (w : World) (hv : RdT w lo hi vt n.trans) (hval : validB n = true) (hnp : n.places = np) :
    Calls Try.prog 29 #[netV n vt] w fun e w' => ∃ gm, e = .returned (.tuple #[.slice (some ⟨gm, 0, none⟩) np np, .int .i64 0]) ∧ w.heap.size ≤ gm ∧ OwnI w' gm (gm + 1) (.slice (some ⟨gm, 0, none⟩) np np) (oneL np n.source) ∧ Below w.heap.size w w' := by
  have hone : ∀ W, Below w.heap.size w W → Calls Try.prog 70 #[netV n vt, .int .i64 n.source] W fun e w' => ∃ gm, e = .returned (.tuple #[.slice (some ⟨gm, 0, none⟩) np np, .int .i64 0]) ∧ W.heap.size ≤ gm ∧ OwnI w' gm (gm + 1) (.slice (some ⟨gm, 0, none⟩) np np) (oneL np n.source) ∧ Below W.heap.size W w' := by
    intro W hW
    obtain ⟨A, c, rfl, hc, hm⟩ := hv.form
    have HV := Lib.hid (hv.after hW)
    clear hv hW w
    have HVB := Lib.hid hval
    have hpl := validB_places hval
    have hpp := (validB_ends hval).1
    clear hval
    generalize hps : n.source = p at *
    obtain ⟨kp, rfl⟩ : ∃ k : Nat, p = k := ⟨p.toNat, by omega⟩
    have hlt : kp < np := by omega
    have hmk := mk_int hnp (by omega)
    have HNP := Lib.hid hnp
    have hn40 : np ≤ 40 := by omega
    have HPS := Lib.hid hps
    clear hnp hpl hpp hps
    obtain ⟨w, hw⟩ : ∃ w, w = W := ⟨_, rfl⟩
    subst hw
    refine calls_cps fun R hR => ?_
    have HR := Lib.hid hR
    clear hR
    go_enter Try.func70, Try.ntmps70
    have M : Hid (Mem [Loc.k4 w.heap.size (.int .i64 n.places) (.slice A n.trans.length c) (.int .i64 n.source) (.int .i64 n.sink), Loc.bl w.heap.size w] (w.alloc (.cells #[.int .i64 n.places, .slice A n.trans.length c, .int .i64 n.source, .int .i64 n.sink] 24))) := Lib.hid ⟨K4.new w _ _ _ _ _, ⟨(Below.refl _ _).alloc (Nat.le_refl _) _, by simp⟩, True.intro⟩
    have hk4 := M.out.1
    go_wp2_with (first
      | (go_at_call 54; refine (valid_is HVB.out _ lo hi _ (HV.out.after M.out.2.1.1)).mono ?_; rintro e w1 ⟨rfl, hb1⟩; replace M := Lib.hid (M.out.below hb1); clear hb1; replace hk4 := M.out.1; have HO := Lib.hid (OwnI.made w1 np (by omega)); have hat := OwnI.at1 HO.out (k := kp) (by simp; omega)))
    refine HR.out _ _ ⟨w1.heap.size, rfl, M.out.2.1.2, ?_, ?_⟩
    · have := (set_new w1 (madeCells #[.int .i64 0] np) 3 kp (.int .i64 1)) ▸ OwnI.set HO.out kp 1
      simpa [oneL] using this
    · exact (M.out.2.1.1).alloc M.out.2.1.2 _
  have HONE := Lib.hid hone
  obtain ⟨A, c, rfl, hc, hm⟩ := hv.form
  clear hv hone hnp
  refine calls_cps fun R hR => ?_
  have HR := Lib.hid hR
  clear hR
  go_enter Try.func29, Try.ntmps29
  have M : Hid (Mem [Loc.k4 w.heap.size (.int .i64 n.places) (.slice A n.trans.length c) (.int .i64 n.source) (.int .i64 n.sink), Loc.bl w.heap.size w] (w.alloc (.cells #[.int .i64 n.places, .slice A n.trans.length c, .int .i64 n.source, .int .i64 n.sink] 24))) := Lib.hid ⟨K4.new w _ _ _ _ _, ⟨(Below.refl _ _).alloc (Nat.le_refl _) _, by simp⟩, True.intro⟩
  have hk4 := M.out.1
  go_wp2_with (go_at_call 70; refine (HONE.out _ M.out.2.1.1).mono ?_; rintro e w1 ⟨gm, rfl, hg1, ho1, hb1⟩; have HO1 := Lib.hid ho1; have HG1 : Hid (w.heap.size ≤ gm) := Lib.hid (by simp only [World.size_alloc] at hg1; omega); replace M := Lib.hid (M.out.below hb1); clear hb1 ho1 hg1)
  exact HR.out _ _ ⟨gm, rfl, HG1.out, HO1.out, M.out.2.1.1⟩

theorem named_is {l : List ByteArray} {b : Bool} (hb : allN l = b) (lo hi : Nat) (v : Value) (w : World) (hv : RdS w lo hi v l) :
    Calls Try.prog 28 #[v] w fun e w' => e = .returned (.bool b) ∧ Below w.heap.size w w' := hb ▸ named_any l lo hi v w hv
theorem workflow_is {n : Net} {b : Bool} (hb : wfB n = b) (vt : Value) (lo hi : Nat) (w : World) (hv : RdT w lo hi vt n.trans) :
    Calls Try.prog 27 #[netV n vt] w fun e w' => e = .returned (.bool b) ∧ Below w.heap.size w w' := hb ▸ workflow_any n vt lo hi w hv
theorem oneL_at (k : Nat) (p : Int) (i : Nat) : gti (oneL k p) i = if p.toNat = i ∧ i < k then 1 else 0 := by
  unfold oneL
  rw [gti_set]
  simp only [List.length_replicate]
  split
  · rfl
  · unfold gti
    rw [List.getElem?_replicate]
    split <;> rfl
theorem sumI_zero : ∀ k : Nat, sumI (List.replicate k 0) = 0
  | 0 => rfl
  | k + 1 => by rw [List.replicate_succ, sumI, sumI_zero k]; rfl
theorem pl0_pm {n : Net} (hv : validB n = true) : PM n (pl0 n) ∧ Sm (pl0 n) 1 ∧ (pl0 n).big = false := by
  have h1 := validB_places hv
  have h2 := (validB_ends hv).1
  have hs : sumI (oneL n.places.toNat n.source) = 1 := by
    unfold oneL
    rw [sumI_set _ _ _ (by simp; omega), sumI_zero]
    unfold gti
    rw [List.getElem?_replicate]
    split <;> rfl
  have hat : ∀ i, 0 ≤ gti (oneL n.places.toNat n.source) i ∧ gti (oneL n.places.toNat n.source) i ≤ 100 := fun i => by
    rw [oneL_at]
    split <;> omega
  refine ⟨⟨?_, fun i => (hat i).1, fun _ => ?_, ?_, ?_, ?_, ?_, ?_⟩, ⟨?_, ?_, ?_, ?_⟩, rfl⟩
  · simp [pl0, oneL]; omega
  · unfold markB mark2B
    rw [hv, if_neg (by simp [pl0, oneL]; omega), all01_intro (m := (pl0 n).m) hat]
    rfl
  · simp [pl0]
  · simp [pl0]
  · simp [pl0]
  · simp only [pl0, hs]; decide
  · intro t ht; simp [pl0] at ht
  · simp [pl0]
  · simp [pl0]
  · simp [pl0]
  · simp [pl0]

set_option maxRecDepth 100000 in
set_option maxHeartbeats 4000000 in
theorem Play_any (n : Net) (l : List ByteArray) (vt v : Value) (lo hi lo' hi' : Nat) (w : World) (hv : RdT w lo hi vt n.trans) (hw : RdS w lo' hi' v l) (hhi : hi ≤ w.heap.size) (hhi2 : hi' ≤ w.heap.size) :
    Calls Try.prog 10 #[netV n vt, v] w (RetPl w (PlayE n l)) := by
  obtain ⟨A, c, rfl, hc, hmm⟩ := hv.form
  obtain ⟨A2, c2, rfl, hc2, hmm2⟩ := hw.form
  have HV := Lib.hid hv
  have HW := Lib.hid hw
  clear hv hw
  obtain ⟨zw, hzw⟩ : ∃ z, wfB n = z := ⟨_, rfl⟩
  obtain ⟨zn, hzn⟩ : ∃ z, allN l = z := ⟨_, rfl⟩
  have HP : Hid (PlayE n l = if (zw && zn) = false then (⟨0, 0, 0, 0⟩, [], 1) else if 200 < l.length then (⟨0, 0, 0, 0⟩, [], 5) else endE n (playL n l (pl0 n))) := Lib.hid (by unfold PlayE; rw [hzw, hzn])
  have HZW := Lib.hid hzw
  have HZN := Lib.hid hzn
  clear hzw hzn
  refine calls_cps fun R hR => ?_
  have HR := Lib.hid hR
  clear hR
  go_enter Try.func10, Try.ntmps10
  have M : Hid (Mem [Loc.k4 w.heap.size (.int .i64 n.places) (.slice A n.trans.length c) (.int .i64 n.source) (.int .i64 n.sink), Loc.bl w.heap.size w] (w.alloc (.cells #[.int .i64 n.places, .slice A n.trans.length c, .int .i64 n.source, .int .i64 n.sink] 24))) := Lib.hid ⟨K4.new w _ _ _ _ _, ⟨(Below.refl _ _).alloc (Nat.le_refl _) _, by simp⟩, True.intro⟩
  have hk4 := M.out.1
  have M1 : Hid (Mem [Loc.k4f (w.heap.size + 1) (.int .i64 0) (.int .i64 0) (.int .i64 0) (.int .i64 0), Loc.k4 w.heap.size (.int .i64 n.places) (.slice A n.trans.length c) (.int .i64 n.source) (.int .i64 n.sink), Loc.bl w.heap.size w] ((w.alloc (.cells #[.int .i64 n.places, .slice A n.trans.length c, .int .i64 n.source, .int .i64 n.sink] 24)).alloc (.cells #[.int .i64 0, .int .i64 0, .int .i64 0, .int .i64 0] 29))) := Lib.hid ⟨by have := K4f.new (w.alloc (.cells #[.int .i64 n.places, .slice A n.trans.length c, .int .i64 n.source, .int .i64 n.sink] 24)) (.int .i64 0) (.int .i64 0) (.int .i64 0) (.int .i64 0) 29; rw [World.size_alloc] at this; exact this, M.out.alloc _⟩
  clear M
  have M := M1
  clear M1
  have hkr := M.out.1
  replace hk4 := M.out.2.1
  cases zw with
  | false =>
    go_wp2_with (go_at_call 27; refine (workflow_is HZW.out _ lo hi _ (HV.out.after M.out.2.2.1.1)).mono ?_; rintro e w1 ⟨rfl, hb1⟩; replace M := Lib.hid (M.out.below hb1); clear hb1; replace hkr := M.out.1; replace hk4 := M.out.2.1)
    refine ret_B4_tmp2 rfl rfl rfl rfl rfl (K4f.set M.out.1 _ _ _ _) (HR.out _ _ (RetPl.err (by rw [HP.out]; rfl) (Mem.step (a' := Loc.k4f (w.heap.size + 1) (.int .i64 0) (.int .i64 0) (.int .i64 0) (.int .i64 0)) M.out (K4f.set M.out.1 _ _ _ _) (Chg.set4 _ (w.heap.size + 1) _ _ _ _) (by (repeat' (first | exact True.intro | refine And.intro (fun k hk e => ?_) ?_)) <;> (first | exact e | ((try dsimp only [Loc.c1, Loc.c2, Loc.k1, Loc.k2, Loc.k3, Loc.k4, Loc.k6, Loc.fr, Loc.bl, Loc.own, Loc.sz, Loc.rd, Loc.rdI, Loc.rdS, Loc.rdM, Loc.rdT, Loc.ow, Loc.owI, Loc.owN, Loc.set, Loc.ns, Loc.cg, Loc.pb, silD, plD] at hk e) <;> omega)))).2.2.1.1))
  | true =>
    cases zn with
    | false =>
      go_wp2_with (first
        | (go_at_call 27; refine (workflow_is HZW.out _ lo hi _ (HV.out.after M.out.2.2.1.1)).mono ?_; rintro e w1 ⟨rfl, hb1⟩; replace M := Lib.hid (M.out.below hb1); clear hb1; replace hkr := M.out.1; replace hk4 := M.out.2.1)
        | (go_at_call 28; refine (named_is HZN.out lo' hi' _ _ (HW.out.after M.out.2.2.1.1)).mono ?_; rintro e w1 ⟨rfl, hb1⟩; replace M := Lib.hid (M.out.below hb1); clear hb1; replace hkr := M.out.1; replace hk4 := M.out.2.1))
      refine ret_B4_tmp2 rfl rfl rfl rfl rfl (K4f.set M.out.1 _ _ _ _) (HR.out _ _ (RetPl.err (by rw [HP.out]; rfl) (Mem.step (a' := Loc.k4f (w.heap.size + 1) (.int .i64 0) (.int .i64 0) (.int .i64 0) (.int .i64 0)) M.out (K4f.set M.out.1 _ _ _ _) (Chg.set4 _ (w.heap.size + 1) _ _ _ _) (by (repeat' (first | exact True.intro | refine And.intro (fun k hk e => ?_) ?_)) <;> (first | exact e | ((try dsimp only [Loc.c1, Loc.c2, Loc.k1, Loc.k2, Loc.k3, Loc.k4, Loc.k6, Loc.fr, Loc.bl, Loc.own, Loc.sz, Loc.rd, Loc.rdI, Loc.rdS, Loc.rdM, Loc.rdT, Loc.ow, Loc.owI, Loc.owN, Loc.set, Loc.ns, Loc.cg, Loc.pb, silD, plD] at hk e) <;> omega)))).2.2.1.1))
    | true =>
      rw [if_neg (by simp)] at HP
      by_cases h200 : 200 < l.length
      · rw [if_pos h200] at HP
        have hd : decide ((200 : Int) < l.length) = true := by simp; omega
        go_wp2_with (first
          | (go_at_call 27; refine (workflow_is HZW.out _ lo hi _ (HV.out.after M.out.2.2.1.1)).mono ?_; rintro e w1 ⟨rfl, hb1⟩; replace M := Lib.hid (M.out.below hb1); clear hb1; replace hkr := M.out.1; replace hk4 := M.out.2.1)
          | (go_at_call 28; refine (named_is HZN.out lo' hi' _ _ (HW.out.after M.out.2.2.1.1)).mono ?_; rintro e w1 ⟨rfl, hb1⟩; replace M := Lib.hid (M.out.below hb1); clear hb1; replace hkr := M.out.1; replace hk4 := M.out.2.1))
        refine ret_B4_tmp2 rfl rfl rfl rfl rfl (K4f.set M.out.1 _ _ _ _) (HR.out _ _ (RetPl.err (by rw [HP.out]) (Mem.step (a' := Loc.k4f (w.heap.size + 1) (.int .i64 0) (.int .i64 0) (.int .i64 0) (.int .i64 0)) M.out (K4f.set M.out.1 _ _ _ _) (Chg.set4 _ (w.heap.size + 1) _ _ _ _) (by (repeat' (first | exact True.intro | refine And.intro (fun k hk e => ?_) ?_)) <;> (first | exact e | ((try dsimp only [Loc.c1, Loc.c2, Loc.k1, Loc.k2, Loc.k3, Loc.k4, Loc.k6, Loc.fr, Loc.bl, Loc.own, Loc.sz, Loc.rd, Loc.rdI, Loc.rdS, Loc.rdM, Loc.rdT, Loc.ow, Loc.owI, Loc.owN, Loc.set, Loc.ns, Loc.cg, Loc.pb, silD, plD] at hk e) <;> omega)))).2.2.1.1))
      · rw [if_neg h200] at HP
        have hd : decide ((200 : Int) < l.length) = false := by simp; omega
        have hval := wfB_valid HZW.out
        have hpl := validB_places hval
        obtain ⟨np, hnp⟩ : ∃ k : Nat, n.places = k := ⟨n.places.toNat, by omega⟩
        have HVAL := Lib.hid hval
        have HNP := Lib.hid hnp
        have hnp1 : 1 ≤ np ∧ np ≤ 40 := by omega
        have HP0 := Lib.hid (pl0_pm hval)
        clear hval hpl hnp
        go_wp2_with (first
          | (go_at_call 27; refine (workflow_is HZW.out _ lo hi _ (HV.out.after M.out.2.2.1.1)).mono ?_; rintro e w1 ⟨rfl, hb1⟩; replace M := Lib.hid (M.out.below hb1); clear hb1; replace hkr := M.out.1; replace hk4 := M.out.2.1)
          | (go_at_call 28; refine (named_is HZN.out lo' hi' _ _ (HW.out.after M.out.2.2.1.1)).mono ?_; rintro e w1 ⟨rfl, hb1⟩; replace M := Lib.hid (M.out.below hb1); clear hb1; replace hkr := M.out.1; replace hk4 := M.out.2.1)
          | (go_at_call 29; have hz4 := M.out.2.2.1.1.size; have hz5 := M.out.2.1.2.2.2.2; have hz6 := M.out.1.2.2.2.2.2.2.2.2; refine (initial_own n np _ lo hi _ (HV.out.after M.out.2.2.1.1) HVAL.out HNP.out).mono ?_; rintro e w5 ⟨gm, rfl, hg5, ho5, hb5⟩; have HO5 := Lib.hid ho5; have hs5 := hb5.size; replace M := Lib.hid (M.out.below hb5); replace hkr := M.out.1; replace hk4 := M.out.2.1; clear ho5 hb5))
        obtain ⟨g, hgd⟩ : ∃ g, g = w5.heap.size := ⟨_, rfl⟩
        have hg1 : w.heap.size + 1 < gm := by omega
        have hgm5 : gm < w5.heap.size := by
          obtain ⟨g', cap, hv', _, h5, h6⟩ := Own.blk HO5.out (by simp [oneL]; omega)
          injection hv' with hv' _ _
          injection hv' with hv'
          injection hv' with hv' _ _
          omega
        have hg2 : gm < g := by omega
        have MP : Hid (Mem [Loc.pb (plA n (.slice A n.trans.length c) (.slice (some ⟨gm, 0, none⟩) np np) ((pl0 n)).c (.slice none 0 0) ((pl0 n)).big) g, Loc.owI gm (gm + 1) (.slice (some ⟨gm, 0, none⟩) np np) ((pl0 n)).m, Loc.owI w.heap.size w.heap.size (.slice none 0 0) ((pl0 n)).run, Loc.k4f (w.heap.size + 1) (.int .i64 0) (.int .i64 0) (.int .i64 0) (.int .i64 0), Loc.k4 w.heap.size (.int .i64 n.places) (.slice A n.trans.length c) (.int .i64 n.source) (.int .i64 n.sink), Loc.rdT lo hi (.slice A n.trans.length c) n.trans, Loc.bl w.heap.size w] (w5.alloc (.cells (plA n (.slice A n.trans.length c) (.slice (some ⟨gm, 0, none⟩) np np) (pl0 n).c (.slice none 0 0) (pl0 n).big) 70))) := Lib.hid (by
          have hal := M.out.alloc (.cells (plA n (.slice A n.trans.length c) (.slice (some ⟨gm, 0, none⟩) np np) (pl0 n).c (.slice none 0 0) (pl0 n).big) 70)
          refine ⟨by rw [hgd]; exact heap_new rfl, ?_, Own.nil _ _ _, hal.1, hal.2.1, HV.out.after hal.2.2.1.1, hal.2.2⟩
          have e : (pl0 n).m = oneL np n.source := by unfold pl0; rw [HNP.out]; rfl
          rw [e]
          exact HO5.out.alloc _)
        have HL0 : Hid ((pl0 n).m.length = np) := Lib.hid (by simp [pl0, oneL, HNP.out])
        have hgs : g < w5.heap.size + 1 := by omega
        have HGD := Lib.hid hgd
        clear hgd hz4 hz5 hz6 hg5 hs5
        go_wp2_with fail
        rw [← HGD.out]
        go_loopw [39, 11] (fun v39 _ wr => ∃ (j : Nat) (sj : Pl) (vr : Value) (a0 a1 : Nat), j ≤ l.length ∧ v39 = .int .i64 j ∧ Hid (playL n (l.drop j) sj = playL n l (pl0 n)) ∧ Hid (PM n sj) ∧ Hid (sj.big = false) ∧ Hid (Sm sj (1 + 200 * j)) ∧ Hid (sj.m.length = np) ∧ w.heap.size ≤ a0 ∧ a0 ≤ wr.heap.size ∧ a1 ≤ wr.heap.size ∧ (a1 ≤ w.heap.size ∨ g < a0) ∧ Hid (Mem [Loc.pb (plA n (.slice A n.trans.length c) (.slice (some ⟨gm, 0, none⟩) np np) (sj).c vr (sj).big) g, Loc.owI gm (gm + 1) (.slice (some ⟨gm, 0, none⟩) np np) (sj).m, Loc.owI a0 a1 vr (sj).run, Loc.k4f (w.heap.size + 1) (.int .i64 0) (.int .i64 0) (.int .i64 0) (.int .i64 0), Loc.k4 w.heap.size (.int .i64 n.places) (.slice A n.trans.length c) (.int .i64 n.source) (.int .i64 n.sink), Loc.rdT lo hi (.slice A n.trans.length c) n.trans, Loc.bl w.heap.size w] wr)) (fun v39 _ _ => l.length - (intOf v39).toNat)
        case atStart => exact ⟨0, pl0 n, .slice none 0 0, w.heap.size, w.heap.size, Nat.zero_le _, rfl, Lib.hid rfl, Lib.hid HP0.out.1, Lib.hid HP0.out.2.2, Lib.hid HP0.out.2.1, HL0, Nat.le_refl _, by simp only [World.size_alloc]; omega, by simp only [World.size_alloc]; omega, .inl (Nat.le_refl _), MP⟩
        case round =>
          clear M MP HP0 HL0 HO5 hk4 hkr hgm5 hgs HGD
          obtain ⟨j, sj, vr, a0, a1, hj, rfl, HT, HPM, HBG, HSM, HLN, ha2, ha0, ha1, haw, M⟩ := hrel
          have hk11 := PB.k11 M.out.1
          have hkr := M.out.2.2.2.1
          have hk4 := M.out.2.2.2.2.1
          have hgwr := PB.lt M.out.1
          by_cases hlt : j < l.length
          · obtain ⟨bi, oi, rfl, _, _, hci2⟩ := RdS.at1 (HW.out.after M.out.2.2.2.2.2.2.1.1) hlt
            have HD : Hid (playL n (l.drop j) sj = if (playE n (gti l j) sj).big then none else playL n (l.drop (j + 1)) (playE n (gti l j) sj)) := Lib.hid (by rw [drop_gti hlt]; rfl)
            generalize gti l j = x at *
            have HPY := Lib.hid (play_any n x sj (1 + 200 * j) g gm np np a0 a1 lo hi _ vr wr M.out.2.2.2.2.2.1 HVAL.out HPM.out HBG.out HSM.out (by omega) HLN.out ⟨M.out.1, M.out.2.1, M.out.2.2.1, True.intro⟩ (by omega) (by omega) (by omega) (by omega) (by omega) (by omega) ha1 ha0)
            have HPN := Lib.hid (play_pm (act := x) HVAL.out HPM.out HBG.out HSM.out)
            obtain ⟨sn, hsn⟩ : ∃ y, playE n x sj = y := ⟨_, rfl⟩
            rw [hsn] at HD HPY HPN
            clear hsn
            obtain ⟨zb, hzb⟩ : ∃ z, sn.big = z := ⟨_, rfl⟩
            have HZB := Lib.hid hzb
            rw [hzb] at HD HPY
            clear hzb
            cases zb with
            | true =>
              have HPL : Hid (playL n l (pl0 n) = none) := Lib.hid (by rw [← HT.out, HD.out]; rfl)
              go_wp2_with (go_at_call 30; refine HPY.out.mono ?_; rintro e w6 ⟨vr2, b0, b1, rfl, hM2, hbb, hb0, hb1, hch⟩; replace M : Hid (Mem [Loc.pb _ g, Loc.owI gm (gm + 1) _ sn.m, Loc.owI b0 b1 vr2 sn.run, Loc.k4f (w.heap.size + 1) (.int .i64 0) (.int .i64 0) (.int .i64 0) (.int .i64 0), Loc.k4 w.heap.size (.int .i64 n.places) (.slice A n.trans.length c) (.int .i64 n.source) (.int .i64 n.sink), Loc.rdT lo hi (.slice A n.trans.length c) n.trans, Loc.bl w.heap.size w] w6) := Lib.hid ⟨hM2.1, hM2.2.1, hM2.2.2.1, Mem.chg hch M.out.2.2.2 (by (repeat' (first | exact True.intro | refine And.intro (fun k hk e => ?_) ?_)) <;> (first | exact e | ((try dsimp only [Loc.c1, Loc.c2, Loc.k1, Loc.k2, Loc.k3, Loc.k4, Loc.k6, Loc.fr, Loc.bl, Loc.own, Loc.sz, Loc.rd, Loc.rdI, Loc.rdS, Loc.rdM, Loc.rdT, Loc.ow, Loc.owI, Loc.owN, Loc.set, Loc.ns, Loc.cg, Loc.pb, silD, plD] at hk e) <;> omega)))⟩; have hs6 := hch.size; clear hM2 hch; replace hk11 := PB.k11 M.out.1; replace hkr := M.out.2.2.2.1; replace hk4 := M.out.2.2.2.2.1)
              refine ret_B4_tmp2 rfl rfl rfl rfl rfl (K4f.set M.out.2.2.2.1 _ _ _ _) (HR.out _ _ (RetPl.err (by rw [HP.out, HPL.out]; rfl) (Mem.step (a' := Loc.k4f (w.heap.size + 1) (.int .i64 0) (.int .i64 0) (.int .i64 0) (.int .i64 0)) M.out.2.2.2 (K4f.set M.out.2.2.2.1 _ _ _ _) (Chg.set4 _ (w.heap.size + 1) _ _ _ _) (by (repeat' (first | exact True.intro | refine And.intro (fun k hk e => ?_) ?_)) <;> (first | exact e | ((try dsimp only [Loc.c1, Loc.c2, Loc.k1, Loc.k2, Loc.k3, Loc.k4, Loc.k6, Loc.fr, Loc.bl, Loc.own, Loc.sz, Loc.rd, Loc.rdI, Loc.rdS, Loc.rdM, Loc.rdT, Loc.ow, Loc.owI, Loc.owN, Loc.set, Loc.ns, Loc.cg, Loc.pb, silD, plD] at hk e) <;> omega)))).2.2.2.1.1))
            | false =>
              have HNX : Hid (playL n (l.drop (j + 1)) sn = playL n l (pl0 n)) := Lib.hid (by rw [← HT.out, HD.out]; rfl)
              go_wp2_with (go_at_call 30; refine HPY.out.mono ?_; rintro e w6 ⟨vr2, b0, b1, rfl, hM2, hbb, hb0, hb1, hch⟩; replace M : Hid (Mem [Loc.pb _ g, Loc.owI gm (gm + 1) _ sn.m, Loc.owI b0 b1 vr2 sn.run, Loc.k4f (w.heap.size + 1) (.int .i64 0) (.int .i64 0) (.int .i64 0) (.int .i64 0), Loc.k4 w.heap.size (.int .i64 n.places) (.slice A n.trans.length c) (.int .i64 n.source) (.int .i64 n.sink), Loc.rdT lo hi (.slice A n.trans.length c) n.trans, Loc.bl w.heap.size w] w6) := Lib.hid ⟨hM2.1, hM2.2.1, hM2.2.2.1, Mem.chg hch M.out.2.2.2 (by (repeat' (first | exact True.intro | refine And.intro (fun k hk e => ?_) ?_)) <;> (first | exact e | ((try dsimp only [Loc.c1, Loc.c2, Loc.k1, Loc.k2, Loc.k3, Loc.k4, Loc.k6, Loc.fr, Loc.bl, Loc.own, Loc.sz, Loc.rd, Loc.rdI, Loc.rdS, Loc.rdM, Loc.rdT, Loc.ow, Loc.owI, Loc.owN, Loc.set, Loc.ns, Loc.cg, Loc.pb, silD, plD] at hk e) <;> omega)))⟩; have hs6 := hch.size; clear hM2 hch; replace hk11 := PB.k11 M.out.1; replace hkr := M.out.2.2.2.1; replace hk4 := M.out.2.2.2.2.1)
              exact ⟨⟨j + 1, sn, vr2, b0, b1, by omega, by go_num, HNX, Lib.hid HPN.out.1, HZB, Lib.hid (HPN.out.2.mono (by omega)), Lib.hid (by have h1 := HPN.out.1.len; have h2 := HNP.out; omega), by omega, hb0, hb1, by omega, Lib.hid (by rw [HZB.out]; exact M.out)⟩, by simp [intOf]; omega⟩
          · obtain rfl : j = l.length := by omega
            have HPL : Hid (playL n l (pl0 n) = some sj) := Lib.hid (by rw [← HT.out, List.drop_length]; rfl)
            have HFN := Lib.hid (finish_any n sj (1 + 200 * l.length) g gm np np a0 a1 lo hi _ vr wr M.out.2.2.2.2.2.1 HVAL.out HPM.out HBG.out HSM.out (by omega) HLN.out ⟨M.out.1, M.out.2.1, M.out.2.2.1, True.intro⟩ (by omega) (by omega) (by omega) (by omega) (by omega) (by omega) ha1 ha0)
            have HP2 : Hid (PlayE n l = if (finE n sj).big then (⟨0, 0, 0, 0⟩, [], 6) else ((finE n sj).c, (finE n sj).run, 0)) := Lib.hid (by rw [HP.out, HPL.out]; rfl)
            obtain ⟨sF, hsF⟩ : ∃ y, finE n sj = y := ⟨_, rfl⟩
            rw [hsF] at HFN HP2
            clear hsF
            obtain ⟨zf, hzf⟩ : ∃ z, sF.big = z := ⟨_, rfl⟩
            rw [hzf] at HFN HP2
            clear hzf
            cases zf with
            | true =>
              go_wp2_with (go_at_call 31; refine HFN.out.mono ?_; rintro e w6 ⟨vr2, b0, b1, rfl, hM2, hbb, hb0, hb1, hch⟩; replace M : Hid (Mem [Loc.pb _ g, Loc.owI gm (gm + 1) _ sF.m, Loc.owI b0 b1 vr2 sF.run, Loc.k4f (w.heap.size + 1) (.int .i64 0) (.int .i64 0) (.int .i64 0) (.int .i64 0), Loc.k4 w.heap.size (.int .i64 n.places) (.slice A n.trans.length c) (.int .i64 n.source) (.int .i64 n.sink), Loc.rdT lo hi (.slice A n.trans.length c) n.trans, Loc.bl w.heap.size w] w6) := Lib.hid ⟨hM2.1, hM2.2.1, hM2.2.2.1, Mem.chg hch M.out.2.2.2 (by (repeat' (first | exact True.intro | refine And.intro (fun k hk e => ?_) ?_)) <;> (first | exact e | ((try dsimp only [Loc.c1, Loc.c2, Loc.k1, Loc.k2, Loc.k3, Loc.k4, Loc.k6, Loc.fr, Loc.bl, Loc.own, Loc.sz, Loc.rd, Loc.rdI, Loc.rdS, Loc.rdM, Loc.rdT, Loc.ow, Loc.owI, Loc.owN, Loc.set, Loc.ns, Loc.cg, Loc.pb, silD, plD] at hk e) <;> omega)))⟩; have hs6 := hch.size; clear hM2 hch; replace hk11 := PB.k11 M.out.1; replace hkr := M.out.2.2.2.1; replace hk4 := M.out.2.2.2.2.1)
              refine ret_B4_tmp2 rfl rfl rfl rfl rfl (K4f.set M.out.2.2.2.1 _ _ _ _) (HR.out _ _ (RetPl.err (by rw [HP2.out]; rfl) (Mem.step (a' := Loc.k4f (w.heap.size + 1) (.int .i64 0) (.int .i64 0) (.int .i64 0) (.int .i64 0)) M.out.2.2.2 (K4f.set M.out.2.2.2.1 _ _ _ _) (Chg.set4 _ (w.heap.size + 1) _ _ _ _) (by (repeat' (first | exact True.intro | refine And.intro (fun k hk e => ?_) ?_)) <;> (first | exact e | ((try dsimp only [Loc.c1, Loc.c2, Loc.k1, Loc.k2, Loc.k3, Loc.k4, Loc.k6, Loc.fr, Loc.bl, Loc.own, Loc.sz, Loc.rd, Loc.rdI, Loc.rdS, Loc.rdM, Loc.rdT, Loc.ow, Loc.owI, Loc.owN, Loc.set, Loc.ns, Loc.cg, Loc.pb, silD, plD] at hk e) <;> omega)))).2.2.2.1.1))
            | false =>
              go_wp2_with (go_at_call 31; refine HFN.out.mono ?_; rintro e w6 ⟨vr2, b0, b1, rfl, hM2, hbb, hb0, hb1, hch⟩; replace M : Hid (Mem [Loc.pb _ g, Loc.owI gm (gm + 1) _ sF.m, Loc.owI b0 b1 vr2 sF.run, Loc.k4f (w.heap.size + 1) (.int .i64 0) (.int .i64 0) (.int .i64 0) (.int .i64 0), Loc.k4 w.heap.size (.int .i64 n.places) (.slice A n.trans.length c) (.int .i64 n.source) (.int .i64 n.sink), Loc.rdT lo hi (.slice A n.trans.length c) n.trans, Loc.bl w.heap.size w] w6) := Lib.hid ⟨hM2.1, hM2.2.1, hM2.2.2.1, Mem.chg hch M.out.2.2.2 (by (repeat' (first | exact True.intro | refine And.intro (fun k hk e => ?_) ?_)) <;> (first | exact e | ((try dsimp only [Loc.c1, Loc.c2, Loc.k1, Loc.k2, Loc.k3, Loc.k4, Loc.k6, Loc.fr, Loc.bl, Loc.own, Loc.sz, Loc.rd, Loc.rdI, Loc.rdS, Loc.rdM, Loc.rdT, Loc.ow, Loc.owI, Loc.owN, Loc.set, Loc.ns, Loc.cg, Loc.pb, silD, plD] at hk e) <;> omega)))⟩; have hs6 := hch.size; clear hM2 hch; replace hk11 := PB.k11 M.out.1; replace hkr := M.out.2.2.2.1; replace hk4 := M.out.2.2.2.2.1)
              obtain ⟨Ar, kr, rfl, hkr1, hkr2⟩ := M.out.2.2.1.form
              have hkc : C1 w6 g 5 (.int .i64 sF.c.p) ∧ C1 w6 g 6 (.int .i64 sF.c.c) ∧ C1 w6 g 7 (.int .i64 sF.c.m) ∧ C1 w6 g 8 (.int .i64 sF.c.r) ∧ C1 w6 g 9 (.slice Ar sF.run.length kr) := ⟨hk11.2.2.2.2.2.1, hk11.2.2.2.2.2.2.1, hk11.2.2.2.2.2.2.2.1, hk11.2.2.2.2.2.2.2.2.1, hk11.2.2.2.2.2.2.2.2.2.1⟩
              have HKK : Hid (∀ x y z u : Value, C1 ((((w6.setCell ⟨w.heap.size + 1, 0, none⟩ x).setCell ⟨w.heap.size + 1, 1, none⟩ y).setCell ⟨w.heap.size + 1, 2, none⟩ z).setCell ⟨w.heap.size + 1, 3, none⟩ u) g 5 (.int .i64 sF.c.p) ∧ C1 ((((w6.setCell ⟨w.heap.size + 1, 0, none⟩ x).setCell ⟨w.heap.size + 1, 1, none⟩ y).setCell ⟨w.heap.size + 1, 2, none⟩ z).setCell ⟨w.heap.size + 1, 3, none⟩ u) g 6 (.int .i64 sF.c.c) ∧ C1 ((((w6.setCell ⟨w.heap.size + 1, 0, none⟩ x).setCell ⟨w.heap.size + 1, 1, none⟩ y).setCell ⟨w.heap.size + 1, 2, none⟩ z).setCell ⟨w.heap.size + 1, 3, none⟩ u) g 7 (.int .i64 sF.c.m) ∧ C1 ((((w6.setCell ⟨w.heap.size + 1, 0, none⟩ x).setCell ⟨w.heap.size + 1, 1, none⟩ y).setCell ⟨w.heap.size + 1, 2, none⟩ z).setCell ⟨w.heap.size + 1, 3, none⟩ u) g 8 (.int .i64 sF.c.r) ∧ C1 ((((w6.setCell ⟨w.heap.size + 1, 0, none⟩ x).setCell ⟨w.heap.size + 1, 1, none⟩ y).setCell ⟨w.heap.size + 1, 2, none⟩ z).setCell ⟨w.heap.size + 1, 3, none⟩ u) g 9 (.slice Ar sF.run.length kr)) := Lib.hid (fun x y z u => by
                have h := PB.k11 ((Loc.pb _ g).keep (Chg.set4 w6 (w.heap.size + 1) x y z u) (by intro k hk hd; have h1 : k = g := hk; have h2 : k = w.heap.size + 1 := hd; omega) M.out.1)
                exact ⟨h.2.2.2.2.2.1, h.2.2.2.2.2.2.1, h.2.2.2.2.2.2.2.1, h.2.2.2.2.2.2.2.2.1, h.2.2.2.2.2.2.2.2.2.1⟩)
              clear hk4 hk11
              go_region_held3 (fun W => C1 W g 5 (.int .i64 sF.c.p) ∧ C1 W g 6 (.int .i64 sF.c.c) ∧ C1 W g 7 (.int .i64 sF.c.m) ∧ C1 W g 8 (.int .i64 sF.c.r) ∧ C1 W g 9 (.slice Ar sF.run.length kr)) (first | exact hkc | exact HKK.out _ _ _ _) (fail)
              go_wp2_with fail
              have MS := Mem.chg (Chg.set4 w6 (w.heap.size + 1) (.int .i64 sF.c.p) (.int .i64 sF.c.c) (.int .i64 sF.c.m) (.int .i64 sF.c.r)) (show Mem [Loc.owI b0 b1 (.slice Ar sF.run.length kr) sF.run, Loc.bl w.heap.size w] w6 from ⟨M.out.2.2.1, M.out.2.2.2.2.2.2.1, True.intro⟩) (by (repeat' (first | exact True.intro | refine And.intro (fun k hk e => ?_) ?_)) <;> (first | exact e | ((try dsimp only [Loc.c1, Loc.c2, Loc.k1, Loc.k2, Loc.k3, Loc.k4, Loc.k6, Loc.fr, Loc.bl, Loc.own, Loc.sz, Loc.rd, Loc.rdI, Loc.rdS, Loc.rdM, Loc.rdT, Loc.ow, Loc.owI, Loc.owN, Loc.set, Loc.ns, Loc.cg, Loc.pb, silD, plD] at hk e) <;> omega)))
              refine ret_B4_tmp2 rfl rfl rfl rfl rfl (K4f.set M.out.2.2.2.1 _ _ _ _) (HR.out _ _ ⟨Ar, kr, by rw [HP2.out]; rfl, ?_, by first | exact MS.2.1.1 | exact MS.drew.2.1.1⟩)
              rw [HP2.out]
              first | exact (Own.rd MS.1).mono (by omega) (by simp only [size_setCell, heap_drew]; exact hb1) | exact (Own.rd MS.drew.1).mono (by omega) (by simp only [size_setCell, heap_drew]; exact hb1)
end Go.Proofs.Ytmhbfoaecebobaa
