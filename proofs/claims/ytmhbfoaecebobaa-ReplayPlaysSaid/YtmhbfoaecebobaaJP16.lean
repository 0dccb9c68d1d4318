/-
  Texts joined: Play5, Fr, Frac1, Ref01a. Conditions: none.
-/
import Derived.Test.YtmhbfoaecebobaaJP15
import Derived.Test.YtmhbfoaecebobaaJP1
section
namespace Go.Proofs.Ytmhbfoaecebobaa
set_option linter.unusedSimpArgs false
set_option linter.unusedVariables false
open Go.RowKit

abbrev cntV (c : Cnt) : Value := .agg #[.int .i64 c.p, .int .i64 c.c, .int .i64 c.m, .int .i64 c.r]
/-- a block of four cells of the call's own -/
abbrev K4f (w : World) (g : Nat) (a b c d : Value) : Prop := w.cell? ⟨g, 0, none⟩ = some a ∧ w.cell? ⟨g, 1, none⟩ = some b ∧ w.cell? ⟨g, 2, none⟩ = some c ∧ w.cell? ⟨g, 3, none⟩ = some d ∧ w.frozen? ⟨g, 0, none⟩ = false ∧ w.frozen? ⟨g, 1, none⟩ = false ∧ w.frozen? ⟨g, 2, none⟩ = false ∧ w.frozen? ⟨g, 3, none⟩ = false ∧ g < w.heap.size
theorem K4f.of_block {W W' : World} {g : Nat} {a b c d : Value} (h : K4f W g a b c d) (he : W'.heap[g]? = W.heap[g]?) (hs : W.heap.size ≤ W'.heap.size) : K4f W' g a b c d := by
  obtain ⟨h1, h2, h3, h4, f1, f2, f3, f4, h7⟩ := h
  exact ⟨(World.cell?_of_block (w := W) he).trans h1, (World.cell?_of_block (w := W) he).trans h2, (World.cell?_of_block (w := W) he).trans h3, (World.cell?_of_block (w := W) he).trans h4, (World.frozen?_of_block (w := W) he).trans f1, (World.frozen?_of_block (w := W) he).trans f2, (World.frozen?_of_block (w := W) he).trans f3, (World.frozen?_of_block (w := W) he).trans f4, Nat.lt_of_lt_of_le h7 hs⟩
theorem K4f.new (W : World) (a b c d : Value) (t : TypeId) : K4f (W.alloc (.cells #[a, b, c, d] t)) W.heap.size a b c d := by simp [K4f, go_sem]
abbrev Loc.k4f (g : Nat) (a b c d : Value) : Loc := ⟨fun w => K4f w g a b c d, fun k => k = g, fun h hd hp => K4f.of_block hp (h.block g hp.2.2.2.2.2.2.2.2 (hd g rfl)) h.size⟩
theorem K4f.set {W : World} {g : Nat} {a b c d : Value} (h : K4f W g a b c d) (x y z u : Value) : K4f ((((W.setCell ⟨g, 0, none⟩ x).setCell ⟨g, 1, none⟩ y).setCell ⟨g, 2, none⟩ z).setCell ⟨g, 3, none⟩ u) g x y z u := by
  obtain ⟨h1, h2, h3, h4, f1, f2, f3, f4, h7⟩ := h
  refine ⟨by simp [go_sem, h1], by simp [go_sem, h2], by simp [go_sem, h3], by simp [go_sem, h4], by simp [go_sem, f1], by simp [go_sem, f2], by simp [go_sem, f3], by simp [go_sem, f4], by simpa using h7⟩
theorem Chg.set4 (w : World) (g : Nat) (x y z u : Value) : Chg (fun k => k = g) w ((((w.setCell ⟨g, 0, none⟩ x).setCell ⟨g, 1, none⟩ y).setCell ⟨g, 2, none⟩ z).setCell ⟨g, 3, none⟩ u) :=
  ⟨rfl, rfl, rfl, by simp [World.setCell], fun k hk hc => (Below.heap_setCell _ _ _ _ hc).trans ((Below.heap_setCell _ _ _ _ hc).trans ((Below.heap_setCell _ _ _ _ hc).trans (Below.heap_setCell _ _ _ _ hc)))⟩
/-- a struct of four cells and two slots as the three results -/
theorem ret_B4_tmp2 {fn : Func} {R : Ending → World → Prop} {a : Act} {w : World} {t u v : Tmp} {g : Nat} {x1 x2 x3 x4 y z : Value} (hres : fn.results = #[.cell t 29, .tmp u, .tmp v]) (hd : a.defers = [])
    (ht : a.tmps.getD t undef = .pointer (some ⟨g, 0, none⟩)) (hu : a.tmps.getD u undef = y) (hv : a.tmps.getD v undef = z) (hB : K4f w g x1 x2 x3 x4) (hR : R (.returned (.tuple #[.agg #[x1, x2, x3, x4], y, z])) w) : bodyPost Try.prog fn R .ret a w := by
  obtain ⟨h1, h2, h3, h4, _⟩ := hB
  rw [Array.getD_eq_getD_getElem?] at ht hu hv
  exact bodyPost_ret (by simp only [results, hres]; simp [go_sem, ht, hu, hv, h1, h2, h3, h4]) hd hR
/-- what a replay returns -/
def RetPl (w : World) (r : Cnt × List Int × Int) (e : Ending) (w' : World) : Prop :=
  ∃ A k, e = .returned (.tuple #[cntV r.1, .slice A r.2.1.length k, .int .i64 r.2.2]) ∧ RdI w' w.heap.size w'.heap.size (.slice A r.2.1.length k) r.2.1 ∧ Below w.heap.size w w'
theorem RetPl.err {w w' : World} {r : Cnt × List Int × Int} {e : Int} (h : r = (⟨0, 0, 0, 0⟩, [], e)) (hb : Below w.heap.size w w') : RetPl w r (.returned (.tuple #[.agg #[.int .i64 0, .int .i64 0, .int .i64 0, .int .i64 0], .slice none 0 0, .int .i64 e])) w' := by
  subst h
  exact ⟨none, 0, rfl, Rd.nil _ _ _, hb⟩
theorem wfB_valid {n : Net} (h : wfB n = true) : validB n = true := (wfB_wf h).valid

set_option maxHeartbeats 1000000 in
theorem initial_own (n : Net) (np : Nat) (vt : Value) (lo hi : Nat) (w : World) (hv : RdT w lo hi vt n.trans) (hval : validB n = true) (hnp : n.places = np) :
    Calls Try.prog 29 #[netV n vt] w fun e w' => ∃ gm, e = .returned (.tuple #[.slice (some ⟨gm, 0, none⟩) np np, .int .i64 0]) ∧ w.heap.size ≤ gm ∧ OwnI w' gm (gm + 1) (.slice (some ⟨gm, 0, none⟩) np np) (oneL np n.source) ∧ Below w.heap.size w w' := by
  have hone : ∀ W, Below w.heap.size w W → Calls Try.prog 70 #[netV n vt, .int .i64 n.source] W fun e w' => ∃ gm, e = .returned (.tuple #[.slice (some ⟨gm, 0, none⟩) np np, .int .i64 0]) ∧ W.heap.size ≤ gm ∧ OwnI w' gm (gm + 1) (.slice (some ⟨gm, 0, none⟩) np np) (oneL np n.source) ∧ Below W.heap.size W w' := by
    intro W hW
    obtain ⟨A, c, rfl, hc, hm⟩ := hv.form
    have HV := Lib.hid (hv.after hW)
    clear hv hW w
    have HVB := Lib.hid hval
    have hpl := validB_places hval
    have hpp := (validB_ends hval).1
    clear hval
    generalize hps : n.source = p at *
    obtain ⟨kp, rfl⟩ : ∃ k : Nat, p = k := ⟨p.toNat, by omega⟩
    have hlt : kp < np := by omega
    have hmk := mk_int hnp (by omega)
    have HNP := Lib.hid hnp
    have hn40 : np ≤ 40 := by omega
    have HPS := Lib.hid hps
    clear hnp hpl hpp hps
    obtain ⟨w, hw⟩ : ∃ w, w = W := ⟨_, rfl⟩
    subst hw
    refine calls_cps fun R hR => ?_
    have HR := Lib.hid hR
    clear hR
    go_enter Try.func70, Try.ntmps70
    have M : Hid (Mem [Loc.k4 w.heap.size (.int .i64 n.places) (.slice A n.trans.length c) (.int .i64 n.source) (.int .i64 n.sink), Loc.bl w.heap.size w] (w.alloc (.cells #[.int .i64 n.places, .slice A n.trans.length c, .int .i64 n.source, .int .i64 n.sink] 24))) := Lib.hid ⟨K4.new w _ _ _ _ _, ⟨(Below.refl _ _).alloc (Nat.le_refl _) _, by simp⟩, True.intro⟩
    have hk4 := M.out.1
    go_wp2_with (first
      | (go_at_call 54; refine (valid_is HVB.out _ lo hi _ (HV.out.after M.out.2.1.1)).mono ?_; rintro e w1 ⟨rfl, hb1⟩; replace M := Lib.hid (M.out.below hb1); clear hb1; replace hk4 := M.out.1; have HO := Lib.hid (OwnI.made w1 np (by omega)); have hat := OwnI.at1 HO.out (k := kp) (by simp; omega)))
    refine HR.out _ _ ⟨w1.heap.size, rfl, M.out.2.1.2, ?_, ?_⟩
    · have := (set_new w1 (madeCells #[.int .i64 0] np) 3 kp (.int .i64 1)) ▸ OwnI.set HO.out kp 1
      simpa [oneL] using this
    · exact (M.out.2.1.1).alloc M.out.2.1.2 _
  have HONE := Lib.hid hone
  obtain ⟨A, c, rfl, hc, hm⟩ := hv.form
  clear hv hone hnp
  refine calls_cps fun R hR => ?_
  have HR := Lib.hid hR
  clear hR
  go_enter Try.func29, Try.ntmps29
  have M : Hid (Mem [Loc.k4 w.heap.size (.int .i64 n.places) (.slice A n.trans.length c) (.int .i64 n.source) (.int .i64 n.sink), Loc.bl w.heap.size w] (w.alloc (.cells #[.int .i64 n.places, .slice A n.trans.length c, .int .i64 n.source, .int .i64 n.sink] 24))) := Lib.hid ⟨K4.new w _ _ _ _ _, ⟨(Below.refl _ _).alloc (Nat.le_refl _) _, by simp⟩, True.intro⟩
  have hk4 := M.out.1
  go_wp2_with (go_at_call 70; refine (HONE.out _ M.out.2.1.1).mono ?_; rintro e w1 ⟨gm, rfl, hg1, ho1, hb1⟩; have HO1 := Lib.hid ho1; have HG1 : Hid (w.heap.size ≤ gm) := Lib.hid (by simp only [World.size_alloc] at hg1; omega); replace M := Lib.hid (M.out.below hb1); clear hb1 ho1 hg1)
  exact HR.out _ _ ⟨gm, rfl, HG1.out, HO1.out, M.out.2.1.1⟩

theorem named_is {l : List ByteArray} {b : Bool} (hb : allN l = b) (lo hi : Nat) (v : Value) (w : World) (hv : RdS w lo hi v l) :
    Calls Try.prog 28 #[v] w fun e w' => e = .returned (.bool b) ∧ Below w.heap.size w w' := hb ▸ named_any l lo hi v w hv
theorem workflow_is {n : Net} {b : Bool} (hb : wfB n = b) (vt : Value) (lo hi : Nat) (w : World) (hv : RdT w lo hi vt n.trans) :
    Calls Try.prog 27 #[netV n vt] w fun e w' => e = .returned (.bool b) ∧ Below w.heap.size w w' := hb ▸ workflow_any n vt lo hi w hv
theorem oneL_at (k : Nat) (p : Int) (i : Nat) : gti (oneL k p) i = if p.toNat = i ∧ i < k then 1 else 0 := by
  unfold oneL
  rw [gti_set]
  simp only [List.length_replicate]
  split
  · rfl
  · unfold gti
    rw [List.getElem?_replicate]
    split <;> rfl
theorem sumI_zero : ∀ k : Nat, sumI (List.replicate k 0) = 0
  | 0 => rfl
  | k + 1 => by rw [List.replicate_succ, sumI, sumI_zero k]; rfl
theorem pl0_pm {n : Net} (hv : validB n = true) : PM n (pl0 n) ∧ Sm (pl0 n) 1 ∧ (pl0 n).big = false := by
  have h1 := validB_places hv
  have h2 := (validB_ends hv).1
  have hs : sumI (oneL n.places.toNat n.source) = 1 := by
    unfold oneL
    rw [sumI_set _ _ _ (by simp; omega), sumI_zero]
    unfold gti
    rw [List.getElem?_replicate]
    split <;> rfl
  have hat : ∀ i, 0 ≤ gti (oneL n.places.toNat n.source) i ∧ gti (oneL n.places.toNat n.source) i ≤ 100 := fun i => by
    rw [oneL_at]
    split <;> omega
  refine ⟨⟨?_, fun i => (hat i).1, fun _ => ?_, ?_, ?_, ?_, ?_, ?_⟩, ⟨?_, ?_, ?_, ?_⟩, rfl⟩
  · simp [pl0, oneL]; omega
  · unfold markB mark2B
    rw [hv, if_neg (by simp [pl0, oneL]; omega), all01_intro (m := (pl0 n).m) hat]
    rfl
  · simp [pl0]
  · simp [pl0]
  · simp [pl0]
  · simp only [pl0, hs]; decide
  · intro t ht; simp [pl0] at ht
  · simp [pl0]
  · simp [pl0]
  · simp [pl0]
  · simp [pl0]

set_option maxRecDepth 100000 in
set_option maxHeartbeats 4000000 in
theorem Play_any (n : Net) (l : List ByteArray) (vt v : Value) (lo hi lo' hi' : Nat) (w : World) (hv : RdT w lo hi vt n.trans) (hw : RdS w lo' hi' v l) (hhi : hi ≤ w.heap.size) (hhi2 : hi' ≤ w.heap.size) :
    Calls Try.prog 10 #[netV n vt, v] w (RetPl w (PlayE n l)) := by
  obtain ⟨A, c, rfl, hc, hmm⟩ := hv.form
  obtain ⟨A2, c2, rfl, hc2, hmm2⟩ := hw.form
  have HV := Lib.hid hv
  have HW := Lib.hid hw
  clear hv hw
  obtain ⟨zw, hzw⟩ : ∃ z, wfB n = z := ⟨_, rfl⟩
  obtain ⟨zn, hzn⟩ : ∃ z, allN l = z := ⟨_, rfl⟩
  have HP : Hid (PlayE n l = if (zw && zn) = false then (⟨0, 0, 0, 0⟩, [], 1) else if 200 < l.length then (⟨0, 0, 0, 0⟩, [], 5) else endE n (playL n l (pl0 n))) := Lib.hid (by unfold PlayE; rw [hzw, hzn])
  have HZW := Lib.hid hzw
  have HZN := Lib.hid hzn
  clear hzw hzn
  refine calls_cps fun R hR => ?_
  have HR := Lib.hid hR
  clear hR
  go_enter Try.func10, Try.ntmps10
  have M : Hid (Mem [Loc.k4 w.heap.size (.int .i64 n.places) (.slice A n.trans.length c) (.int .i64 n.source) (.int .i64 n.sink), Loc.bl w.heap.size w] (w.alloc (.cells #[.int .i64 n.places, .slice A n.trans.length c, .int .i64 n.source, .int .i64 n.sink] 24))) := Lib.hid ⟨K4.new w _ _ _ _ _, ⟨(Below.refl _ _).alloc (Nat.le_refl _) _, by simp⟩, True.intro⟩
  have hk4 := M.out.1
  have M1 : Hid (Mem [Loc.k4f (w.heap.size + 1) (.int .i64 0) (.int .i64 0) (.int .i64 0) (.int .i64 0), Loc.k4 w.heap.size (.int .i64 n.places) (.slice A n.trans.length c) (.int .i64 n.source) (.int .i64 n.sink), Loc.bl w.heap.size w] ((w.alloc (.cells #[.int .i64 n.places, .slice A n.trans.length c, .int .i64 n.source, .int .i64 n.sink] 24)).alloc (.cells #[.int .i64 0, .int .i64 0, .int .i64 0, .int .i64 0] 29))) := Lib.hid ⟨by have := K4f.new (w.alloc (.cells #[.int .i64 n.places, .slice A n.trans.length c, .int .i64 n.source, .int .i64 n.sink] 24)) (.int .i64 0) (.int .i64 0) (.int .i64 0) (.int .i64 0) 29; rw [World.size_alloc] at this; exact this, M.out.alloc _⟩
  clear M
  have M := M1
  clear M1
  have hkr := M.out.1
  replace hk4 := M.out.2.1
  cases zw with
  | false =>
    go_wp2_with (go_at_call 27; refine (workflow_is HZW.out _ lo hi _ (HV.out.after M.out.2.2.1.1)).mono ?_; rintro e w1 ⟨rfl, hb1⟩; replace M := Lib.hid (M.out.below hb1); clear hb1; replace hkr := M.out.1; replace hk4 := M.out.2.1)
    refine ret_B4_tmp2 rfl rfl rfl rfl rfl (K4f.set M.out.1 _ _ _ _) (HR.out _ _ (RetPl.err (by rw [HP.out]; rfl) (Mem.step (a' := Loc.k4f (w.heap.size + 1) (.int .i64 0) (.int .i64 0) (.int .i64 0) (.int .i64 0)) M.out (K4f.set M.out.1 _ _ _ _) (Chg.set4 _ (w.heap.size + 1) _ _ _ _) (by (repeat' (first | exact True.intro | refine And.intro (fun k hk e => ?_) ?_)) <;> (first | exact e | ((try dsimp only [Loc.c1, Loc.c2, Loc.k1, Loc.k2, Loc.k3, Loc.k4, Loc.k6, Loc.fr, Loc.bl, Loc.own, Loc.sz, Loc.rd, Loc.rdI, Loc.rdS, Loc.rdM, Loc.rdT, Loc.ow, Loc.owI, Loc.owN, Loc.set, Loc.ns, Loc.cg, Loc.pb, silD, plD] at hk e) <;> omega)))).2.2.1.1))
  | true =>
    cases zn with
    | false =>
      go_wp2_with (first
        | (go_at_call 27; refine (workflow_is HZW.out _ lo hi _ (HV.out.after M.out.2.2.1.1)).mono ?_; rintro e w1 ⟨rfl, hb1⟩; replace M := Lib.hid (M.out.below hb1); clear hb1; replace hkr := M.out.1; replace hk4 := M.out.2.1)
        | (go_at_call 28; refine (named_is HZN.out lo' hi' _ _ (HW.out.after M.out.2.2.1.1)).mono ?_; rintro e w1 ⟨rfl, hb1⟩; replace M := Lib.hid (M.out.below hb1); clear hb1; replace hkr := M.out.1; replace hk4 := M.out.2.1))
      refine ret_B4_tmp2 rfl rfl rfl rfl rfl (K4f.set M.out.1 _ _ _ _) (HR.out _ _ (RetPl.err (by rw [HP.out]; rfl) (Mem.step (a' := Loc.k4f (w.heap.size + 1) (.int .i64 0) (.int .i64 0) (.int .i64 0) (.int .i64 0)) M.out (K4f.set M.out.1 _ _ _ _) (Chg.set4 _ (w.heap.size + 1) _ _ _ _) (by (repeat' (first | exact True.intro | refine And.intro (fun k hk e => ?_) ?_)) <;> (first | exact e | ((try dsimp only [Loc.c1, Loc.c2, Loc.k1, Loc.k2, Loc.k3, Loc.k4, Loc.k6, Loc.fr, Loc.bl, Loc.own, Loc.sz, Loc.rd, Loc.rdI, Loc.rdS, Loc.rdM, Loc.rdT, Loc.ow, Loc.owI, Loc.owN, Loc.set, Loc.ns, Loc.cg, Loc.pb, silD, plD] at hk e) <;> omega)))).2.2.1.1))
    | true =>
      rw [if_neg (by simp)] at HP
      by_cases h200 : 200 < l.length
      · rw [if_pos h200] at HP
        have hd : decide ((200 : Int) < l.length) = true := by simp; omega
        go_wp2_with (first
          | (go_at_call 27; refine (workflow_is HZW.out _ lo hi _ (HV.out.after M.out.2.2.1.1)).mono ?_; rintro e w1 ⟨rfl, hb1⟩; replace M := Lib.hid (M.out.below hb1); clear hb1; replace hkr := M.out.1; replace hk4 := M.out.2.1)
          | (go_at_call 28; refine (named_is HZN.out lo' hi' _ _ (HW.out.after M.out.2.2.1.1)).mono ?_; rintro e w1 ⟨rfl, hb1⟩; replace M := Lib.hid (M.out.below hb1); clear hb1; replace hkr := M.out.1; replace hk4 := M.out.2.1))
        refine ret_B4_tmp2 rfl rfl rfl rfl rfl (K4f.set M.out.1 _ _ _ _) (HR.out _ _ (RetPl.err (by rw [HP.out]) (Mem.step (a' := Loc.k4f (w.heap.size + 1) (.int .i64 0) (.int .i64 0) (.int .i64 0) (.int .i64 0)) M.out (K4f.set M.out.1 _ _ _ _) (Chg.set4 _ (w.heap.size + 1) _ _ _ _) (by (repeat' (first | exact True.intro | refine And.intro (fun k hk e => ?_) ?_)) <;> (first | exact e | ((try dsimp only [Loc.c1, Loc.c2, Loc.k1, Loc.k2, Loc.k3, Loc.k4, Loc.k6, Loc.fr, Loc.bl, Loc.own, Loc.sz, Loc.rd, Loc.rdI, Loc.rdS, Loc.rdM, Loc.rdT, Loc.ow, Loc.owI, Loc.owN, Loc.set, Loc.ns, Loc.cg, Loc.pb, silD, plD] at hk e) <;> omega)))).2.2.1.1))
      · rw [if_neg h200] at HP
        have hd : decide ((200 : Int) < l.length) = false := by simp; omega
        have hval := wfB_valid HZW.out
        have hpl := validB_places hval
        obtain ⟨np, hnp⟩ : ∃ k : Nat, n.places = k := ⟨n.places.toNat, by omega⟩
        have HVAL := Lib.hid hval
        have HNP := Lib.hid hnp
        have hnp1 : 1 ≤ np ∧ np ≤ 40 := by omega
        have HP0 := Lib.hid (pl0_pm hval)
        clear hval hpl hnp
        go_wp2_with (first
          | (go_at_call 27; refine (workflow_is HZW.out _ lo hi _ (HV.out.after M.out.2.2.1.1)).mono ?_; rintro e w1 ⟨rfl, hb1⟩; replace M := Lib.hid (M.out.below hb1); clear hb1; replace hkr := M.out.1; replace hk4 := M.out.2.1)
          | (go_at_call 28; refine (named_is HZN.out lo' hi' _ _ (HW.out.after M.out.2.2.1.1)).mono ?_; rintro e w1 ⟨rfl, hb1⟩; replace M := Lib.hid (M.out.below hb1); clear hb1; replace hkr := M.out.1; replace hk4 := M.out.2.1)
          | (go_at_call 29; have hz4 := M.out.2.2.1.1.size; have hz5 := M.out.2.1.2.2.2.2; have hz6 := M.out.1.2.2.2.2.2.2.2.2; refine (initial_own n np _ lo hi _ (HV.out.after M.out.2.2.1.1) HVAL.out HNP.out).mono ?_; rintro e w5 ⟨gm, rfl, hg5, ho5, hb5⟩; have HO5 := Lib.hid ho5; have hs5 := hb5.size; replace M := Lib.hid (M.out.below hb5); replace hkr := M.out.1; replace hk4 := M.out.2.1; clear ho5 hb5))
        obtain ⟨g, hgd⟩ : ∃ g, g = w5.heap.size := ⟨_, rfl⟩
        have hg1 : w.heap.size + 1 < gm := by omega
        have hgm5 : gm < w5.heap.size := by
          obtain ⟨g', cap, hv', _, h5, h6⟩ := Own.blk HO5.out (by simp [oneL]; omega)
          injection hv' with hv' _ _
          injection hv' with hv'
          injection hv' with hv' _ _
          omega
        have hg2 : gm < g := by omega
        have MP : Hid (Mem [Loc.pb (plA n (.slice A n.trans.length c) (.slice (some ⟨gm, 0, none⟩) np np) ((pl0 n)).c (.slice none 0 0) ((pl0 n)).big) g, Loc.owI gm (gm + 1) (.slice (some ⟨gm, 0, none⟩) np np) ((pl0 n)).m, Loc.owI w.heap.size w.heap.size (.slice none 0 0) ((pl0 n)).run, Loc.k4f (w.heap.size + 1) (.int .i64 0) (.int .i64 0) (.int .i64 0) (.int .i64 0), Loc.k4 w.heap.size (.int .i64 n.places) (.slice A n.trans.length c) (.int .i64 n.source) (.int .i64 n.sink), Loc.rdT lo hi (.slice A n.trans.length c) n.trans, Loc.bl w.heap.size w] (w5.alloc (.cells (plA n (.slice A n.trans.length c) (.slice (some ⟨gm, 0, none⟩) np np) (pl0 n).c (.slice none 0 0) (pl0 n).big) 70))) := Lib.hid (by
          have hal := M.out.alloc (.cells (plA n (.slice A n.trans.length c) (.slice (some ⟨gm, 0, none⟩) np np) (pl0 n).c (.slice none 0 0) (pl0 n).big) 70)
          refine ⟨by rw [hgd]; exact heap_new rfl, ?_, Own.nil _ _ _, hal.1, hal.2.1, HV.out.after hal.2.2.1.1, hal.2.2⟩
          have e : (pl0 n).m = oneL np n.source := by unfold pl0; rw [HNP.out]; rfl
          rw [e]
          exact HO5.out.alloc _)
        have HL0 : Hid ((pl0 n).m.length = np) := Lib.hid (by simp [pl0, oneL, HNP.out])
        have hgs : g < w5.heap.size + 1 := by omega
        have HGD := Lib.hid hgd
        clear hgd hz4 hz5 hz6 hg5 hs5
        go_wp2_with fail
        rw [← HGD.out]
        go_loopw [39, 11] (fun v39 _ wr => ∃ (j : Nat) (sj : Pl) (vr : Value) (a0 a1 : Nat), j ≤ l.length ∧ v39 = .int .i64 j ∧ Hid (playL n (l.drop j) sj = playL n l (pl0 n)) ∧ Hid (PM n sj) ∧ Hid (sj.big = false) ∧ Hid (Sm sj (1 + 200 * j)) ∧ Hid (sj.m.length = np) ∧ w.heap.size ≤ a0 ∧ a0 ≤ wr.heap.size ∧ a1 ≤ wr.heap.size ∧ (a1 ≤ w.heap.size ∨ g < a0) ∧ Hid (Mem [Loc.pb (plA n (.slice A n.trans.length c) (.slice (some ⟨gm, 0, none⟩) np np) (sj).c vr (sj).big) g, Loc.owI gm (gm + 1) (.slice (some ⟨gm, 0, none⟩) np np) (sj).m, Loc.owI a0 a1 vr (sj).run, Loc.k4f (w.heap.size + 1) (.int .i64 0) (.int .i64 0) (.int .i64 0) (.int .i64 0), Loc.k4 w.heap.size (.int .i64 n.places) (.slice A n.trans.length c) (.int .i64 n.source) (.int .i64 n.sink), Loc.rdT lo hi (.slice A n.trans.length c) n.trans, Loc.bl w.heap.size w] wr)) (fun v39 _ _ => l.length - (intOf v39).toNat)
        case atStart => exact ⟨0, pl0 n, .slice none 0 0, w.heap.size, w.heap.size, Nat.zero_le _, rfl, Lib.hid rfl, Lib.hid HP0.out.1, Lib.hid HP0.out.2.2, Lib.hid HP0.out.2.1, HL0, Nat.le_refl _, by simp only [World.size_alloc]; omega, by simp only [World.size_alloc]; omega, .inl (Nat.le_refl _), MP⟩
        case round =>
          clear M MP HP0 HL0 HO5 hk4 hkr hgm5 hgs HGD
          obtain ⟨j, sj, vr, a0, a1, hj, rfl, HT, HPM, HBG, HSM, HLN, ha2, ha0, ha1, haw, M⟩ := hrel
          have hk11 := PB.k11 M.out.1
          have hkr := M.out.2.2.2.1
          have hk4 := M.out.2.2.2.2.1
          have hgwr := PB.lt M.out.1
          by_cases hlt : j < l.length
          · obtain ⟨bi, oi, rfl, _, _, hci2⟩ := RdS.at1 (HW.out.after M.out.2.2.2.2.2.2.1.1) hlt
            have HD : Hid (playL n (l.drop j) sj = if (playE n (gti l j) sj).big then none else playL n (l.drop (j + 1)) (playE n (gti l j) sj)) := Lib.hid (by rw [drop_gti hlt]; rfl)
            generalize gti l j = x at *
            have HPY := Lib.hid (play_any n x sj (1 + 200 * j) g gm np np a0 a1 lo hi _ vr wr M.out.2.2.2.2.2.1 HVAL.out HPM.out HBG.out HSM.out (by omega) HLN.out ⟨M.out.1, M.out.2.1, M.out.2.2.1, True.intro⟩ (by omega) (by omega) (by omega) (by omega) (by omega) (by omega) ha1 ha0)
            have HPN := Lib.hid (play_pm (act := x) HVAL.out HPM.out HBG.out HSM.out)
            obtain ⟨sn, hsn⟩ : ∃ y, playE n x sj = y := ⟨_, rfl⟩
            rw [hsn] at HD HPY HPN
            clear hsn
            obtain ⟨zb, hzb⟩ : ∃ z, sn.big = z := ⟨_, rfl⟩
            have HZB := Lib.hid hzb
            rw [hzb] at HD HPY
            clear hzb
            cases zb with
            | true =>
              have HPL : Hid (playL n l (pl0 n) = none) := Lib.hid (by rw [← HT.out, HD.out]; rfl)
              go_wp2_with (go_at_call 30; refine HPY.out.mono ?_; rintro e w6 ⟨vr2, b0, b1, rfl, hM2, hbb, hb0, hb1, hch⟩; replace M : Hid (Mem [Loc.pb _ g, Loc.owI gm (gm + 1) _ sn.m, Loc.owI b0 b1 vr2 sn.run, Loc.k4f (w.heap.size + 1) (.int .i64 0) (.int .i64 0) (.int .i64 0) (.int .i64 0), Loc.k4 w.heap.size (.int .i64 n.places) (.slice A n.trans.length c) (.int .i64 n.source) (.int .i64 n.sink), Loc.rdT lo hi (.slice A n.trans.length c) n.trans, Loc.bl w.heap.size w] w6) := Lib.hid ⟨hM2.1, hM2.2.1, hM2.2.2.1, Mem.chg hch M.out.2.2.2 (by (repeat' (first | exact True.intro | refine And.intro (fun k hk e => ?_) ?_)) <;> (first | exact e | ((try dsimp only [Loc.c1, Loc.c2, Loc.k1, Loc.k2, Loc.k3, Loc.k4, Loc.k6, Loc.fr, Loc.bl, Loc.own, Loc.sz, Loc.rd, Loc.rdI, Loc.rdS, Loc.rdM, Loc.rdT, Loc.ow, Loc.owI, Loc.owN, Loc.set, Loc.ns, Loc.cg, Loc.pb, silD, plD] at hk e) <;> omega)))⟩; have hs6 := hch.size; clear hM2 hch; replace hk11 := PB.k11 M.out.1; replace hkr := M.out.2.2.2.1; replace hk4 := M.out.2.2.2.2.1)
              refine ret_B4_tmp2 rfl rfl rfl rfl rfl (K4f.set M.out.2.2.2.1 _ _ _ _) (HR.out _ _ (RetPl.err (by rw [HP.out, HPL.out]; rfl) (Mem.step (a' := Loc.k4f (w.heap.size + 1) (.int .i64 0) (.int .i64 0) (.int .i64 0) (.int .i64 0)) M.out.2.2.2 (K4f.set M.out.2.2.2.1 _ _ _ _) (Chg.set4 _ (w.heap.size + 1) _ _ _ _) (by (repeat' (first | exact True.intro | refine And.intro (fun k hk e => ?_) ?_)) <;> (first | exact e | ((try dsimp only [Loc.c1, Loc.c2, Loc.k1, Loc.k2, Loc.k3, Loc.k4, Loc.k6, Loc.fr, Loc.bl, Loc.own, Loc.sz, Loc.rd, Loc.rdI, Loc.rdS, Loc.rdM, Loc.rdT, Loc.ow, Loc.owI, Loc.owN, Loc.set, Loc.ns, Loc.cg, Loc.pb, silD, plD] at hk e) <;> omega)))).2.2.2.1.1))
            | false =>
              have HNX : Hid (playL n (l.drop (j + 1)) sn = playL n l (pl0 n)) := Lib.hid (by rw [← HT.out, HD.out]; rfl)
              go_wp2_with (go_at_call 30; refine HPY.out.mono ?_; rintro e w6 ⟨vr2, b0, b1, rfl, hM2, hbb, hb0, hb1, hch⟩; replace M : Hid (Mem [Loc.pb _ g, Loc.owI gm (gm + 1) _ sn.m, Loc.owI b0 b1 vr2 sn.run, Loc.k4f (w.heap.size + 1) (.int .i64 0) (.int .i64 0) (.int .i64 0) (.int .i64 0), Loc.k4 w.heap.size (.int .i64 n.places) (.slice A n.trans.length c) (.int .i64 n.source) (.int .i64 n.sink), Loc.rdT lo hi (.slice A n.trans.length c) n.trans, Loc.bl w.heap.size w] w6) := Lib.hid ⟨hM2.1, hM2.2.1, hM2.2.2.1, Mem.chg hch M.out.2.2.2 (by (repeat' (first | exact True.intro | refine And.intro (fun k hk e => ?_) ?_)) <;> (first | exact e | ((try dsimp only [Loc.c1, Loc.c2, Loc.k1, Loc.k2, Loc.k3, Loc.k4, Loc.k6, Loc.fr, Loc.bl, Loc.own, Loc.sz, Loc.rd, Loc.rdI, Loc.rdS, Loc.rdM, Loc.rdT, Loc.ow, Loc.owI, Loc.owN, Loc.set, Loc.ns, Loc.cg, Loc.pb, silD, plD] at hk e) <;> omega)))⟩; have hs6 := hch.size; clear hM2 hch; replace hk11 := PB.k11 M.out.1; replace hkr := M.out.2.2.2.1; replace hk4 := M.out.2.2.2.2.1)
              exact ⟨⟨j + 1, sn, vr2, b0, b1, by omega, by go_num, HNX, Lib.hid HPN.out.1, HZB, Lib.hid (HPN.out.2.mono (by omega)), Lib.hid (by have h1 := HPN.out.1.len; have h2 := HNP.out; omega), by omega, hb0, hb1, by omega, Lib.hid (by rw [HZB.out]; exact M.out)⟩, by simp [intOf]; omega⟩
          · obtain rfl : j = l.length := by omega
            have HPL : Hid (playL n l (pl0 n) = some sj) := Lib.hid (by rw [← HT.out, List.drop_length]; rfl)
            have HFN := Lib.hid (finish_any n sj (1 + 200 * l.length) g gm np np a0 a1 lo hi _ vr wr M.out.2.2.2.2.2.1 HVAL.out HPM.out HBG.out HSM.out (by omega) HLN.out ⟨M.out.1, M.out.2.1, M.out.2.2.1, True.intro⟩ (by omega) (by omega) (by omega) (by omega) (by omega) (by omega) ha1 ha0)
            have HP2 : Hid (PlayE n l = if (finE n sj).big then (⟨0, 0, 0, 0⟩, [], 6) else ((finE n sj).c, (finE n sj).run, 0)) := Lib.hid (by rw [HP.out, HPL.out]; rfl)
            obtain ⟨sF, hsF⟩ : ∃ y, finE n sj = y := ⟨_, rfl⟩
            rw [hsF] at HFN HP2
            clear hsF
            obtain ⟨zf, hzf⟩ : ∃ z, sF.big = z := ⟨_, rfl⟩
            rw [hzf] at HFN HP2
            clear hzf
            cases zf with
            | true =>
              go_wp2_with (go_at_call 31; refine HFN.out.mono ?_; rintro e w6 ⟨vr2, b0, b1, rfl, hM2, hbb, hb0, hb1, hch⟩; replace M : Hid (Mem [Loc.pb _ g, Loc.owI gm (gm + 1) _ sF.m, Loc.owI b0 b1 vr2 sF.run, Loc.k4f (w.heap.size + 1) (.int .i64 0) (.int .i64 0) (.int .i64 0) (.int .i64 0), Loc.k4 w.heap.size (.int .i64 n.places) (.slice A n.trans.length c) (.int .i64 n.source) (.int .i64 n.sink), Loc.rdT lo hi (.slice A n.trans.length c) n.trans, Loc.bl w.heap.size w] w6) := Lib.hid ⟨hM2.1, hM2.2.1, hM2.2.2.1, Mem.chg hch M.out.2.2.2 (by (repeat' (first | exact True.intro | refine And.intro (fun k hk e => ?_) ?_)) <;> (first | exact e | ((try dsimp only [Loc.c1, Loc.c2, Loc.k1, Loc.k2, Loc.k3, Loc.k4, Loc.k6, Loc.fr, Loc.bl, Loc.own, Loc.sz, Loc.rd, Loc.rdI, Loc.rdS, Loc.rdM, Loc.rdT, Loc.ow, Loc.owI, Loc.owN, Loc.set, Loc.ns, Loc.cg, Loc.pb, silD, plD] at hk e) <;> omega)))⟩; have hs6 := hch.size; clear hM2 hch; replace hk11 := PB.k11 M.out.1; replace hkr := M.out.2.2.2.1; replace hk4 := M.out.2.2.2.2.1)
              refine ret_B4_tmp2 rfl rfl rfl rfl rfl (K4f.set M.out.2.2.2.1 _ _ _ _) (HR.out _ _ (RetPl.err (by rw [HP2.out]; rfl) (Mem.step (a' := Loc.k4f (w.heap.size + 1) (.int .i64 0) (.int .i64 0) (.int .i64 0) (.int .i64 0)) M.out.2.2.2 (K4f.set M.out.2.2.2.1 _ _ _ _) (Chg.set4 _ (w.heap.size + 1) _ _ _ _) (by (repeat' (first | exact True.intro | refine And.intro (fun k hk e => ?_) ?_)) <;> (first | exact e | ((try dsimp only [Loc.c1, Loc.c2, Loc.k1, Loc.k2, Loc.k3, Loc.k4, Loc.k6, Loc.fr, Loc.bl, Loc.own, Loc.sz, Loc.rd, Loc.rdI, Loc.rdS, Loc.rdM, Loc.rdT, Loc.ow, Loc.owI, Loc.owN, Loc.set, Loc.ns, Loc.cg, Loc.pb, silD, plD] at hk e) <;> omega)))).2.2.2.1.1))
            | false =>
              go_wp2_with (go_at_call 31; refine HFN.out.mono ?_; rintro e w6 ⟨vr2, b0, b1, rfl, hM2, hbb, hb0, hb1, hch⟩; replace M : Hid (Mem [Loc.pb _ g, Loc.owI gm (gm + 1) _ sF.m, Loc.owI b0 b1 vr2 sF.run, Loc.k4f (w.heap.size + 1) (.int .i64 0) (.int .i64 0) (.int .i64 0) (.int .i64 0), Loc.k4 w.heap.size (.int .i64 n.places) (.slice A n.trans.length c) (.int .i64 n.source) (.int .i64 n.sink), Loc.rdT lo hi (.slice A n.trans.length c) n.trans, Loc.bl w.heap.size w] w6) := Lib.hid ⟨hM2.1, hM2.2.1, hM2.2.2.1, Mem.chg hch M.out.2.2.2 (by (repeat' (first | exact True.intro | refine And.intro (fun k hk e => ?_) ?_)) <;> (first | exact e | ((try dsimp only [Loc.c1, Loc.c2, Loc.k1, Loc.k2, Loc.k3, Loc.k4, Loc.k6, Loc.fr, Loc.bl, Loc.own, Loc.sz, Loc.rd, Loc.rdI, Loc.rdS, Loc.rdM, Loc.rdT, Loc.ow, Loc.owI, Loc.owN, Loc.set, Loc.ns, Loc.cg, Loc.pb, silD, plD] at hk e) <;> omega)))⟩; have hs6 := hch.size; clear hM2 hch; replace hk11 := PB.k11 M.out.1; replace hkr := M.out.2.2.2.1; replace hk4 := M.out.2.2.2.2.1)
              obtain ⟨Ar, kr, rfl, hkr1, hkr2⟩ := M.out.2.2.1.form
              have hkc : C1 w6 g 5 (.int .i64 sF.c.p) ∧ C1 w6 g 6 (.int .i64 sF.c.c) ∧ C1 w6 g 7 (.int .i64 sF.c.m) ∧ C1 w6 g 8 (.int .i64 sF.c.r) ∧ C1 w6 g 9 (.slice Ar sF.run.length kr) := ⟨hk11.2.2.2.2.2.1, hk11.2.2.2.2.2.2.1, hk11.2.2.2.2.2.2.2.1, hk11.2.2.2.2.2.2.2.2.1, hk11.2.2.2.2.2.2.2.2.2.1⟩
              have HKK : Hid (∀ x y z u : Value, C1 ((((w6.setCell ⟨w.heap.size + 1, 0, none⟩ x).setCell ⟨w.heap.size + 1, 1, none⟩ y).setCell ⟨w.heap.size + 1, 2, none⟩ z).setCell ⟨w.heap.size + 1, 3, none⟩ u) g 5 (.int .i64 sF.c.p) ∧ C1 ((((w6.setCell ⟨w.heap.size + 1, 0, none⟩ x).setCell ⟨w.heap.size + 1, 1, none⟩ y).setCell ⟨w.heap.size + 1, 2, none⟩ z).setCell ⟨w.heap.size + 1, 3, none⟩ u) g 6 (.int .i64 sF.c.c) ∧ C1 ((((w6.setCell ⟨w.heap.size + 1, 0, none⟩ x).setCell ⟨w.heap.size + 1, 1, none⟩ y).setCell ⟨w.heap.size + 1, 2, none⟩ z).setCell ⟨w.heap.size + 1, 3, none⟩ u) g 7 (.int .i64 sF.c.m) ∧ C1 ((((w6.setCell ⟨w.heap.size + 1, 0, none⟩ x).setCell ⟨w.heap.size + 1, 1, none⟩ y).setCell ⟨w.heap.size + 1, 2, none⟩ z).setCell ⟨w.heap.size + 1, 3, none⟩ u) g 8 (.int .i64 sF.c.r) ∧ C1 ((((w6.setCell ⟨w.heap.size + 1, 0, none⟩ x).setCell ⟨w.heap.size + 1, 1, none⟩ y).setCell ⟨w.heap.size + 1, 2, none⟩ z).setCell ⟨w.heap.size + 1, 3, none⟩ u) g 9 (.slice Ar sF.run.length kr)) := Lib.hid (fun x y z u => by
                have h := PB.k11 ((Loc.pb _ g).keep (Chg.set4 w6 (w.heap.size + 1) x y z u) (by intro k hk hd; have h1 : k = g := hk; have h2 : k = w.heap.size + 1 := hd; omega) M.out.1)
                exact ⟨h.2.2.2.2.2.1, h.2.2.2.2.2.2.1, h.2.2.2.2.2.2.2.1, h.2.2.2.2.2.2.2.2.1, h.2.2.2.2.2.2.2.2.2.1⟩)
              clear hk4 hk11
              go_region_held3 (fun W => C1 W g 5 (.int .i64 sF.c.p) ∧ C1 W g 6 (.int .i64 sF.c.c) ∧ C1 W g 7 (.int .i64 sF.c.m) ∧ C1 W g 8 (.int .i64 sF.c.r) ∧ C1 W g 9 (.slice Ar sF.run.length kr)) (first | exact hkc | exact HKK.out _ _ _ _) (fail)
              go_wp2_with fail
              have MS := Mem.chg (Chg.set4 w6 (w.heap.size + 1) (.int .i64 sF.c.p) (.int .i64 sF.c.c) (.int .i64 sF.c.m) (.int .i64 sF.c.r)) (show Mem [Loc.owI b0 b1 (.slice Ar sF.run.length kr) sF.run, Loc.bl w.heap.size w] w6 from ⟨M.out.2.2.1, M.out.2.2.2.2.2.2.1, True.intro⟩) (by (repeat' (first | exact True.intro | refine And.intro (fun k hk e => ?_) ?_)) <;> (first | exact e | ((try dsimp only [Loc.c1, Loc.c2, Loc.k1, Loc.k2, Loc.k3, Loc.k4, Loc.k6, Loc.fr, Loc.bl, Loc.own, Loc.sz, Loc.rd, Loc.rdI, Loc.rdS, Loc.rdM, Loc.rdT, Loc.ow, Loc.owI, Loc.owN, Loc.set, Loc.ns, Loc.cg, Loc.pb, silD, plD] at hk e) <;> omega)))
              refine ret_B4_tmp2 rfl rfl rfl rfl rfl (K4f.set M.out.2.2.2.1 _ _ _ _) (HR.out _ _ ⟨Ar, kr, by rw [HP2.out]; rfl, ?_, by first | exact MS.2.1.1 | exact MS.drew.2.1.1⟩)
              rw [HP2.out]
              first | exact (Own.rd MS.1).mono (by omega) (by simp only [size_setCell, heap_drew]; exact hb1) | exact (Own.rd MS.drew.1).mono (by omega) (by simp only [size_setCell, heap_drew]; exact hb1)
end Go.Proofs.Ytmhbfoaecebobaa
end
section
namespace Go.Proofs.Ytmhbfoaecebobaa
set_option linter.unusedSimpArgs false
set_option linter.unusedVariables false

structure Fr where
  n : Int
  d : Int
deriving DecidableEq

/-- the fraction of an integer -/
def Fr.of (k : Int) : Fr := ⟨k, 1⟩

def Fr.ok (a : Fr) : Prop := -1073741824 ≤ a.n ∧ a.n ≤ 1073741824 ∧ 1 ≤ a.d ∧ a.d ≤ 1073741824 ∧ Int.gcd a.n a.d = 1
instance (a : Fr) : Decidable a.ok := by unfold Fr.ok; infer_instance
def Fr.okB (a : Fr) : Bool := decide a.ok
theorem Fr.okB_iff (a : Fr) : a.okB = true ↔ a.ok := by simp [Fr.okB]
theorem Fr.okB_of {a : Fr} (h : a.ok) : a.okB = true := (Fr.okB_iff a).2 h
theorem Fr.okB_not {a : Fr} (h : ¬ a.ok) : a.okB = false := by simp [Fr.okB, h]

/-- the normal form of n / d, d not 0 -/
def nf (n d : Int) : Fr := ⟨Int.sign d * (n / (Int.gcd n d : Int)), (d.natAbs : Int) / (Int.gcd n d : Int)⟩
def Fr.fits (a : Fr) : Bool := decide (-1073741824 ≤ a.n ∧ a.n ≤ 1073741824 ∧ a.d ≤ 1073741824)
def mkF (n d : Int) : Option Fr := if (nf n d).fits then some (nf n d) else none

theorem gcd_step (p q : Int) : Int.gcd q (p % q) = Int.gcd p q := by
  rw [Int.gcd_comm p q]
  have h := Int.gcd_add_mul_right_right q (p % q) (p / q)
  rw [← h]
  have e : p % q + p / q * q = p := by have := Int.emod_add_mul_ediv p q; rw [Int.mul_comm]; exact this
  rw [e]

theorem nf_scale (k n d : Int) (hk : 0 < k) : nf (k * n) (k * d) = nf n d := by
  have hg : (Int.gcd (k * n) (k * d) : Int) = k * (Int.gcd n d : Int) := by
    rw [Int.gcd_mul_left]; rw [Int.natCast_mul]; rw [Int.natAbs_of_nonneg (by omega)]
  have hs : Int.sign (k * d) = Int.sign d := by rw [Int.sign_mul, Int.sign_eq_one_of_pos hk, Int.one_mul]
  have ha : ((k * d).natAbs : Int) = k * (d.natAbs : Int) := by rw [Int.natAbs_mul, Int.natCast_mul, Int.natAbs_of_nonneg (by omega)]
  unfold nf
  rw [hg, hs, ha, Int.mul_ediv_mul_of_pos _ _ hk, Int.mul_ediv_mul_of_pos _ _ hk]
theorem mkF_scale (k n d : Int) (hk : 0 < k) : mkF (k * n) (k * d) = mkF n d := by unfold mkF; rw [nf_scale k n d hk]

theorem nf_ok (n d : Int) (hd : d ≠ 0) : 1 ≤ (nf n d).d ∧ Int.gcd (nf n d).n (nf n d).d = 1 := by
  have hg : 0 < Int.gcd n d := Int.gcd_pos_iff.2 (Or.inr hd)
  have hdv : (Int.gcd n d : Int) ∣ (d.natAbs : Int) := by
    rw [Int.dvd_natAbs]; exact Int.gcd_dvd_right ..
  constructor
  · unfold nf
    simp only
    obtain ⟨c, hc⟩ := hdv
    rw [hc, Int.mul_ediv_cancel_left _ (by omega)]
    have : 0 < (d.natAbs : Int) := by omega
    rw [hc] at this
    have := Int.pos_of_mul_pos_right this (by omega)
    omega
  · unfold nf
    simp only
    have h1 : Int.gcd (n / (Int.gcd n d : Int)) (d / (Int.gcd n d : Int)) = 1 := Int.gcd_ediv_gcd_ediv_gcd (by omega)
    have e : ((d.natAbs : Int) / (Int.gcd n d : Int)) = Int.sign d * (d / (Int.gcd n d : Int)) := by
      have e1 : (d.natAbs : Int) = d * Int.sign d := (Int.mul_sign_self d).symm
      rw [e1, Int.mul_comm d, Int.mul_ediv_assoc _ (Int.gcd_dvd_right ..)]
    rw [e, Int.gcd_mul_left, h1]
    rcases Int.lt_trichotomy d 0 with h | h | h
    · rw [Int.sign_eq_neg_one_of_neg h]; rfl
    · exact absurd h hd
    · rw [Int.sign_eq_one_of_pos h]; rfl

theorem mkF_ok {n d : Int} (hd : d ≠ 0) {a : Fr} (h : mkF n d = some a) : a.ok := by
  unfold mkF at h
  split at h
  · rename_i hf
    injection h with h
    subst h
    have := nf_ok n d hd
    simp only [Fr.fits, decide_eq_true_eq] at hf
    exact ⟨hf.1, hf.2.1, this.1, hf.2.2, this.2⟩
  · cases h

theorem nf_of_ok {a : Fr} (h : a.ok) : nf a.n a.d = a := by
  obtain ⟨_, _, hd, _, hg⟩ := h
  unfold nf
  rw [hg, Int.sign_eq_one_of_pos (by omega), Int.natAbs_of_nonneg (by omega)]
  simp
theorem mkF_of_ok {a : Fr} (h : a.ok) : mkF a.n a.d = some a := by
  unfold mkF
  rw [nf_of_ok h, if_pos]
  simp only [Fr.fits, decide_eq_true_eq]
  exact ⟨h.1, h.2.1, h.2.2.2.1⟩

/-- a fraction and an error number -/
structure FE where
  n : Int
  d : Int
  e : Int
def FE.of : Option Fr → FE
  | some a => ⟨a.n, a.d, 0⟩
  | none => ⟨0, 0, 6⟩
def FE.err (e : Int) : FE := ⟨0, 0, e⟩

def fadd (a b : Fr) : Option Fr := mkF (a.n * b.d + b.n * a.d) (a.d * b.d)
def fneg (a : Fr) : Fr := ⟨-a.n, a.d⟩
def fsub (a b : Fr) : Option Fr := fadd a (fneg b)
def fmul (a b : Fr) : Option Fr := mkF (a.n * b.n) (a.d * b.d)
def fdiv (a b : Fr) : Option Fr := mkF (a.n * b.d) (a.d * b.n)
theorem fneg_ok {a : Fr} (h : a.ok) : (fneg a).ok := by
  obtain ⟨h1, h2, h3, h4, h5⟩ := h
  exact ⟨by simp only [fneg]; omega, by simp only [fneg]; omega, h3, h4, by simpa [fneg] using h5⟩

/-- what the code computes for a sum, over the least common denominator -/
theorem fadd_lcm (a b : Fr) (ha : a.ok) :
    mkF (a.n * (b.d / (Int.gcd a.d b.d : Int)) + b.n * (a.d / (Int.gcd a.d b.d : Int))) (a.d * (b.d / (Int.gcd a.d b.d : Int))) = fadd a b := by
  have h3 := ha.2.2.1
  have hg : 0 < (Int.gcd a.d b.d : Int) := by have := Int.gcd_pos_iff.2 (Or.inl (show a.d ≠ 0 by omega) : a.d ≠ 0 ∨ b.d ≠ 0); omega
  unfold fadd
  rw [← mkF_scale (Int.gcd a.d b.d : Int) (a.n * (b.d / (Int.gcd a.d b.d : Int)) + b.n * (a.d / (Int.gcd a.d b.d : Int))) _ (by omega)]
  obtain ⟨x, hx⟩ : (Int.gcd a.d b.d : Int) ∣ a.d := Int.gcd_dvd_left ..
  obtain ⟨y, hy⟩ : (Int.gcd a.d b.d : Int) ∣ b.d := Int.gcd_dvd_right ..
  generalize (Int.gcd a.d b.d : Int) = g at *
  have ex : a.d / g = x := by rw [hx, Int.mul_ediv_cancel_left _ (by omega)]
  have ey : b.d / g = y := by rw [hy, Int.mul_ediv_cancel_left _ (by omega)]
  rw [ex, ey, hx, hy]
  congr 1 <;> grind

theorem nf_neg (n d : Int) : nf (-n) (-d) = nf n d := by
  unfold nf
  simp only [Int.gcd_neg, Int.neg_gcd, Int.sign_neg, Int.natAbs_neg]
  congr 1
  rw [Int.neg_ediv_of_dvd (Int.gcd_dvd_left ..), Int.neg_mul_neg]
theorem mkF_neg (n d : Int) : mkF (-n) (-d) = mkF n d := by unfold mkF; rw [nf_neg]
theorem mkF_pos (n d p x y : Int) (hp : 0 < p) (hg : (Int.gcd n d : Int) = p) (hn : n = p * x) (hd : d = p * y) (hy : 0 < y) :
    mkF n d = if -1073741824 ≤ x ∧ x ≤ 1073741824 ∧ y ≤ 1073741824 then some ⟨x, y⟩ else none := by
  have hd0 : 0 < d := by rw [hd]; exact Int.mul_pos hp hy
  have e : nf n d = ⟨x, y⟩ := by
    unfold nf
    rw [hg, Int.sign_eq_one_of_pos hd0, Int.natAbs_of_nonneg (by omega), Int.one_mul]
    congr 1
    · rw [hn, Int.mul_ediv_cancel_left _ (by omega)]
    · rw [hd, Int.mul_ediv_cancel_left _ (by omega)]
  unfold mkF Fr.fits
  rw [e]
  simp only [decide_eq_true_eq]
theorem mkF_negd (n d p x y : Int) (hp : 0 < p) (hg : (Int.gcd n d : Int) = p) (hn : n = p * x) (hd : d = p * y) (hy : y < 0) :
    mkF n d = if -1073741824 ≤ -x ∧ -x ≤ 1073741824 ∧ -y ≤ 1073741824 then some ⟨-x, -y⟩ else none := by
  rw [← mkF_neg]
  exact mkF_pos (-n) (-d) p (-x) (-y) hp (by rw [Int.gcd_neg, Int.neg_gcd]; exact hg) (by rw [hn, Int.mul_neg]) (by rw [hd, Int.mul_neg]) (by omega)
theorem tdiv_exact (n p : Int) (hp : 0 < p) (h : p ∣ n) : ∃ x, n.tdiv p = x ∧ n = p * x ∧ (n.natAbs : Int) = p * (x.natAbs : Int) := by
  obtain ⟨x, rfl⟩ := h
  refine ⟨x, Int.mul_tdiv_cancel_left _ (by omega), rfl, ?_⟩
  rw [Int.natAbs_mul, Int.natCast_mul, Int.natAbs_of_nonneg (a := p) (by omega)]
theorem natAbs_le_of_mul (n p x : Int) (hp : 0 < p) (h : (n.natAbs : Int) = p * (x.natAbs : Int)) : x.natAbs ≤ n.natAbs := by
  have : 1 * (x.natAbs : Int) ≤ p * (x.natAbs : Int) := Int.mul_le_mul_of_nonneg_right (by omega) (by omega)
  omega
theorem tmod_neg_neg (p q : Nat) : (-(p : Int)).tmod (-(q : Int)) = -((p % q : Nat) : Int) := by
  rw [Int.tmod_neg, Int.neg_tmod, ← Int.ofNat_tmod]

/-- the product of two signs, as the code computes it -/
theorem sign_mul (x y : Int) : (if (decide (x < 0) != decide (y < 0)) then -((x.natAbs : Int) * (y.natAbs : Int)) else (x.natAbs : Int) * (y.natAbs : Int)) = x * y := by
  rcases Int.lt_or_le x 0 with hx | hx <;> rcases Int.lt_or_le y 0 with hy | hy
  · rw [show (x.natAbs : Int) = -x by omega, show (y.natAbs : Int) = -y by omega]; simp [hx, hy, Int.neg_mul, Int.mul_neg]
  · rw [show (x.natAbs : Int) = -x by omega, show (y.natAbs : Int) = y by omega]; simp [hx, Int.not_lt.2 hy, Int.neg_mul]
  · rw [show (x.natAbs : Int) = x by omega, show (y.natAbs : Int) = -y by omega]; simp [hy, Int.not_lt.2 hx, Int.mul_neg]
  · rw [show (x.natAbs : Int) = x by omega, show (y.natAbs : Int) = y by omega]; simp [Int.not_lt.2 hy, Int.not_lt.2 hx]
theorem fdiv_sign (a b : Fr) (n : Int) (hn : (if (decide (a.n < 0) != decide (b.n < 0)) then -((a.n.natAbs : Int) * b.d) else (a.n.natAbs : Int) * b.d) = n) : mkF n (a.d * (b.n.natAbs : Int)) = fdiv a b := by
  subst hn
  unfold fdiv
  rcases Int.lt_or_le b.n 0 with hy | hy
  · rw [← mkF_neg (a.n * b.d)]
    rcases Int.lt_or_le a.n 0 with hx | hx
    · rw [show (a.n.natAbs : Int) = -a.n by omega, show (b.n.natAbs : Int) = -b.n by omega]; simp [hx, hy, Int.neg_mul, Int.mul_neg]
    · rw [show (a.n.natAbs : Int) = a.n by omega, show (b.n.natAbs : Int) = -b.n by omega]; simp [hy, Int.not_lt.2 hx, Int.mul_neg]
  · rcases Int.lt_or_le a.n 0 with hx | hx
    · rw [show (a.n.natAbs : Int) = -a.n by omega, show (b.n.natAbs : Int) = b.n by omega]; simp [hx, Int.not_lt.2 hy, Int.neg_mul]
    · rw [show (a.n.natAbs : Int) = a.n by omega, show (b.n.natAbs : Int) = b.n by omega]; simp [Int.not_lt.2 hx, Int.not_lt.2 hy]
/-- how two fractions compare, and the error -/
def cmpN (a b : Fr) : Int := if a.n * b.d < b.n * a.d then -1 else if a.n * b.d > b.n * a.d then 1 else 0
theorem mul_bd (a b : Int) (h1 : -1073741824 ≤ a) (h2 : a ≤ 1073741824) (h3 : 0 ≤ b) (h4 : b ≤ 1073741824) : -1152921504606846976 ≤ a * b ∧ a * b ≤ 1152921504606846976 := by
  have e1 : a * b ≤ 1073741824 * b := Int.mul_le_mul_of_nonneg_right h2 h3
  have e2 : -1073741824 * b ≤ a * b := Int.mul_le_mul_of_nonneg_right h1 h3
  omega
theorem mul_bd' (a b : Int) (h1 : -1073741824 ≤ a) (h2 : a ≤ 1073741824) (h3 : -1073741824 ≤ b) (h4 : b ≤ 1073741824) : -1152921504606846976 ≤ a * b ∧ a * b ≤ 1152921504606846976 := by
  rcases Int.le_total 0 b with h | h
  · exact mul_bd a b h1 h2 h h4
  · have := mul_bd a (-b) h1 h2 (by omega) (by omega)
    rw [Int.mul_neg] at this
    omega
theorem div_bd (b g : Int) (h1 : 1 ≤ b) (hg : 0 < g) (hd : g ∣ b) : 1 ≤ b / g ∧ b / g ≤ b := by
  obtain ⟨c, rfl⟩ := hd
  rw [Int.mul_ediv_cancel_left _ (by omega)]
  have hc : 0 < c := Int.pos_of_mul_pos_right (by omega) hg
  refine ⟨by omega, ?_⟩
  have : 1 * c ≤ g * c := Int.mul_le_mul_of_nonneg_right (by omega) (by omega)
  omega

def addE (a b : Fr) : FE := if a.okB && b.okB then FE.of (fadd a b) else FE.err 1
def subE (a b : Fr) : FE := if a.okB && b.okB then FE.of (fsub a b) else FE.err 1
def mulE (a b : Fr) : FE := if a.okB && b.okB then FE.of (fmul a b) else FE.err 1
def divE (a b : Fr) : FE := if a.okB && b.okB then (if b.n = 0 then FE.err 7 else FE.of (fdiv a b)) else FE.err 1

end Go.Proofs.Ytmhbfoaecebobaa
end
section
namespace Go.Proofs.Ytmhbfoaecebobaa
set_option linter.unusedSimpArgs false
set_option linter.unusedVariables false
open Go.RowKit

set_option maxHeartbeats 400000 in
theorem abs_any (a : Int) (w : World) (h1 : -4611686018427387904 ≤ a) (h2 : a ≤ 4611686018427387904) :
    Calls Try.prog 82 #[.int .i64 a] w fun e w' => e = .returned (.int .u64 (a.natAbs : Int)) ∧ w = w' := by
  by_cases h : a < 0
  · go_enter Try.func82, Try.ntmps82
    go_wp2
    go_ret
    exact ⟨by simp [IntKind.wrap_u64]; omega, rfl⟩
  · go_enter Try.func82, Try.ntmps82
    go_wp2
    go_ret
    exact ⟨by simp; omega, rfl⟩

theorem fit_nf (neg : Bool) (num den : Nat) (hd : 0 < den) : nf (if neg then -(num : Int) else num) den = ⟨if neg then -((num / Nat.gcd num den : Nat) : Int) else ((num / Nat.gcd num den : Nat) : Int), ((den / Nat.gcd num den : Nat) : Int)⟩ := by
  have hs : Int.sign (den : Int) = 1 := Int.sign_eq_one_of_pos (by omega)
  cases neg
  · simp [nf, hs, Int.gcd]
  · simp only [nf, hs, Int.gcd, if_true, Int.natAbs_neg, Int.natAbs_natCast, Int.one_mul]
    congr 1
    exact Int.neg_ediv_of_dvd (by rw [Int.natCast_dvd_natCast]; exact Nat.gcd_dvd_left ..)

theorem mkF_fit (neg : Bool) (num den x y : Nat) (hd : 0 < den) (hx : num / Nat.gcd num den = x) (hy : den / Nat.gcd num den = y) :
    mkF (if neg then -(num : Int) else num) den = if x ≤ 1073741824 ∧ y ≤ 1073741824 then some ⟨if neg then -(x : Int) else x, y⟩ else none := by
  unfold mkF
  rw [fit_nf neg num den hd, hx, hy]
  by_cases h : x ≤ 1073741824 ∧ y ≤ 1073741824
  · rw [if_pos h, if_pos]
    simp only [Fr.fits, decide_eq_true_eq]
    cases neg <;> simp <;> omega
  · rw [if_neg h, if_neg]
    simp only [Fr.fits, decide_eq_true_eq]
    cases neg <;> simp <;> omega

set_option maxHeartbeats 1000000 in
theorem fit_any (neg : Bool) (num den : Nat) (w : World) (hd : 0 < den) (h1 : num ≤ 9223372036854775808) (h2 : den ≤ 9223372036854775808) :
    Calls Try.prog 81 #[.bool neg, .int .u64 num, .int .u64 den] w fun e w' => e = .returned (.tuple #[.agg #[.int .i64 (FE.of (mkF (if neg then -(num : Int) else num) den)).n, .int .i64 (FE.of (mkF (if neg then -(num : Int) else num) den)).d], .int .i64 (FE.of (mkF (if neg then -(num : Int) else num) den)).e]) ∧ Below w.heap.size w w' := by
  refine calls_cps fun R hR => ?_
  have HR := Lib.hid hR
  clear hR
  go_enter Try.func81, Try.ntmps81
  go_wp2
  go_loopw [8, 9] (fun x y wr => ∃ p q : Nat, p ≤ 9223372036854775808 ∧ q ≤ 9223372036854775808 ∧ x = .int .u64 p ∧ y = .int .u64 q ∧ Nat.gcd p q = Nat.gcd num den ∧ ∃ n, wr = (w.alloc (.cells #[.int .i64 0, .int .i64 0] 39)).drewN n) (fun _ y _ => (intOf y).toNat)
  case atStart => exact ⟨num, den, h1, h2, rfl, rfl, rfl, 0, rfl⟩
  case round =>
    obtain ⟨p, q, hp', hq', rfl, rfl, hg, n, rfl⟩ := hrel
    by_cases h0 : q = 0
    · subst h0
      simp only [Nat.gcd_zero_right] at hg
      have hp0 : 0 < p := by rw [hg]; exact Nat.gcd_pos_of_pos_right _ hd
      obtain ⟨x, hx⟩ : ∃ x, num / p = x := ⟨_, rfl⟩
      obtain ⟨y, hy⟩ : ∃ y, den / p = y := ⟨_, rfl⟩
      have hx1 : x ≤ 9223372036854775808 := by have := Nat.div_le_self num p; omega
      have hy1 : y ≤ 9223372036854775808 := by have := Nat.div_le_self den p; omega
      have HF := Lib.hid (mkF_fit neg num den x y hd (by rw [← hg]; exact hx) (by rw [← hg]; exact hy))
      have wx : IntKind.u64.wrap ((num : Int) / (p : Int)) = (x : Int) := by rw [IntKind.wrap_u64, ← Int.natCast_ediv, hx]; omega
      have wy : IntKind.u64.wrap ((den : Int) / (p : Int)) = (y : Int) := by rw [IntKind.wrap_u64, ← Int.natCast_ediv, hy]; omega
      have hne : (((p : Nat) : Int) == 0) = false := by simp; omega
      clear hg hx hy
      go_wp2
      go_quiet (fail)
      clear wx wy
      by_cases hbx : (1073741824 : Int) < x
      · go_wp2
        refine bodyPost_ret (v := .tuple #[.agg #[.int .i64 0, .int .i64 0], .int .i64 6]) (by simp [results, Try.results81, go_sem]) rfl (HR.out _ _ ⟨?_, ?_⟩)
        · rw [HF.out, if_neg (by omega)]; rfl
        · (repeat (first | exact Below.refl _ _ | assumption | refine Below.setCell ?_ (by first | omega | (simp; done) | (simp; omega)) _ | refine Below.alloc ?_ (by first | omega | (simp; done) | (simp; omega)) _ | refine Below.drew ?_ | refine below_drewN ?_ _))
      · by_cases hby : (1073741824 : Int) < y
        · have hbx' : decide ((1073741824 : Int) < x) = false := by simpa using hbx
          go_wp2
          refine bodyPost_ret (v := .tuple #[.agg #[.int .i64 0, .int .i64 0], .int .i64 6]) (by simp [results, Try.results81, go_sem]) rfl (HR.out _ _ ⟨?_, ?_⟩)
          · rw [HF.out, if_neg (by omega)]; rfl
          · (repeat (first | exact Below.refl _ _ | assumption | refine Below.setCell ?_ (by first | omega | (simp; done) | (simp; omega)) _ | refine Below.alloc ?_ (by first | omega | (simp; done) | (simp; omega)) _ | refine Below.drew ?_ | refine below_drewN ?_ _))
        · have hbx' : decide ((1073741824 : Int) < x) = false := by simpa using hbx
          have hby' : decide ((1073741824 : Int) < y) = false := by simpa using hby
          cases neg
          · go_wp2
            refine bodyPost_ret (v := .tuple #[.agg #[.int .i64 x, .int .i64 y], .int .i64 0]) (by simp [results, Try.results81, go_sem]) rfl (HR.out _ _ ⟨?_, ?_⟩)
            · rw [HF.out, if_pos (by omega)]; rfl
            · (repeat (first | exact Below.refl _ _ | assumption | refine Below.setCell ?_ (by first | omega | (simp; done) | (simp; omega)) _ | refine Below.alloc ?_ (by first | omega | (simp; done) | (simp; omega)) _ | refine Below.drew ?_ | refine below_drewN ?_ _))
          · go_wp2
            refine bodyPost_ret (v := .tuple #[.agg #[.int .i64 (-x), .int .i64 y], .int .i64 0]) (by simp [results, Try.results81, go_sem]) rfl (HR.out _ _ ⟨?_, ?_⟩)
            · rw [HF.out, if_pos (by omega)]; rfl
            · (repeat (first | exact Below.refl _ _ | assumption | refine Below.setCell ?_ (by first | omega | (simp; done) | (simp; omega)) _ | refine Below.alloc ?_ (by first | omega | (simp; done) | (simp; omega)) _ | refine Below.drew ?_ | refine below_drewN ?_ _))
    · have HG := Lib.hid hg
      clear hg
      have hne : (((q : Nat) : Int) != 0) = true := by simp; omega
      have hne2 : (((q : Nat) : Int) == 0) = false := by simp; omega
      go_wp2
      go_quiet (fail)
      go_wp2
      have hlt : p % q < q := Nat.mod_lt _ (by omega)
      go_roundw
      case rel => exact ⟨q, p % q, hq', by omega, rfl, by rw [Int.natCast_emod], by rw [← HG.out, Nat.gcd_comm q, ← Nat.gcd_rec, Nat.gcd_comm], n + nq, by rw [World.drewN_drewN]⟩
      case measure => simp only [intOf]; omega

end Go.Proofs.Ytmhbfoaecebobaa
end
section
namespace Go.Proofs.Ytmhbfoaecebobaa
set_option linter.unusedSimpArgs false
set_option linter.unusedVariables false
open Go.RowKit

def makeE (n d : Int) : FE := if d = 0 then FE.err 7 else FE.of (mkF n d)

set_option maxHeartbeats 2000000 in
theorem make_any (n d : Int) (w : World) (hn : -4611686018427387904 ≤ n ∧ n ≤ 4611686018427387904) (hd : -4611686018427387904 ≤ d ∧ d ≤ 4611686018427387904) :
    Calls Try.prog 40 #[.int .i64 n, .int .i64 d] w fun e w' => e = .returned (.tuple #[.agg #[.int .i64 (makeE n d).n, .int .i64 (makeE n d).d], .int .i64 (makeE n d).e]) ∧ Below w.heap.size w w' := by
  refine calls_cps fun R hR => ?_
  have HR := Lib.hid hR
  clear hR
  by_cases h0 : d = 0
  · subst h0
    go_enter Try.func40, Try.ntmps40
    go_wp2
    refine bodyPost_ret (v := .tuple #[.agg #[.int .i64 0, .int .i64 0], .int .i64 7]) (by simp [results, Try.results40, go_sem]) rfl (HR.out _ _ ⟨?_, ?_⟩)
    · simp [makeE, FE.err]
    · (repeat (first | exact Below.refl _ _ | assumption | refine Below.setCell ?_ (by first | omega | (simp; done) | (simp; omega)) _ | refine Below.alloc ?_ (by first | omega | (simp; done) | (simp; omega)) _ | refine Below.drew ?_ | refine below_drewN ?_ _))
  · have hd0 : (d == 0) = false := by simpa using h0
    by_cases sn : 0 < n <;> by_cases sd : 0 < d
    all_goals
      go_enter Try.func40, Try.ntmps40
      go_wp2
      go_loopw [6, 7] (fun x y wr => ∃ p q : Nat, p ≤ 4611686018427387904 ∧ q ≤ 4611686018427387904 ∧ x = .int .i64 (-p) ∧ y = .int .i64 (-q) ∧ Nat.gcd p q = Int.gcd n d ∧ ∃ k, wr = (w.alloc (.cells #[.int .i64 0, .int .i64 0] 39)).drewN k) (fun _ y _ => (intOf y).natAbs)
      case atStart => exact ⟨n.natAbs, d.natAbs, by omega, by omega, congrArg _ (by omega), congrArg _ (by omega), rfl, 0, rfl⟩
      case round =>
        obtain ⟨p, q, hp, hq, rfl, rfl, hg, k, rfl⟩ := hrel
        by_cases hq0 : q = 0
        · subst hq0
          simp only [Nat.gcd_zero_right] at hg
          have hgp : 0 < Int.gcd n d := Int.gcd_pos_iff.2 (Or.inr h0)
          have hp0 : 0 < (p : Int) := by omega
          obtain ⟨x, hx, hnx, hxa⟩ := tdiv_exact n p hp0 (by rw [hg]; exact Int.gcd_dvd_left ..)
          obtain ⟨y, hy, hdy, hya⟩ := tdiv_exact d p hp0 (by rw [hg]; exact Int.gcd_dvd_right ..)
          have hx1 := natAbs_le_of_mul n p x hp0 hxa
          have hy1 := natAbs_le_of_mul d p y hp0 hya
          have hy0 : y ≠ 0 := by intro e; rw [e] at hdy; simp at hdy; exact h0 hdy
          have bx : -4611686018427387904 ≤ x ∧ x ≤ 4611686018427387904 := by omega
          have bY : -4611686018427387904 ≤ y ∧ y ≤ 4611686018427387904 := by omega
          have hpe : ((p : Int) == 0) = false := by simp; omega
          have hpe2 : (-(p : Int) == 0) = false := by simp; omega
          have hpe3 : ¬ p = 0 := by omega
          rcases Int.lt_or_lt_of_ne hy0 with hyn | hyp
          · have HM := Lib.hid (mkF_negd n d p x y hp0 (by omega) hnx hdy hyn)
            have HG := Lib.hid hg
            clear hg hnx hdy hxa hya hx1 hy1 hgp hy0
            by_cases hf : -1073741824 ≤ -x ∧ -x ≤ 1073741824 ∧ -y ≤ 1073741824
            · obtain ⟨f1, f2, f3⟩ := hf
              have HM2 : Hid (mkF n d = some ⟨-x, -y⟩) := Lib.hid (by rw [HM.out, if_pos ⟨f1, f2, f3⟩])
              go_wp2
              refine bodyPost_ret (v := .tuple #[.agg #[.int .i64 (-x), .int .i64 (-y)], .int .i64 0]) (by simp [results, Try.results40, go_sem]) rfl (HR.out _ _ ⟨?_, ?_⟩)
              · unfold makeE; rw [if_neg h0, HM2.out]; rfl
              · (repeat (first | exact Below.refl _ _ | assumption | refine Below.setCell ?_ (by first | omega | (simp; done) | (simp; omega)) _ | refine Below.alloc ?_ (by first | omega | (simp; done) | (simp; omega)) _ | refine Below.drew ?_ | refine below_drewN ?_ _))
            · have HM2 : Hid (mkF n d = none) := Lib.hid (by rw [HM.out, if_neg hf])
              go_wp2
              all_goals
                refine bodyPost_ret (v := .tuple #[.agg #[.int .i64 0, .int .i64 0], .int .i64 6]) (by simp [results, Try.results40, go_sem]) rfl (HR.out _ _ ⟨?_, ?_⟩)
                · unfold makeE; rw [if_neg h0, HM2.out]; rfl
                · (repeat (first | exact Below.refl _ _ | assumption | refine Below.setCell ?_ (by first | omega | (simp; done) | (simp; omega)) _ | refine Below.alloc ?_ (by first | omega | (simp; done) | (simp; omega)) _ | refine Below.drew ?_ | refine below_drewN ?_ _))
          · have HM := Lib.hid (mkF_pos n d p x y hp0 (by omega) hnx hdy hyp)
            have HG := Lib.hid hg
            clear hg hnx hdy hxa hya hx1 hy1 hgp hy0
            by_cases hf : -1073741824 ≤ x ∧ x ≤ 1073741824 ∧ y ≤ 1073741824
            · obtain ⟨f1, f2, f3⟩ := hf
              have HM2 : Hid (mkF n d = some ⟨x, y⟩) := Lib.hid (by rw [HM.out, if_pos ⟨f1, f2, f3⟩])
              go_wp2
              refine bodyPost_ret (v := .tuple #[.agg #[.int .i64 (x), .int .i64 (y)], .int .i64 0]) (by simp [results, Try.results40, go_sem]) rfl (HR.out _ _ ⟨?_, ?_⟩)
              · unfold makeE; rw [if_neg h0, HM2.out]; rfl
              · (repeat (first | exact Below.refl _ _ | assumption | refine Below.setCell ?_ (by first | omega | (simp; done) | (simp; omega)) _ | refine Below.alloc ?_ (by first | omega | (simp; done) | (simp; omega)) _ | refine Below.drew ?_ | refine below_drewN ?_ _))
            · have HM2 : Hid (mkF n d = none) := Lib.hid (by rw [HM.out, if_neg hf])
              go_wp2
              all_goals
                refine bodyPost_ret (v := .tuple #[.agg #[.int .i64 0, .int .i64 0], .int .i64 6]) (by simp [results, Try.results40, go_sem]) rfl (HR.out _ _ ⟨?_, ?_⟩)
                · unfold makeE; rw [if_neg h0, HM2.out]; rfl
                · (repeat (first | exact Below.refl _ _ | assumption | refine Below.setCell ?_ (by first | omega | (simp; done) | (simp; omega)) _ | refine Below.alloc ?_ (by first | omega | (simp; done) | (simp; omega)) _ | refine Below.drew ?_ | refine below_drewN ?_ _))
        · have HG := Lib.hid hg
          clear hg
          have b1 : (-(q : Int) != 0) = true := by simp; omega
          have b2 : (-(q : Int) == 0) = false := by simp; omega
          have ht := tmod_neg_neg p q
          go_wp2
          go_quiet (fail)
          go_wp2
          have hlt : p % q < q := Nat.mod_lt _ (by omega)
          go_roundw
          case rel => exact ⟨q, p % q, hq, by omega, rfl, by first | rfl | (congr 1; omega), by rw [← HG.out, Nat.gcd_comm q, ← Nat.gcd_rec, Nat.gcd_comm], k + nq, by rw [World.drewN_drewN]⟩
          case measure => simp only [intOf]; omega

end Go.Proofs.Ytmhbfoaecebobaa
end
