/-
  The walk of casebooklaw41's awake. Conditions: none.
-/
import Derived.Test.YtmhbfoaecebobaaFit
import Derived.Test.YtmhbfoaecebobaaBalP
import Derived.Test.YtmhbfoaecebobaaEq
namespace Go.Proofs.Ytmhbfoaecebobaa
set_option linter.unusedSimpArgs false
set_option linter.unusedVariables false
open Go.RowKit

theorem Rd.of_cells {α : Type} {size : Nat} {enc : α → List Value} {W : World} {b : Nat} {l : List α} (he : ∀ a, (enc a).length = size) (hm : l.length ≤ maxLen) (h : ∀ j u, (l.flatMap enc)[j]? = some u → W.cell? ⟨b, j, none⟩ = some u) (n : Nat) (hn : n = l.length) (hi : Nat) (hb : b < hi) :
    Rd size enc W 0 hi (.slice (some ⟨b, 0, none⟩) n n) l := by
  subst hn
  exact ⟨flatMap_len he l, _, _, rfl, Nat.le_refl _, hm, fun _ => ⟨b, 0, rfl, Nat.zero_le _, hb, fun j u hu => by rw [Nat.zero_add]; exact h j u hu⟩⟩
theorem get9 {x0 x1 x2 x3 x4 x5 x6 x7 x8 : Value} {P : Nat → Value → Prop} (h0 : P 0 x0) (h1 : P 1 x1) (h2 : P 2 x2) (h3 : P 3 x3) (h4 : P 4 x4) (h5 : P 5 x5) (h6 : P 6 x6) (h7 : P 7 x7) (h8 : P 8 x8) : ∀ j u, [x0, x1, x2, x3, x4, x5, x6, x7, x8][j]? = some u → P j u := by
  intro j u hu
  match j, hu with
  | 0, hu => simp at hu; exact hu ▸ h0
  | 1, hu => simp at hu; exact hu ▸ h1
  | 2, hu => simp at hu; exact hu ▸ h2
  | 3, hu => simp at hu; exact hu ▸ h3
  | 4, hu => simp at hu; exact hu ▸ h4
  | 5, hu => simp at hu; exact hu ▸ h5
  | 6, hu => simp at hu; exact hu ▸ h6
  | 7, hu => simp at hu; exact hu ▸ h7
  | 8, hu => simp at hu; exact hu ▸ h8
  | j + 9, hu => simp at hu
theorem get1 {x0 : Value} {P : Nat → Value → Prop} (h0 : P 0 x0) : ∀ j u, [x0][j]? = some u → P j u := by
  intro j u hu
  match j, hu with
  | 0, hu => simp at hu; exact hu ▸ h0
  | j + 1, hu => simp at hu
theorem get2 {x0 x1 : Value} {P : Nat → Value → Prop} (h0 : P 0 x0) (h1 : P 1 x1) : ∀ j u, [x0, x1][j]? = some u → P j u := by
  intro j u hu
  match j, hu with
  | 0, hu => simp at hu; exact hu ▸ h0
  | 1, hu => simp at hu; exact hu ▸ h1
  | j + 2, hu => simp at hu
theorem rdI_one {W : World} {b hi : Nat} {x : Int} (h : W.cell? ⟨b, 0, none⟩ = some (.int .i64 x)) (hb : b < hi) : RdI W 0 hi (.slice (some ⟨b, 0, none⟩) 1 1) [x] :=
  Rd.of_cells (enc := encI) (l := [x]) (fun _ => rfl) (by simp [maxLen]) (get1 (P := fun j u => W.cell? ⟨b, j, none⟩ = some u) h) 1 rfl hi hb

theorem RdS.lit1 (W : World) (a : ByteArray) (t : TypeId) : RdS (W.alloc (.cells #[.string a] t)) 0 (W.heap.size + 1) (.slice (some ⟨W.heap.size, 0, none⟩) 1 1) [a] := Rd.lit W t [a] _ 1 rfl rfl (by decide) (fun _ => rfl)
theorem RdS.lit2 (W : World) (a b : ByteArray) (t : TypeId) : RdS (W.alloc (.cells #[.string a, .string b] t)) 0 (W.heap.size + 1) (.slice (some ⟨W.heap.size, 0, none⟩) 2 2) [a, b] := Rd.lit W t [a, b] _ 2 rfl rfl (by decide) (fun _ => rfl)
theorem get6 {x0 x1 x2 x3 x4 x5 : Value} {P : Nat → Value → Prop} (h0 : P 0 x0) (h1 : P 1 x1) (h2 : P 2 x2) (h3 : P 3 x3) (h4 : P 4 x4) (h5 : P 5 x5) : ∀ j u, [x0, x1, x2, x3, x4, x5][j]? = some u → P j u := by
  intro j u hu
  match j, hu with
  | 0, hu => simp at hu; exact hu ▸ h0
  | 1, hu => simp at hu; exact hu ▸ h1
  | 2, hu => simp at hu; exact hu ▸ h2
  | 3, hu => simp at hu; exact hu ▸ h3
  | 4, hu => simp at hu; exact hu ▸ h4
  | 5, hu => simp at hu; exact hu ▸ h5
  | j + 6, hu => simp at hu
theorem RdS.lit2E (W : World) (a b : ByteArray) (t : TypeId) (g hi : Nat) (hg : W.heap.size = g) (hh : g + 1 ≤ hi) : RdS (W.alloc (.cells #[.string a, .string b] t)) 0 hi (.slice (some ⟨g, 0, none⟩) 2 2) [a, b] := by
  subst hg
  exact (RdS.lit2 W a b t).mono (Nat.le_refl _) hh
theorem RdS.lit1E (W : World) (a : ByteArray) (t : TypeId) (g hi : Nat) (hg : W.heap.size = g) (hh : g + 1 ≤ hi) : RdS (W.alloc (.cells #[.string a] t)) 0 hi (.slice (some ⟨g, 0, none⟩) 1 1) [a] := by
  subst hg
  exact (RdS.lit1 W a t).mono (Nat.le_refl _) hh
theorem RdCn.lit1E (W : World) (a : Cnt) (t : TypeId) (g hi : Nat) (hg : W.heap.size = g) (hh : g + 1 ≤ hi) : RdCn (W.alloc (.cells #[.int .i64 a.p, .int .i64 a.c, .int .i64 a.m, .int .i64 a.r] t)) 0 hi (.slice (some ⟨g, 0, none⟩) 1 1) [a] := by
  subst hg
  exact (Rd.lit W t [a] _ 1 rfl rfl (by decide) (fun _ => rfl)).mono (Nat.le_refl _) hh
def exTr : List Tr := [⟨⟨#[97]⟩, [0], [1]⟩, ⟨⟨#[98]⟩, [1], [2]⟩]
def exNet : Net := ⟨3, exTr, 0, 2⟩
theorem ex_wf : Wf exNet := by
  have h0 : Rch exNet false 0 0 := .start
  have h1 : Rch exNet false 0 1 := .step (i := 0) (p := 0) (q := 1) (by decide) (by decide) h0 (by decide)
  have h2 : Rch exNet false 0 2 := .step (i := 1) (p := 1) (q := 2) (by decide) (by decide) h1 (by decide)
  have k2 : Rch exNet true 2 2 := .start
  have k1 : Rch exNet true 2 1 := .step (i := 1) (p := 2) (q := 1) (by decide) (by decide) k2 (by decide)
  have k0 : Rch exNet true 2 0 := .step (i := 0) (p := 1) (q := 0) (by decide) (by decide) k1 (by decide)
  refine ⟨by decide +kernel, by decide, ?_, ?_, ?_⟩
  · intro i hi
    match i, hi with
    | 0, _ => exact ⟨by decide, by decide⟩
    | 1, _ => exact ⟨by decide, by decide⟩
    | i + 2, hi => exact absurd hi (by simp [exNet, exTr])
  · intro back p hp
    match p, hp with
    | 0, _ => cases back; exact h0; exact k0
    | 1, _ => cases back; exact h1; exact k1
    | 2, _ => cases back; exact h2; exact k2
    | p + 3, hp => exact absurd hp (by simp [exNet])
  · intro back i hi
    match i, hi with
    | 0, _ => cases back; exact ⟨0, by decide, h0⟩; exact ⟨1, by decide, k1⟩
    | 1, _ => cases back; exact ⟨1, by decide, h1⟩; exact ⟨2, by decide, k2⟩
    | i + 2, hi => exact absurd hi (by simp [exNet, exTr])
theorem ex_play1 : PlayE exNet [⟨#[97]⟩, ⟨#[98]⟩] = (⟨3, 3, 0, 0⟩, [0, 1], 0) := by
  have h : endE exNet (playL exNet [⟨#[97]⟩, ⟨#[98]⟩] (pl0 exNet)) = (⟨3, 3, 0, 0⟩, [0, 1], 0) := by decide +kernel
  have ha : allN [⟨#[97]⟩, ⟨#[98]⟩] = true := by decide +kernel
  unfold PlayE
  rw [wfB_true ex_wf, ha, if_neg (by decide), if_neg (by decide), h]
theorem ex_play2 : ∃ run, PlayE exNet [⟨#[98]⟩] = (⟨2, 2, 1, 1⟩, run, 0) := by
  have h : endE exNet (playL exNet [⟨#[98]⟩] (pl0 exNet)) = (⟨2, 2, 1, 1⟩, [1], 0) := by decide +kernel
  have ha : allN [⟨#[98]⟩] = true := by decide +kernel
  refine ⟨[1], ?_⟩
  unfold PlayE
  rw [wfB_true ex_wf, ha, if_neg (by decide), if_neg (by decide), h]
theorem ex_fit : FitE [⟨2, 2, 1, 1⟩] = ⟨1, 2, 0⟩ := by
  have h : (fitF ⟨2, 2, 1, 1⟩).n = 1 ∧ (fitF ⟨2, 2, 1, 1⟩).d = 2 ∧ (fitF ⟨2, 2, 1, 1⟩).e = 0 := by decide +kernel
  have h2 : FitE [⟨2, 2, 1, 1⟩] = fitF ⟨2, 2, 1, 1⟩ := by unfold FitE; rw [if_neg (by decide)]; rfl
  rw [h2]
  obtain ⟨h1, h3, h4⟩ := h
  generalize fitF ⟨2, 2, 1, 1⟩ = x at *
  obtain ⟨a, b, c⟩ := x
  simp only at h1 h3 h4
  rw [h1, h3, h4]
theorem play_ex1 (W : World) (vt v : Value) (lo hi lo' hi' : Nat) (hv : RdT W lo hi vt exTr) (hw : RdS W lo' hi' v [⟨#[97]⟩, ⟨#[98]⟩]) (h1 : hi ≤ W.heap.size) (h2 : hi' ≤ W.heap.size) :
    Calls Try.prog 10 #[.agg #[.int .i64 3, vt, .int .i64 0, .int .i64 2], v] W fun e w' => ∃ A k, e = .returned (.tuple #[.agg #[.int .i64 3, .int .i64 3, .int .i64 0, .int .i64 0], .slice A 2 k, .int .i64 0]) ∧ RdI w' W.heap.size w'.heap.size (.slice A 2 k) [0, 1] ∧ Below W.heap.size W w' := by
  have h := Play_any exNet [⟨#[97]⟩, ⟨#[98]⟩] vt v lo hi lo' hi' W hv hw h1 h2
  rw [ex_play1] at h
  exact h
theorem play_ex2 (W : World) (vt v : Value) (lo hi lo' hi' : Nat) (hv : RdT W lo hi vt exTr) (hw : RdS W lo' hi' v [⟨#[98]⟩]) (h1 : hi ≤ W.heap.size) (h2 : hi' ≤ W.heap.size) :
    Calls Try.prog 10 #[.agg #[.int .i64 3, vt, .int .i64 0, .int .i64 2], v] W fun e w' => ∃ A n k, e = .returned (.tuple #[.agg #[.int .i64 2, .int .i64 2, .int .i64 1, .int .i64 1], .slice A n k, .int .i64 0]) ∧ Below W.heap.size W w' := by
  have h := Play_any exNet [⟨#[98]⟩] vt v lo hi lo' hi' W hv hw h1 h2
  obtain ⟨run, hr⟩ := ex_play2
  rw [hr] at h
  refine h.mono ?_
  rintro e w' ⟨A, k, h1, _, h3⟩
  exact ⟨A, run.length, k, h1, h3⟩
theorem fit_ex (W : World) (v : Value) (lo hi : Nat) (hv : RdCn W lo hi v [⟨2, 2, 1, 1⟩]) (h1 : hi ≤ W.heap.size) :
    Calls Try.prog 13 #[v] W fun e w' => e = .returned (.tuple #[.agg #[.int .i64 1, .int .i64 2], .int .i64 0]) ∧ Below W.heap.size W w' := by
  have h := Fitness_any [⟨2, 2, 1, 1⟩] lo hi v W hv h1
  rw [ex_fit] at h
  exact h
theorem exRdT {W : World} {g hi : Nat} (hi6 : g + 4 < hi)
    (h0 : W.cell? ⟨g, 0, none⟩ = some (.int .i64 0)) (h1 : W.cell? ⟨g + 1, 0, none⟩ = some (.int .i64 1)) (h2 : W.cell? ⟨g + 2, 0, none⟩ = some (.int .i64 1)) (h3 : W.cell? ⟨g + 3, 0, none⟩ = some (.int .i64 2))
    (c0 : W.cell? ⟨g + 4, 0, none⟩ = some (.string ⟨#[97]⟩)) (c1 : W.cell? ⟨g + 4, 1, none⟩ = some (.slice (some ⟨g, 0, none⟩) 1 1)) (c2 : W.cell? ⟨g + 4, 2, none⟩ = some (.slice (some ⟨g + 1, 0, none⟩) 1 1))
    (c3 : W.cell? ⟨g + 4, 3, none⟩ = some (.string ⟨#[98]⟩)) (c4 : W.cell? ⟨g + 4, 4, none⟩ = some (.slice (some ⟨g + 2, 0, none⟩) 1 1)) (c5 : W.cell? ⟨g + 4, 5, none⟩ = some (.slice (some ⟨g + 3, 0, none⟩) 1 1)) :
    RdT W 0 hi (.slice (some ⟨g + 4, 0, none⟩) 2 2) exTr := by
  refine ⟨[⟨⟨#[97]⟩, .slice (some ⟨g, 0, none⟩) 1 1, .slice (some ⟨g + 1, 0, none⟩) 1 1⟩, ⟨⟨#[98]⟩, .slice (some ⟨g + 2, 0, none⟩) 1 1, .slice (some ⟨g + 3, 0, none⟩) 1 1⟩], ?_, rfl, ?_⟩
  · exact Rd.of_cells (enc := encV) (l := [_, _]) (fun _ => rfl) (by simp [maxLen]) (get6 (P := fun j u => W.cell? ⟨g + 4, j, none⟩ = some u) c0 c1 c2 c3 c4 c5) 2 rfl hi hi6
  · intro k hk
    match k, hk with
    | 0, _ => exact ⟨rfl, rdI_one h0 (by omega), rdI_one h1 (by omega)⟩
    | 1, _ => exact ⟨rfl, rdI_one h2 (by omega), rdI_one h3 (by omega)⟩
    | k + 2, hk => exact absurd hk (by simp [exTr])
set_option maxRecDepth 100000 in
set_option maxHeartbeats 4000000 in
theorem exMem (w : World) : Mem [Loc.rdT 0 (w.heap.size + 5) (.slice (some ⟨w.heap.size + 4, 0, none⟩) 2 2) exTr, Loc.k4 (w.heap.size + 5) (.int .i64 3) (.slice (some ⟨w.heap.size + 4, 0, none⟩) 2 2) (.int .i64 0) (.int .i64 2), Loc.bl w.heap.size w]
    ((((((w.alloc (Obj.cells #[Value.int IntKind.i64 0] 3)).alloc (Obj.cells #[Value.int IntKind.i64 1] 3)).alloc
                              (Obj.cells #[Value.int IntKind.i64 1] 3)).alloc
                          (Obj.cells #[Value.int IntKind.i64 2] 3)).alloc
                  (Obj.cells
                    #[Value.string { data := #[97] }, Value.slice (some { block := w.heap.size, off := 0 }) 1 1,
                      Value.slice (some { block := w.heap.size + 1, off := 0 }) 1 1, Value.string { data := #[98] },
                      Value.slice (some { block := w.heap.size + 1 + 1, off := 0 }) 1 1,
                      Value.slice (some { block := w.heap.size + 1 + 1 + 1, off := 0 }) 1 1]
                    46)).alloc
              (Obj.cells
                #[Value.int IntKind.i64 3,
                  Value.slice (some { block := w.heap.size + 1 + 1 + 1 + 1, off := 0 }) 2 2,
                  Value.int IntKind.i64 0, Value.int IntKind.i64 2]
                24)) := by
  refine ⟨exRdT (by omega) ?_ ?_ ?_ ?_ ?_ ?_ ?_ ?_ ?_ ?_, ⟨?_, ?_, ?_, ?_, ?_⟩, ⟨?_, ?_⟩, True.intro⟩
  all_goals first
    | (simp [go_sem]; done)
    | (simp [go_sem]; omega)
    | (repeat (first | exact Below.refl _ _ | assumption | refine Below.setCell ?_ (by first | omega | (simp; done) | (simp; omega)) _ | refine Below.alloc ?_ (by first | omega | (simp; done) | (simp; omega)) _ | refine Below.drew ?_ | refine below_drewN ?_ _))

set_option maxRecDepth 100000 in
set_option maxHeartbeats 4000000 in
theorem awake_any (w : World) :
    Calls Try.prog 8 #[] w fun e w' => e = .returned (.bool true) ∧ Below w.heap.size w w' := by
  refine calls_cps fun R hR => ?_
  have HR := Lib.hid hR
  clear hR
  go_enter Try.func8, Try.ntmps8
  have M := Lib.hid (exMem w)
  have hk4 := M.out.2.1
  go_wp2_with fail
  refine Calls.mono (play_ex1 _ _ _ 0 (w.heap.size + 5) 0 (w.heap.size + 7) (M.out.1.after ((Below.refl _ _).alloc (Nat.le_refl _) _)) (RdS.lit2E _ _ _ _ _ _ (by simp) (by omega)) (by simp only [World.size_alloc]; omega) (by simp only [World.size_alloc]; omega)) ?_
  rintro e w1 ⟨A1, k1, rfl, hr1, hb1⟩
  have M1 : Hid (Mem [Loc.rdT 0 (w.heap.size + 5) (.slice (some ⟨w.heap.size + 4, 0, none⟩) 2 2) exTr, Loc.k4 (w.heap.size + 5) (.int .i64 3) (.slice (some ⟨w.heap.size + 4, 0, none⟩) 2 2) (.int .i64 0) (.int .i64 2), Loc.bl w.heap.size w] w1) := Lib.hid ((M.out.alloc _).below hb1)
  have HR1 := Lib.hid hr1
  have hz1 := hb1.size
  simp only [World.size_alloc] at hz1
  clear M hb1 hr1
  replace hk4 := M1.out.2.1
  go_wp2_with fail
  have M2 : Hid (Mem [Loc.k4 w1.heap.size (.int .i64 3) (.int .i64 3) (.int .i64 0) (.int .i64 0), Loc.rdT 0 (w.heap.size + 5) (.slice (some ⟨w.heap.size + 4, 0, none⟩) 2 2) exTr, Loc.k4 (w.heap.size + 5) (.int .i64 3) (.slice (some ⟨w.heap.size + 4, 0, none⟩) 2 2) (.int .i64 0) (.int .i64 2), Loc.bl w.heap.size w] ((w1.alloc (.cells #[.int .i64 3, .int .i64 3, .int .i64 0, .int .i64 0] 29)).alloc (.cells #[.string ⟨#[98]⟩] 9))) := Lib.hid ⟨(Mem.alloc (l := [Loc.k4 w1.heap.size _ _ _ _]) ⟨K4.new _ _ _ _ _ _, True.intro⟩ _).1, (M1.out.alloc _).alloc _⟩
  have HR2 := Lib.hid (HR1.out.after (((Below.refl w1.heap.size w1).alloc (Nat.le_refl _) (.cells #[.int .i64 3, .int .i64 3, .int .i64 0, .int .i64 0] 29)).alloc (by simp) (.cells #[.string ⟨#[98]⟩] 9)))
  clear M1 HR1
  obtain ⟨g1, hg1⟩ : ∃ g, w1.heap.size = g := ⟨_, rfl⟩
  refine Calls.mono (play_ex2 _ _ _ 0 (w.heap.size + 5) 0 (w1.heap.size + 2) M2.out.2.1 (RdS.lit1E _ _ _ _ _ (by simp) (by omega)) (by simp only [World.size_alloc]; omega) (by simp only [World.size_alloc]; omega)) ?_
  rintro e w2 ⟨A2, n2, k2, rfl, hb2⟩
  replace M2 := Lib.hid (M2.out.below hb2)
  replace HR2 := Lib.hid (HR2.out.after hb2)
  have hz2 := hb2.size
  simp only [World.size_alloc] at hz2
  rw [hg1] at M2 hz2
  rw [hg1]
  clear hb2
  replace hk4 := M2.out.2.2.1
  have hkx := M2.out.1
  go_wp2_with fail
  have M3 : Hid (Mem [Loc.k4 w2.heap.size (.int .i64 2) (.int .i64 2) (.int .i64 1) (.int .i64 1), Loc.k4 g1 (.int .i64 3) (.int .i64 3) (.int .i64 0) (.int .i64 0), Loc.rdT 0 (w.heap.size + 5) (.slice (some ⟨w.heap.size + 4, 0, none⟩) 2 2) exTr, Loc.k4 (w.heap.size + 5) (.int .i64 3) (.slice (some ⟨w.heap.size + 4, 0, none⟩) 2 2) (.int .i64 0) (.int .i64 2), Loc.bl w.heap.size w] ((w2.alloc (.cells #[.int .i64 2, .int .i64 2, .int .i64 1, .int .i64 1] 29)).alloc (.cells #[.int .i64 2, .int .i64 2, .int .i64 1, .int .i64 1] 29))) := Lib.hid ⟨(Mem.alloc (l := [Loc.k4 w2.heap.size _ _ _ _]) ⟨K4.new _ _ _ _ _ _, True.intro⟩ _).1, (M2.out.alloc _).alloc _⟩
  have HR3 := Lib.hid (HR2.out.after (((Below.refl w2.heap.size w2).alloc (Nat.le_refl _) (.cells #[.int .i64 2, .int .i64 2, .int .i64 1, .int .i64 1] 29)).alloc (by simp) (.cells #[.int .i64 2, .int .i64 2, .int .i64 1, .int .i64 1] 29)))
  clear M2 HR2 hkx
  obtain ⟨g2, hg2⟩ : ∃ g, w2.heap.size = g := ⟨_, rfl⟩
  refine Calls.mono (fit_ex _ _ 0 (w2.heap.size + 2) (RdCn.lit1E _ ⟨2, 2, 1, 1⟩ _ _ _ (by simp) (by omega)) (by simp only [World.size_alloc]; omega)) ?_
  rintro e w3 ⟨rfl, hb3⟩
  replace M3 := Lib.hid (M3.out.below hb3)
  replace HR3 := Lib.hid (HR3.out.after hb3)
  have hz3 := hb3.size
  simp only [World.size_alloc] at hz3
  rw [hg2] at M3 hz3
  rw [hg2]
  clear hb3
  replace hk4 := M3.out.2.2.2.1
  have hkx := M3.out.2.1
  have hky := M3.out.1
  go_wp2_with fail
  have M4 : Hid (Mem [Loc.k2 w3.heap.size (.int .i64 1) (.int .i64 2), Loc.k4 g2 (.int .i64 2) (.int .i64 2) (.int .i64 1) (.int .i64 1), Loc.k4 g1 (.int .i64 3) (.int .i64 3) (.int .i64 0) (.int .i64 0), Loc.bl w.heap.size w] ((w3.alloc (.cells #[.int .i64 1, .int .i64 2] 39)).alloc (.cells #[.int .i64 0, .int .i64 1] 3))) := Lib.hid ⟨(Mem.alloc (l := [Loc.k2 w3.heap.size _ _]) ⟨K2.new _ _ _ _, True.intro⟩ _).1, (M3.out.1 |> fun h => (Mem.alloc (Mem.alloc (l := [Loc.k4 g2 _ _ _ _]) ⟨h, True.intro⟩ _) _).1), (M3.out.2.1 |> fun h => (Mem.alloc (Mem.alloc (l := [Loc.k4 g1 _ _ _ _]) ⟨h, True.intro⟩ _) _).1), (Mem.alloc (Mem.alloc (l := [Loc.bl w.heap.size w]) ⟨M3.out.2.2.2.2.1, True.intro⟩ _) _).1, True.intro⟩
  have HR4 := Lib.hid (HR3.out.after (((Below.refl w3.heap.size w3).alloc (Nat.le_refl _) (.cells #[.int .i64 1, .int .i64 2] 39)).alloc (by simp) (.cells #[.int .i64 0, .int .i64 1] 3)))
  clear M3 HR3 hkx hky hk4
  have hq : RdI ((w3.alloc (.cells #[.int .i64 1, .int .i64 2] 39)).alloc (.cells #[.int .i64 0, .int .i64 1] 3)) 0 (w3.heap.size + 2) (.slice (some ⟨w3.heap.size + 1, 0, none⟩) 2 2) [0, 1] := by
    have := Rd.lit (enc := encI) (size := 1) (w3.alloc (.cells #[.int .i64 1, .int .i64 2] 39)) 3 [0, 1] #[.int .i64 0, .int .i64 1] 2 rfl rfl (by decide) (fun _ => rfl)
    rw [World.size_alloc] at this
    exact this
  refine Calls.mono (equalI_any [0, 1] [0, 1] _ _ 0 (w3.heap.size + 2) _ _ _ HR4.out hq) ?_
  rintro e w4 ⟨rfl, hb4⟩
  replace M4 := Lib.hid (M4.out.below hb4)
  clear hb4 HR4 hq
  have hkz := M4.out.1
  have hky := M4.out.2.1
  have hkx := M4.out.2.2.1
  have hdt : decide (([0, 1] : List Int) = [0, 1]) = true := by decide
  rw [hdt]
  obtain ⟨g3, hg3⟩ : ∃ g, w3.heap.size = g := ⟨_, rfl⟩
  rw [hg3] at M4 hkz
  rw [hg3]
  go_wp2_with fail
  exact HR.out _ _ ⟨rfl, M4.out.2.2.2.1.1⟩
end Go.Proofs.Ytmhbfoaecebobaa
