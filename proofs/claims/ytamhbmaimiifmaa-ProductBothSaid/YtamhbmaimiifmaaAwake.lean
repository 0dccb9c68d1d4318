/-
  The walk of casebooklaw42's awake. Conditions: none.
-/
import Derived.Test.YtamhbmaimiifmaaCheck2
namespace Go.Proofs.Ytamhbmaimiifmaa
set_option linter.unusedSimpArgs false
set_option linter.unusedVariables false
open Go.RowKit

theorem Rd.of_cells {α : Type} {size : Nat} {enc : α → List Value} {W : World} {b : Nat} {l : List α} (he : ∀ a, (enc a).length = size) (hm : l.length ≤ maxLen) (h : ∀ j u, (l.flatMap enc)[j]? = some u → W.cell? ⟨b, j, none⟩ = some u) (n : Nat) (hn : n = l.length) (hi : Nat) (hb : b < hi) :
    Rd size enc W 0 hi (.slice (some ⟨b, 0, none⟩) n n) l := by
  subst hn
  exact ⟨flatMap_len he l, _, _, rfl, Nat.le_refl _, hm, fun _ => ⟨b, 0, rfl, Nat.zero_le _, hb, fun j u hu => by rw [Nat.zero_add]; exact h j u hu⟩⟩
theorem get9 {x0 x1 x2 x3 x4 x5 x6 x7 x8 : Value} {P : Nat → Value → Prop} (h0 : P 0 x0) (h1 : P 1 x1) (h2 : P 2 x2) (h3 : P 3 x3) (h4 : P 4 x4) (h5 : P 5 x5) (h6 : P 6 x6) (h7 : P 7 x7) (h8 : P 8 x8) : ∀ j u, [x0, x1, x2, x3, x4, x5, x6, x7, x8][j]? = some u → P j u := by
  intro j u hu
  match j, hu with
  | 0, hu => simp at hu; exact hu ▸ h0
  | 1, hu => simp at hu; exact hu ▸ h1
  | 2, hu => simp at hu; exact hu ▸ h2
  | 3, hu => simp at hu; exact hu ▸ h3
  | 4, hu => simp at hu; exact hu ▸ h4
  | 5, hu => simp at hu; exact hu ▸ h5
  | 6, hu => simp at hu; exact hu ▸ h6
  | 7, hu => simp at hu; exact hu ▸ h7
  | 8, hu => simp at hu; exact hu ▸ h8
  | j + 9, hu => simp at hu
theorem get1 {x0 : Value} {P : Nat → Value → Prop} (h0 : P 0 x0) : ∀ j u, [x0][j]? = some u → P j u := by
  intro j u hu
  match j, hu with
  | 0, hu => simp at hu; exact hu ▸ h0
  | j + 1, hu => simp at hu
theorem get2 {x0 x1 : Value} {P : Nat → Value → Prop} (h0 : P 0 x0) (h1 : P 1 x1) : ∀ j u, [x0, x1][j]? = some u → P j u := by
  intro j u hu
  match j, hu with
  | 0, hu => simp at hu; exact hu ▸ h0
  | 1, hu => simp at hu; exact hu ▸ h1
  | j + 2, hu => simp at hu
theorem rdI_one {W : World} {b hi : Nat} {x : Int} (h : W.cell? ⟨b, 0, none⟩ = some (.int .i64 x)) (hb : b < hi) : RdI W 0 hi (.slice (some ⟨b, 0, none⟩) 1 1) [x] :=
  Rd.of_cells (enc := encI) (l := [x]) (fun _ => rfl) (by simp [maxLen]) (get1 (P := fun j u => W.cell? ⟨b, j, none⟩ = some u) h) 1 rfl hi hb

theorem RdS.lit1 (W : World) (a : ByteArray) (t : TypeId) : RdS (W.alloc (.cells #[.string a] t)) 0 (W.heap.size + 1) (.slice (some ⟨W.heap.size, 0, none⟩) 1 1) [a] := Rd.lit W t [a] _ 1 rfl rfl (by decide) (fun _ => rfl)
theorem RdS.lit2 (W : World) (a b : ByteArray) (t : TypeId) : RdS (W.alloc (.cells #[.string a, .string b] t)) 0 (W.heap.size + 1) (.slice (some ⟨W.heap.size, 0, none⟩) 2 2) [a, b] := Rd.lit W t [a, b] _ 2 rfl rfl (by decide) (fun _ => rfl)
def exA : ByteArray := ⟨#[97]⟩
def exB : ByteArray := ⟨#[98]⟩
def exC : ByteArray := ⟨#[99]⟩
def exTr : List Tr := [⟨⟨#[97]⟩, [0], [1]⟩, ⟨⟨#[98]⟩, [1], [2]⟩, ⟨⟨#[99]⟩, [2], [3]⟩]
def exNet : Net := ⟨4, exTr, 0, 3⟩
def exSt : List Stp := [⟨1, 0, ⟨#[97]⟩⟩, ⟨3, 1, ⟨#[98]⟩⟩, ⟨1, 2, ⟨#[99]⟩⟩]
def exCs : Cst := ⟨3, 2, 0⟩
theorem ex_cost : costE exCs exSt = (2, 0) := by decide +kernel
theorem ex_yes : checkB exNet [⟨#[97]⟩, ⟨#[99]⟩] exCs exSt 2 = true := by decide +kernel
theorem ex_no : checkB exNet [⟨#[97]⟩] exCs exSt 2 = false := by decide +kernel
theorem exRdT {W : World} {g hi : Nat} (hi6 : g + 6 < hi)
    (h0 : W.cell? ⟨g, 0, none⟩ = some (.int .i64 0)) (h1 : W.cell? ⟨g + 1, 0, none⟩ = some (.int .i64 1)) (h2 : W.cell? ⟨g + 2, 0, none⟩ = some (.int .i64 1)) (h3 : W.cell? ⟨g + 3, 0, none⟩ = some (.int .i64 2)) (h4 : W.cell? ⟨g + 4, 0, none⟩ = some (.int .i64 2)) (h5 : W.cell? ⟨g + 5, 0, none⟩ = some (.int .i64 3))
    (c0 : W.cell? ⟨g + 6, 0, none⟩ = some (.string ⟨#[97]⟩)) (c1 : W.cell? ⟨g + 6, 1, none⟩ = some (.slice (some ⟨g, 0, none⟩) 1 1)) (c2 : W.cell? ⟨g + 6, 2, none⟩ = some (.slice (some ⟨g + 1, 0, none⟩) 1 1))
    (c3 : W.cell? ⟨g + 6, 3, none⟩ = some (.string ⟨#[98]⟩)) (c4 : W.cell? ⟨g + 6, 4, none⟩ = some (.slice (some ⟨g + 2, 0, none⟩) 1 1)) (c5 : W.cell? ⟨g + 6, 5, none⟩ = some (.slice (some ⟨g + 3, 0, none⟩) 1 1))
    (c6 : W.cell? ⟨g + 6, 6, none⟩ = some (.string ⟨#[99]⟩)) (c7 : W.cell? ⟨g + 6, 7, none⟩ = some (.slice (some ⟨g + 4, 0, none⟩) 1 1)) (c8 : W.cell? ⟨g + 6, 8, none⟩ = some (.slice (some ⟨g + 5, 0, none⟩) 1 1)) :
    RdT W 0 hi (.slice (some ⟨g + 6, 0, none⟩) 3 3) exTr := by
  refine ⟨[⟨⟨#[97]⟩, .slice (some ⟨g, 0, none⟩) 1 1, .slice (some ⟨g + 1, 0, none⟩) 1 1⟩, ⟨⟨#[98]⟩, .slice (some ⟨g + 2, 0, none⟩) 1 1, .slice (some ⟨g + 3, 0, none⟩) 1 1⟩, ⟨⟨#[99]⟩, .slice (some ⟨g + 4, 0, none⟩) 1 1, .slice (some ⟨g + 5, 0, none⟩) 1 1⟩], ?_, rfl, ?_⟩
  · exact Rd.of_cells (enc := encV) (l := [_, _, _]) (fun _ => rfl) (by simp [maxLen]) (get9 (P := fun j u => W.cell? ⟨g + 6, j, none⟩ = some u) c0 c1 c2 c3 c4 c5 c6 c7 c8) 3 rfl hi hi6
  · intro k hk
    match k, hk with
    | 0, _ => exact ⟨rfl, rdI_one h0 (by omega), rdI_one h1 (by omega)⟩
    | 1, _ => exact ⟨rfl, rdI_one h2 (by omega), rdI_one h3 (by omega)⟩
    | 2, _ => exact ⟨rfl, rdI_one h4 (by omega), rdI_one h5 (by omega)⟩
    | k + 3, hk => exact absurd hk (by simp [exTr])
theorem exRdM {W : World} {g hi : Nat} (hg : g < hi) (c0 : W.cell? ⟨g, 0, none⟩ = some (.int .i64 1)) (c1 : W.cell? ⟨g, 1, none⟩ = some (.int .i64 0)) (c2 : W.cell? ⟨g, 2, none⟩ = some (.string ⟨#[97]⟩))
    (c3 : W.cell? ⟨g, 3, none⟩ = some (.int .i64 3)) (c4 : W.cell? ⟨g, 4, none⟩ = some (.int .i64 1)) (c5 : W.cell? ⟨g, 5, none⟩ = some (.string ⟨#[98]⟩))
    (c6 : W.cell? ⟨g, 6, none⟩ = some (.int .i64 1)) (c7 : W.cell? ⟨g, 7, none⟩ = some (.int .i64 2)) (c8 : W.cell? ⟨g, 8, none⟩ = some (.string ⟨#[99]⟩)) : RdM W 0 hi (.slice (some ⟨g, 0, none⟩) 3 3) exSt :=
  Rd.of_cells (enc := encM) (l := exSt) (fun _ => rfl) (by decide) (get9 (P := fun j u => W.cell? ⟨g, j, none⟩ = some u) c0 c1 c2 c3 c4 c5 c6 c7 c8) 3 rfl hi hg

set_option maxRecDepth 100000 in
set_option maxHeartbeats 4000000 in
theorem exMem (w : World) : Mem [Loc.rdT 0 (w.heap.size + 10) (.slice (some ⟨w.heap.size + 6, 0, none⟩) 3 3) exTr, Loc.rdM 0 (w.heap.size + 10) (.slice (some ⟨w.heap.size + 8, 0, none⟩) 3 3) exSt, Loc.k4 (w.heap.size + 7) (.int .i64 4) (.slice (some ⟨w.heap.size + 6, 0, none⟩) 3 3) (.int .i64 0) (.int .i64 3), Loc.k3 (w.heap.size + 9) (.int .i64 3) (.int .i64 2) (.int .i64 0), Loc.bl w.heap.size w]
    ((((((((((w.alloc (Obj.cells #[Value.int IntKind.i64 0] 3)).alloc (Obj.cells #[Value.int IntKind.i64 1] 3)).alloc
                                  (Obj.cells #[Value.int IntKind.i64 1] 3)).alloc
                              (Obj.cells #[Value.int IntKind.i64 2] 3)).alloc
                          (Obj.cells #[Value.int IntKind.i64 2] 3)).alloc
                      (Obj.cells #[Value.int IntKind.i64 3] 3)).alloc
                  (Obj.cells
                    #[Value.string { data := #[97] }, Value.slice (some { block := w.heap.size, off := 0 }) 1 1,
                      Value.slice (some { block := w.heap.size + 1, off := 0 }) 1 1, Value.string { data := #[98] },
                      Value.slice (some { block := w.heap.size + 1 + 1, off := 0 }) 1 1,
                      Value.slice (some { block := w.heap.size + 1 + 1 + 1, off := 0 }) 1 1,
                      Value.string { data := #[99] },
                      Value.slice (some { block := w.heap.size + 1 + 1 + 1 + 1, off := 0 }) 1 1,
                      Value.slice (some { block := w.heap.size + 1 + 1 + 1 + 1 + 1, off := 0 }) 1 1]
                    72)).alloc
              (Obj.cells
                #[Value.int IntKind.i64 4,
                  Value.slice (some { block := w.heap.size + 1 + 1 + 1 + 1 + 1 + 1, off := 0 }) 3 3,
                  Value.int IntKind.i64 0, Value.int IntKind.i64 3]
                24)).alloc
          (Obj.cells
            #[Value.int IntKind.i64 1, Value.int IntKind.i64 0, Value.string { data := #[97] }, Value.int IntKind.i64 3,
              Value.int IntKind.i64 1, Value.string { data := #[98] }, Value.int IntKind.i64 1, Value.int IntKind.i64 2,
              Value.string { data := #[99] }]
            57)).alloc
      (Obj.cells #[Value.int IntKind.i64 3, Value.int IntKind.i64 2, Value.int IntKind.i64 0] 27)) := by
  refine ⟨exRdT (by omega) ?_ ?_ ?_ ?_ ?_ ?_ ?_ ?_ ?_ ?_ ?_ ?_ ?_ ?_ ?_, exRdM (by omega) ?_ ?_ ?_ ?_ ?_ ?_ ?_ ?_ ?_, ⟨?_, ?_, ?_, ?_, ?_⟩, ⟨?_, ?_, ?_, ?_⟩, ⟨?_, ?_⟩, True.intro⟩
  all_goals first
    | (simp [go_sem]; done)
    | (simp [go_sem]; omega)
    | (repeat (first | exact Below.refl _ _ | assumption | refine Below.setCell ?_ (by first | omega | (simp; done) | (simp; omega)) _ | refine Below.alloc ?_ (by first | omega | (simp; done) | (simp; omega)) _ | refine Below.drew ?_ | refine below_drewN ?_ _))

set_option maxRecDepth 100000 in
set_option maxHeartbeats 4000000 in
theorem awake_any (w : World) :
    Calls Try.prog 9 #[] w fun e w' => e = .returned (.bool true) ∧ Below w.heap.size w w' := by
  refine calls_cps fun R hR => ?_
  have HR := Lib.hid hR
  clear hR
  go_enter Try.func9, Try.ntmps9
  have M := Lib.hid (exMem w)
  go_wp2_with fail
  refine (Cost_any exCs exSt 0 _ _ _ M.out.2.1).mono ?_
  rintro e w1 ⟨rfl, hb1⟩
  replace M := Lib.hid (M.out.below hb1)
  clear hb1
  rw [ex_cost]
  have hk4 := M.out.2.2.1
  have hk3 := M.out.2.2.2.1
  go_wp2_with fail
  refine (Check_any exNet [⟨#[97]⟩, ⟨#[99]⟩] exCs exSt 2 _ _ _ 0 _ 0 _ 0 _ _ (M.out.1.after ((Below.refl _ _).alloc (Nat.le_refl _) _)) (RdS.lit2 _ _ _ _) (M.out.2.1.after ((Below.refl _ _).alloc (Nat.le_refl _) _))).mono ?_
  rintro e w2 ⟨rfl, hb2⟩
  replace M := Lib.hid ((M.out.alloc _).below hb2)
  clear hb2
  rw [ex_yes]
  replace hk4 := M.out.2.2.1
  replace hk3 := M.out.2.2.2.1
  go_wp2_with fail
  refine (Check_any exNet [⟨#[97]⟩] exCs exSt 2 _ _ _ 0 _ 0 _ 0 _ _ (M.out.1.after ((Below.refl _ _).alloc (Nat.le_refl _) _)) (RdS.lit1 _ _ _) (M.out.2.1.after ((Below.refl _ _).alloc (Nat.le_refl _) _))).mono ?_
  rintro e w3 ⟨rfl, hb3⟩
  replace M := Lib.hid ((M.out.alloc _).below hb3)
  clear hb3
  rw [ex_no]
  go_wp2_with fail
  exact HR.out _ _ ⟨rfl, M.out.2.2.2.2.1.1⟩
end Go.Proofs.Ytamhbmaimiifmaa
