import Derived.Test.YtohmldibkojkfaaGreatDoorJB13
import Derived.Test.YtohmldibkojkfaaGreatDoorJB5
import Derived.Test.YtohmldibkojkfaaGreatDoorJB30
set_option linter.unusedSimpArgs false
set_option linter.unusedVariables false
set_option linter.unusedSectionVars false
section
namespace Go.Proofs.YtohmldibkojkfaaGreatDoor.Dl
open Go.RowKit Aw
structure Vr where
 acts : List ByteArray
 cnt : Int
instance : Inhabited Vr := ⟨⟨[], 0⟩⟩
def ltS (x y : ByteArray) : Bool := Go.Op.bytesLess x.toList y.toList
def gtS (x y : ByteArray) : Bool := !(ltS x y || x.toList == y.toList)
def cmpS (x y : ByteArray) : Int := if ltS x y = true then -1 else if gtS x y = true then 1 else 0
def cmpW : List ByteArray → List ByteArray → Int
 | [], [] => 0
 | [], _ :: _ => -1
 | _ :: _, [] => 1
 | a :: x, b :: y => if cmpS a b ≠ 0 then cmpS a b else cmpW x y
theorem zx7 {x y : List ByteArray} {k : Nat} (hx : k < x.length) (hy : k < y.length) : cmpW (x.drop k) (y.drop k) = if cmpS (gti x k) (gti y k) ≠ 0 then cmpS (gti x k) (gti y k) else cmpW (x.drop (k + 1)) (y.drop (k + 1)) := by
 have e1 : x.drop k = gti x k :: x.drop (k + 1) := by rw [List.drop_eq_getElem_cons hx, show x[k] = gti x k from (zed (List.getElem?_eq_getElem hx)).symm]
 have e2 : y.drop k = gti y k :: y.drop (k + 1) := by rw [List.drop_eq_getElem_cons hy, show y[k] = gti y k from (zed (List.getElem?_eq_getElem hy)).symm]
 rw [e1, e2, cmpW]
theorem z1b {x y : List ByteArray} {k : Nat} (hx : k < x.length) (hy : y.length ≤ k) : cmpW (x.drop k) (y.drop k) = 1 := by
 rw [List.drop_eq_getElem_cons hx, List.drop_of_length_le hy, cmpW]
theorem z1a {x y : List ByteArray} {k : Nat} (hx : x.length ≤ k) (hy : k < y.length) : cmpW (x.drop k) (y.drop k) = -1 := by
 rw [List.drop_eq_getElem_cons hy, List.drop_of_length_le hx, cmpW]
theorem z1c {x y : List ByteArray} {k : Nat} (hx : x.length ≤ k) (hy : y.length ≤ k) : cmpW (x.drop k) (y.drop k) = 0 := by
 rw [List.drop_of_length_le hx, List.drop_of_length_le hy, cmpW]
def okV (v : Vr) : Bool := decide (v.acts.length ≤ 200) && (allN v.acts && (decide (1 ≤ v.cnt) && decide (v.cnt ≤ 1048576)))
def vvAt (l : List Vr) (i : Nat) : Bool := okV (gti l i) && (decide (i = 0) || decide (cmpW (gti l (i - 1)).acts (gti l i).acts < 0))
def vvB (l : List Vr) : Bool := decide (l.length ≤ 300) && (List.range l.length).all (vvAt l)
theorem vvB_f {l : List Vr} {i : Nat} (hi : i < l.length) (h : vvAt l i = false) : vvB l = false := by
 unfold vvB
 have : (List.range l.length).all (vvAt l) = false := by
  rw [List.all_eq_false]
  exact ⟨i, List.mem_range.2 hi, by rw [h]; decide⟩
 rw [this, Bool.and_false]
theorem vvB_t {l : List Vr} (hl : l.length ≤ 300) (h : ∀ i, i < l.length → vvAt l i = true) : vvB l = true := by
 unfold vvB
 rw [decide_eq_true hl, List.all_eq_true.2 (fun i hi => h i (List.mem_range.1 hi))]; rfl
theorem z0j {l : List Vr} (h : vvB l = true) {i : Nat} (hi : i < l.length) : okV (gti l i) = true := by
 unfold vvB at h
 simp only [Bool.and_eq_true] at h
 have := List.all_eq_true.1 h.2 i (List.mem_range.2 hi)
 unfold vvAt at this
 simp only [Bool.and_eq_true] at this
 exact this.1
def zb5 (n : Net) (w : List ByteArray) (c : Cst) (most : Int) : Int × Int :=
 if (zc0 n w).2 ≠ 0 ∨ vcB c = false then (0, 1) else if most < 1 ∨ 2000 < most then (0, 2) else (zse (srP n w c most), (srP n w c most).2.2)
def zcs (n : Net) (w : List ByteArray) (c : Cst) (most : Int) : Int × Int :=
 if (zc0 n w).2 ≠ 0 ∨ vcB c = false then (0, 1) else if (zb5 n [] c most).2 ≠ 0 then (0, (zb5 n [] c most).2) else ((zb5 n [] c most).1 + c.log * w.length, 0)
def zdc (n : Net) (c : Cst) (most : Int) : List Vr → Int → Int → Int × Int × Int
 | [], a, b => (a, b, 0)
 | v :: l, a, b => if (zb5 n v.acts c most).2 ≠ 0 then (0, 0, (zb5 n v.acts c most).2) else if (zcs n v.acts c most).2 ≠ 0 then (0, 0, (zcs n v.acts c most).2)
  else zdc n c most l (a + v.cnt * (zb5 n v.acts c most).1) (b + v.cnt * (zcs n v.acts c most).1)
theorem zga (n : Net) (w : List ByteArray) (c : Cst) (most : Int) : 0 ≤ (zb5 n w c most).1 ∧ (zb5 n w c most).1 ≤ 2000000 := by
 unfold zb5
 split
 ·
  exact ⟨Int.le_refl _, by decide⟩
 ·
  rename_i h1
  split
  ·
   exact ⟨Int.le_refl _, by decide⟩
  ·
   rename_i h2
   have hs : (zc0 n w).2 = 0 := Classical.byContradiction fun h => h1 (.inl h)
   have hc : vcB c = true := by
    cases hv : vcB c with
    | true => rfl
    | false => exact absurd (.inr hv) h1
   show 0 ≤ zse (srP n w c most) ∧ zse (srP n w c most) ≤ 2000000
   unfold zse
   split
   ·
    rename_i h0
    have hf := zvy hc hs (by omega) h0
    have := hf.cb _ hf.el
    omega
   ·
    exact ⟨Int.le_refl _, by decide⟩
theorem zkv (n : Net) (w : List ByteArray) (c : Cst) (most : Int) : 0 ≤ (zcs n w c most).1 ∧ (zcs n w c most).1 ≤ 2200000 := by
 unfold zcs
 split
 ·
  exact ⟨Int.le_refl _, by decide⟩
 ·
  rename_i h1
  split
  ·
   exact ⟨Int.le_refl _, by show (0 : Int) ≤ 2200000; decide⟩
  ·
   have hs : (zc0 n w).2 = 0 := Classical.byContradiction fun h => h1 (.inl h)
   have hc : vcB c = true := by
    cases hv : vcB c with
    | true => rfl
    | false => exact absurd (.inr hv) h1
   have hw : w.length ≤ 200 := by
    have := (ziq hs).2.1
    unfold ze9 at this
    simp only [Bool.and_eq_true, decide_eq_true_eq] at this
    exact this.1
   have hl := zga n [] c most
   have hb : 0 ≤ c.log ∧ c.log ≤ 1000 := by
    unfold vcB inB at hc
    simp only [Bool.and_eq_true, decide_eq_true_eq] at hc
    exact hc.1
   have h3 : 0 ≤ c.log * (w.length : Int) := Int.mul_nonneg hb.1 (by omega)
   have h4 : c.log * (w.length : Int) ≤ 1000 * 200 := Int.mul_le_mul hb.2 (by omega) (by omega) (by omega)
   show 0 ≤ (zb5 n [] c most).1 + c.log * (w.length : Int) ∧ (zb5 n [] c most).1 + c.log * (w.length : Int) ≤ 2200000
   omega
theorem zts {a b k x y : Int} (hk : 1 ≤ k ∧ k ≤ 1048576) (hx : 0 ≤ x ∧ x ≤ 2000000) (hy : 0 ≤ y ∧ y ≤ 2200000) {i : Nat} (ha : 0 ≤ a ∧ a ≤ 2306867200000 * i) (hb : 0 ≤ b ∧ b ≤ 2306867200000 * i) :
  (0 ≤ k * x ∧ k * x ≤ 2306867200000) ∧ (0 ≤ k * y ∧ k * y ≤ 2306867200000) ∧ (0 ≤ a + k * x ∧ a + k * x ≤ 2306867200000 * ((i + 1 : Nat) : Int)) ∧ (0 ≤ b + k * y ∧ b + k * y ≤ 2306867200000 * ((i + 1 : Nat) : Int)) := by
 have h1 : 0 ≤ k * x := Int.mul_nonneg (by omega) hx.1
 have h2 : k * x ≤ 1048576 * 2000000 := Int.mul_le_mul hk.2 hx.2 hx.1 (by omega)
 have h3 : 0 ≤ k * y := Int.mul_nonneg (by omega) hy.1
 have h4 : k * y ≤ 1048576 * 2200000 := Int.mul_le_mul hk.2 hy.2 hy.1 (by omega)
 omega
end Go.Proofs.YtohmldibkojkfaaGreatDoor.Dl
end
