import Derived.Test.YtjhdcgaiccnmeaaGreatDoorJG37
set_option linter.unusedSimpArgs false
set_option linter.unusedVariables false
set_option linter.unusedSectionVars false
section
namespace Go.Proofs.YtjhdcgaiccnmeaaGreatDoor.Aw
open Go.RowKit Dl
theorem fst1_of {n : Net} {c : Cst} {p : Prf} : ∀ l : List Tr, (∀ t ∈ l, (gE n p t).e = 0 ∧ grB (frE (gE n p t)) (Fr.of (mostE c t)) = false) → fst1 n c p c6 l = 0
 | [], _ => rfl
 | t :: l, h => by
  obtain ⟨h1, h2⟩ := h t (by simp)
  unfold fst1
  rw [if_neg (fun h => h h1), h2, if_neg (by decide)]
  exact fst1_of l (fun t ht => h t (by simp [ht]))
theorem fst3_of {n : Net} {p : Prf} {d : Fr} {act : ByteArray} : ∀ l : List Tr, (∀ t ∈ l, (gE n p t).e = 0) → (∀ t ∈ l, t.label = act → (addE (frE (gE n p t)) d).e = 0 ∧ grB (frE (addE (frE (gE n p t)) d)) (Fr.of 0) = false) → fst3 n p c6 d act l = 0
 | [], _, _ => rfl
 | t :: l, h0, h => by
  unfold fst3
  split
  ·
   exact fst3_of l (fun t ht => h0 t (by simp [ht])) (fun t ht => h t (by simp [ht]))
  ·
   rename_i he
   obtain ⟨h1, h2⟩ := h t (by simp) (Decidable.not_not.1 he)
   rw [if_neg (fun h => h (h0 t (by simp))), if_neg (fun h => h h1), h2, if_neg (by decide)]
   exact fst3_of l (fun t ht => h0 t (by simp [ht])) (fun t ht => h t (by simp [ht]))
theorem fst2_of {n : Net} {c : Cst} {p : Prf} : ∀ (l : List ByteArray) (k : Nat), (∀ j, j < l.length → grB (gti p.duals (n.places.toNat + (k + j))) (Fr.of c.log) = false ∧ fst3 n p c6 (gti p.duals (n.places.toNat + (k + j))) (gti l j) n.trans = 0) → fst2 n c p c6 k l = 0
 | [], _, _ => rfl
 | a :: l, k, h => by
  obtain ⟨h1, h2⟩ := h 0 (by simp)
  rw [Nat.add_zero] at h1 h2
  replace h2 : fst3 n p c6 (gti p.duals (n.places.toNat + k)) a n.trans = 0 := h2
  unfold fst2
  rw [h1, if_neg (by decide), if_neg (fun h => h h2)]
  refine fst2_of l (k + 1) fun j hj => ?_
  have := h (j + 1) (by simpa using hj)
  rw [show k + (j + 1) = k + 1 + j by omega] at this
  exact this
theorem thM_of {n : Net} {w : List ByteArray} {c : Cst} {p : Prf} {s : List Int} {k : Int} : ∀ ms : List Stp, (∀ m ∈ ms, (potX n w p (zb4 n w s m).1).e = 0 ∧ (addE (Fr.of (zbm c m.kind)) (frE (potX n w p (zb4 n w s m).1))).e = 0 ∧ grB (Fr.of k) (frE (addE (Fr.of (zbm c m.kind)) (frE (potX n w p (zb4 n w s m).1)))) = false) → thM n w c p c6 s k ms = none
 | [], _ => rfl
 | m :: ms, h => by
  obtain ⟨h1, h2, h3⟩ := h m (by simp)
  unfold thM
  rw [if_neg (fun h => h h1), if_neg (fun h => h h2), h3, if_neg (by decide)]
  exact thM_of ms (fun m hm => h m (by simp [hm]))
theorem wrong_of_seen {n : Net} {w : List ByteArray} {c : Cst} {p : Prf} (h : Seen n w c p) : wrongX n w c p c6 = ([], zStp, 10) := by
 have h1 := fst1_of n.trans h.f1
 have h2 : fst2 n c p c6 0 w = 0 := fst2_of w 0 fun j hj => by
  rw [Nat.zero_add]
  exact ⟨(h.f2 j hj).1, fst3_of _ (fun t ht => (h.f1 t ht).1) (h.f2 j hj).2⟩
 have h3 : fstE n w c p c6 = 0 := by unfold fstE; rw [h1, if_neg (by decide)]; exact h2
 unfold wrongX
 rw [h3, if_neg (by decide)]
 have h4 := h.f3
 generalize p.st.zip p.pots = Z at h4 ⊢
 induction Z with
 | nil => rfl
 | cons y Z ih =>
  obtain ⟨s, k⟩ := y
  obtain ⟨g1, g2, g3, g4⟩ := h4 (s, k) (by simp)
  unfold thS
  rw [if_neg (fun h => h g1), if_neg (by
   rintro (h | h)
   ·
    rw [g2] at h; cases h
   ·
    exact h.2 (g3 h.1)), thM_of _ g4]
  exact ih (fun x hx => h4 x (by simp [hx]))
theorem mulE_i {a b : Int} (ha : -1073741824 ≤ a ∧ a ≤ 1073741824) (hb : -1073741824 ≤ b ∧ b ≤ 1073741824) (hc : -1073741824 ≤ a * b ∧ a * b ≤ 1073741824) : mulE (Fr.of a) (Fr.of b) = ⟨a * b, 1, 0⟩ := by
 unfold mulE
 rw [Fr.okB_of (iof_ok ha.1 ha.2), Fr.okB_of (iof_ok hb.1 hb.2)]
 have e : fmul (Fr.of a) (Fr.of b) = mkF (Fr.of (a * b)).n (Fr.of (a * b)).d := by show mkF (a * b) (1 * 1) = mkF (a * b) 1; rw [Int.mul_one]
 rw [e, mkF_of_ok (iof_ok hc.1 hc.2)]; rfl
def dotI : List Int → List Int → Int
 | x :: a, y :: b => x * y + dotI a b
 | _, _ => 0
theorem mul_nb {x y : Int} {X Y : Nat} (hx : x.natAbs ≤ X) (hy : y.natAbs ≤ Y) : (x * y).natAbs ≤ X * Y := by rw [Int.natAbs_mul]; exact Nat.mul_le_mul hx hy
theorem dotG_i {X Y : Nat} : ∀ (a b : List Int) (acc : Int), (∀ x ∈ a, x.natAbs ≤ X) → (∀ y ∈ b, y.natAbs ≤ Y) → X ≤ 1073741824 → Y ≤ 1073741824 → acc.natAbs + X * Y * a.length ≤ 1073741824 → dotG (Fr.of acc) (a.map Fr.of) (b.map Fr.of) = ⟨acc + dotI a b, 1, 0⟩ ∧ (acc + dotI a b).natAbs ≤ acc.natAbs + X * Y * a.length
 | [], b, acc, _, _, _, _, _ => by
  have e : dotI [] b = 0 := by cases b <;> rfl
  rw [e]
  refine ⟨?_, by simp⟩
  have : dotG (Fr.of acc) [] (b.map Fr.of) = ⟨acc, 1, 0⟩ := by cases b <;> rfl
  rw [List.map_nil, this, Int.add_zero]
 | x :: a, [], acc, _, _, _, _, _ => by
  have e : dotI (x :: a) [] = 0 := rfl
  rw [e]
  refine ⟨?_, by simp⟩
  rw [Int.add_zero]; rfl
 | x :: a, y :: b, acc, ha, hb, hX, hY, h => by
  have hx := ha x (by simp)
  have hy := hb y (by simp)
  have hm := mul_nb hx hy
  simp only [List.length_cons] at h ⊢
  rw [Nat.mul_add, Nat.mul_one] at h ⊢
  have h0 : 0 ≤ X * Y * a.length := Nat.zero_le _
  generalize hxy : x * y = z at hm
  have e1 : mulE (Fr.of x) (Fr.of y) = ⟨z, 1, 0⟩ := by rw [← hxy]; exact mulE_i (by omega) (by omega) (by rw [hxy]; omega)
  have e2 : addE (Fr.of acc) ⟨z, 1⟩ = ⟨acc + z, 1, 0⟩ := addE_i (a := acc) (b := z) (by omega) (by omega) (by omega)
  obtain ⟨i1, i2⟩ := dotG_i a b (acc + z) (fun t ht => ha t (by simp [ht])) (fun t ht => hb t (by simp [ht])) hX hY (by omega)
  have e3 : dotI (x :: a) (y :: b) = z + dotI a b := by show x * y + _ = _; rw [hxy]
  rw [e3, ← Int.add_assoc]
  refine ⟨?_, by omega⟩
  rw [List.map_cons, List.map_cons, dotG, e1]
  show (if (0 : Int) ≠ 0 then _ else if (addE (Fr.of acc) ⟨z, 1⟩).e ≠ 0 then _ else dotG ⟨(addE (Fr.of acc) ⟨z, 1⟩).n, (addE (Fr.of acc) ⟨z, 1⟩).d⟩ (a.map Fr.of) (b.map Fr.of)) = _
  rw [e2, if_neg (by decide), if_neg (fun h => h rfl)]
  exact i1
theorem dotE_i {X Y : Nat} {a b : List Int} (ha : ∀ x ∈ a, x.natAbs ≤ X) (hb : ∀ y ∈ b, y.natAbs ≤ Y) (hX : X ≤ 1073741824) (hY : Y ≤ 1073741824) (hl : a.length = b.length) (h : a.length ≤ 1000) (hs : X * Y * a.length ≤ 1073741824) : dotE (a.map Fr.of) (b.map Fr.of) = ⟨dotI a b, 1, 0⟩ ∧ (dotI a b).natAbs ≤ X * Y * a.length := by
 have h1 : (a.map Fr.of).all Fr.okB = true := List.all_eq_true.2 fun x hx => by
  obtain ⟨y, hy, rfl⟩ := List.mem_map.1 hx
  have := ha y hy
  exact of_okB (by omega)
 have h2 : (b.map Fr.of).all Fr.okB = true := List.all_eq_true.2 fun x hx => by
  obtain ⟨y, hy, rfl⟩ := List.mem_map.1 hx
  have := hb y hy
  exact of_okB (by omega)
 have h3 := dotG_i a b 0 ha hb hX hY (by simpa using hs)
 rw [Int.zero_add] at h3
 refine ⟨?_, by simpa using h3.2⟩
 unfold dotE
 rw [if_neg (by rw [h1, h2]; simp), if_neg (by simp only [List.length_map]; omega), if_neg (by simp only [List.length_map]; omega)]
 exact h3.1
theorem dotI_mul (K : Int) : ∀ a b : List Int, dotI (a.map (K * ·)) b = K * dotI a b
 | [], b => by
  have e : dotI [] b = 0 := by cases b <;> rfl
  rw [List.map_nil, e, Int.mul_zero]
 | x :: a, [] => by show (0 : Int) = K * 0; rw [Int.mul_zero]
 | x :: a, y :: b => by
  show K * x * y + dotI (a.map (K * ·)) b = K * (x * y + dotI a b)
  rw [dotI_mul K a b, Int.mul_add, Int.mul_assoc]
end Go.Proofs.YtjhdcgaiccnmeaaGreatDoor.Aw
end
