import Derived.Test.YtohmldibkojkfaaGreatDoorJB11
import Derived.Test.YtohmldibkojkfaaGreatDoorJB40
set_option linter.unusedSimpArgs false
set_option linter.unusedVariables false
set_option linter.unusedSectionVars false
section
namespace Go.Proofs.YtohmldibkojkfaaGreatDoor
def lblK (n : Net) (w : List ByteArray) (x : Nd) (t : Nat) : Option Int :=
 if (gti n.trans t).label = Aw.eBA then some x.k else if (w.length : Int) ≤ x.k ∨ gti w x.k.toNat ≠ (gti n.trans t).label then none else some (x.k + 1)
def nkey (x : Nd) : Int × List Int := (x.k, x.m)
def zf3 (n : Net) (w : List ByteArray) (x : Nd) (q : List Nd) (t : Nat) : List Nd :=
 match lblK n w x t with
 | none => q
 | some k => if (zci n x.m t).2 ≠ 0 ∨ (k, (zci n x.m t).1) ∈ q.map nkey then q else q ++ [⟨k, (zci n x.m t).1, x.run ++ [(t : Int)]⟩]
def zb4 (n : Net) (w : List ByteArray) (most : Int) (x : Nd) (q : List Nd) : Nat → List Nd
 | 0 => q
 | k + 1 => if ((zb4 n w most x q k).length : Int) ≤ most then zf3 n w x (zb4 n w most x q k) k else zb4 n w most x q k
def zgc (n : Net) (w : List ByteArray) (x : Nd) : Bool := decide (x.k = w.length) && decide (x.m = oneL n.places.toNat n.sink)
def zfr (n : Net) (w : List ByteArray) (most : Int) : Nat → Nat → List Nd → Bool × List Int × Int
 | 0, _, _ => (false, [], 0)
 | f + 1, i, q => if i < q.length ∧ (i : Int) < most then if zgc n w (gti q i) then (true, (gti q i).run, 0) else zfr n w most f (i + 1) (zb4 n w most (gti q i) q n.trans.length)
  else (false, [], if most < q.length then 13 else 0)
noncomputable def FitsE (n : Net) (w : List ByteArray) (most : Int) : Bool × List Int × Int :=
 if Aw.wordsE n w ≠ 0 then (false, [], Aw.wordsE n w) else if most < 1 ∨ 2000 < most then (false, [], 2) else zfr n w most (most.toNat + 1) 0 [⟨0, oneL n.places.toNat n.source, []⟩]
theorem zk3 (n : Net) (w : List ByteArray) (x : Nd) (q : List Nd) (t : Nat) : zf3 n w x q t = q ∨ ∃ y, zf3 n w x q t = q ++ [y] := by
 unfold zf3
 split
 ·
  exact .inl rfl
 ·
  split
  ·
   exact .inl rfl
  ·
   exact .inr ⟨_, rfl⟩
theorem zpc (n : Net) (w : List ByteArray) (x : Nd) (q : List Nd) (t : Nat) : q.length ≤ (zf3 n w x q t).length ∧ (zf3 n w x q t).length ≤ q.length + 1 := by
 rcases zk3 n w x q t with h | ⟨y, h⟩ <;> rw [h] <;> simp
theorem zyu {n : Net} {w : List ByteArray} {x : Nd} {q : List Nd} {t i : Nat} (hi : i < q.length) : gti (zf3 n w x q t) i = gti q i := by
 rcases zk3 n w x q t with h | ⟨y, h⟩ <;> rw [h]
 rw [gti_app, if_pos hi]
theorem zd7 (n : Net) (w : List ByteArray) (most : Int) (x : Nd) (q : List Nd) : ∀ k, q.length ≤ (zb4 n w most x q k).length
 | 0 => Nat.le_refl _
 | k + 1 => by
  have h1 := zd7 n w most x q k
  have h2 := (zpc n w x (zb4 n w most x q k) k).1
  unfold zb4
  split <;> omega
theorem zk7 (n : Net) (w : List ByteArray) (most : Int) (x : Nd) (q : List Nd) (hq : (q.length : Int) ≤ most + 1) : ∀ k, ((zb4 n w most x q k).length : Int) ≤ most + 1
 | 0 => hq
 | k + 1 => by
  have h1 := zk7 n w most x q hq k
  have h2 := (zpc n w x (zb4 n w most x q k) k).2
  unfold zb4
  split <;> omega
theorem zf4 {n : Net} {w : List ByteArray} {most : Int} {x : Nd} {q : List Nd} {i : Nat} (hi : i < q.length) : ∀ k, gti (zb4 n w most x q k) i = gti q i
 | 0 => rfl
 | k + 1 => by
  have h1 := zf4 (n := n) (w := w) (most := most) (x := x) hi k
  have h2 := zd7 n w most x q k
  unfold zb4
  split
  ·
   rw [zyu (by omega)]; exact h1
  ·
   exact h1
theorem zgn {n : Net} {w : List ByteArray} {most : Int} {x : Nd} {q : List Nd} {k : Nat} (h : most < (zb4 n w most x q k).length) : ∀ j, zb4 n w most x q (k + j) = zb4 n w most x q k
 | 0 => rfl
 | j + 1 => by
  have h1 := zgn h j
  rw [show k + (j + 1) = (k + j) + 1 by omega]
  rw [zb4, h1, if_neg (by omega)]
theorem zpj {n : Net} {w : List ByteArray} {most : Int} {x : Nd} {q : List Nd} (h : most < q.length) (k : Nat) : zb4 n w most x q k = q := by
 have := zgn (n := n) (w := w) (most := most) (x := x) (q := q) (k := 0) h k
 rw [Nat.zero_add] at this
 exact this
structure QF (n : Net) (w : List ByteArray) (q : List Nd) : Prop where
 at_ : ∀ i, i < q.length → zc9 n (gti q i).m = true ∧ 0 ≤ (gti q i).k ∧ (gti q i).k ≤ w.length ∧ (gti q i).run.length ≤ i
theorem QF.step {n : Net} {w : List ByteArray} {q : List Nd} {i : Nat} (h : QF n w q) (hi : i < q.length) {x : Nd} (hx : x = gti q i) (t : Nat) : QF n w (zf3 n w x q t) := by
 subst hx
 unfold zf3
 split
 ·
  exact h
 ·
  rename_i k hk
  split
  ·
   exact h
  ·
   rename_i hc
   rw [not_or] at hc
   obtain ⟨a1, a2, a3, a4⟩ := h.at_ i hi
   refine ⟨fun j hj => ?_⟩
   rw [gti_app]
   split
   ·
    rename_i hlt; exact h.at_ j hlt
   ·
    have hj2 : j = q.length := by simp at hj; omega
    subst hj2
    rw [Nat.sub_self]
    have e : gti [(⟨k, (zci n (gti q i).m t).1, (gti q i).run ++ [(t : Int)]⟩ : Nd)] 0 = ⟨k, (zci n (gti q i).m t).1, (gti q i).run ++ [(t : Int)]⟩ := rfl
    rw [e]
    refine ⟨zjr a1 (Decidable.not_not.1 hc.1), ?_, ?_, ?_⟩
    ·
     unfold lblK at hk
     dsimp only
     split at hk
     ·
      cases hk; exact a2
     ·
      split at hk
      ·
       cases hk
      ·
       cases hk; omega
    ·
     unfold lblK at hk
     dsimp only
     split at hk
     ·
      cases hk; exact a3
     ·
      split at hk
      ·
       cases hk
      ·
       rename_i hh
       rw [not_or] at hh
       cases hk; omega
    ·
     simp; omega
theorem QF.round {n : Net} {w : List ByteArray} {most : Int} {q : List Nd} {i : Nat} (h : QF n w q) (hi : i < q.length) : ∀ k, QF n w (zb4 n w most (gti q i) q k)
 | 0 => h
 | k + 1 => by
  have h1 := QF.round (most := most) h hi k
  have h2 := zd7 n w most (gti q i) q k
  have h3 := zf4 (n := n) (w := w) (most := most) (x := gti q i) hi k
  unfold zb4
  split
  ·
   exact h1.step (i := i) (by omega) h3.symm k
  ·
   exact h1
theorem zpd {n : Net} {w : List ByteArray} {most : Int} {q : List Nd} (hq : (q.length : Int) = most + 1) : ∀ (f i : Nat), most.toNat < f + i → (i : Int) ≤ most → zfr n w most f i q = match ((q.take most.toNat).drop i).find? (zgc n w) with | some y => (true, y.run, 0) | none => (false, [], 13)
 | 0, i, hf, hi => by omega
 | f + 1, i, hf, hi => by
  have hlen : (q.take most.toNat).length = most.toNat := by simp; omega
  unfold zfr
  by_cases hlt : (i : Int) < most
  ·
   rw [if_pos ⟨by omega, hlt⟩]
   have hd : (q.take most.toNat).drop i = gti q i :: (q.take most.toNat).drop (i + 1) := by
    rw [List.drop_eq_getElem_cons (by omega)]
    congr 1
    rw [List.getElem_take]
    unfold gti
    rw [List.getElem?_eq_getElem (by omega)]; rfl
   rw [hd, List.find?_cons]
   cases hdn : zgc n w (gti q i) with
   | true => rfl
   | false =>
    rw [zpj (by omega)]
    simp only [Bool.false_eq_true, if_false]
    exact zpd hq f (i + 1) (by omega) (by omega)
  ·
   rw [if_neg (by omega), if_pos (by omega)]
   rw [List.drop_of_length_le (by omega)]
   rfl
end Go.Proofs.YtohmldibkojkfaaGreatDoor
end
