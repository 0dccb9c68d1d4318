import Derived.Test.YtjhdcgaiccnmeaaGreatDoorJB9
import Derived.Test.YtjhdcgaiccnmeaaGreatDoorJB10
import Derived.Test.YtjhdcgaiccnmeaaGreatDoorJB6
set_option linter.unusedSimpArgs false
set_option linter.unusedVariables false
set_option linter.unusedSectionVars false
namespace Go.Proofs.YtjhdcgaiccnmeaaGreatDoor
namespace Dl
open Go.RowKit
structure Gr where
 st : List (List Int)
 ed : List Edg
def idx (S : List (List Int)) (x : List Int) : Nat := if zef S x < 0 then S.length else (zef S x).toNat
def oneD (most : Int) (i : Nat) (r : List Int × Int) (g : Gr) : Option Gr :=
 if zef g.st r.1 < 0 ∧ most ≤ g.st.length then none
 else some ⟨if zef g.st r.1 < 0 then g.st ++ [r.1] else g.st, g.ed ++ [⟨i, idx g.st r.1, r.2⟩]⟩
def rowD (most : Int) (i : Nat) : List (List Int × Int) → Gr → Option Gr
 | [], g => some g
 | r :: l, g => (oneD most i r g).bind (rowD most i l)
def bfsD (nx : List Int → List (List Int × Int)) (most : Int) : Nat → Nat → Gr → Option Gr
 | 0, _, g => some g
 | f + 1, i, g => if i < g.st.length then (rowD most i (nx (gti g.st i)) g).bind (bfsD nx most f (i + 1)) else some g
section
variable {nx : List Int → List (List Int × Int)} {s0 : List Int} {most : Int} {okS : List Int → Prop}
structure BI (nx : List Int → List (List Int × Int)) (s0 : List Int) (most : Int) (okS : List Int → Prop) (g : Gr) : Prop where
 h0 : g.st[0]? = some s0
 nd : g.st.Nodup
 le : (g.st.length : Int) ≤ most
 ok : ∀ x ∈ g.st, okS x
 eok : ∀ e ∈ g.ed, e.a < g.st.length ∧ e.b < g.st.length ∧ 0 ≤ e.c ∧ e.c ≤ 1000 ∧ (gti g.st e.b, e.c) ∈ nx (gti g.st e.a)
 rch : ∀ j, j < g.st.length → ∃ d, d ≤ 1000 * (j : Int) ∧ Way g.ed j 0 d
structure NxOk (nx : List Int → List (List Int × Int)) (okS : List Int → Prop) : Prop where
 ok : ∀ x, okS x → ∀ r ∈ nx x, okS r.1 ∧ 0 ≤ r.2 ∧ r.2 ≤ 1000
 len : ∀ x, okS x → (nx x).length ≤ 4000
theorem Way.mono {M M' : List Edg} (h : ∀ e ∈ M, e ∈ M') {t k : Nat} {d : Int} (w : Way M t k d) : Way M' t k d := by
 induction w with
 | nil => exact .nil
 | cons e d he _ ih => exact .cons e d (h e he) ih
theorem zra {S : List (List Int)} {x : List Int} (h : zef S x < 0) : idx S x = S.length := by unfold idx; rw [if_pos h]
theorem zhb {S : List (List Int)} {x : List Int} (h : ¬ zef S x < 0) : S[idx S x]? = some x ∧ idx S x < S.length ∧ ((idx S x : Nat) : Int) = zef S x := by
 obtain ⟨k, h1, h2, h3⟩ := zps (S := S) (m := x) (by omega)
 have : idx S x = k := by unfold idx; rw [if_neg h, h1]; rfl
 rw [this]; exact ⟨h2, h3, h1.symm⟩
theorem zfb {α : Type} [Inhabited α] {L t : List α} {j : Nat} (h : j < L.length) : gti (L ++ t) j = gti L j := by unfold gti; rw [List.getElem?_append_left h]
theorem z1t {α : Type} [Inhabited α] {L : List α} {x : α} : gti (L ++ [x]) L.length = x := by unfold gti; simp
theorem zfa {α : Type} [Inhabited α] {L : List α} {x : α} {j : Nat} (h : L[j]? = some x) : gti L j = x := by unfold gti; rw [h]; rfl
theorem BI.init (h : okS s0) (hm : 1 ≤ most) : BI nx s0 most okS ⟨[s0], []⟩ :=
 ⟨rfl, by simp, by simpa using hm, fun x hx => by simp at hx; subst hx; exact h, by simp, fun j hj => by
  have : j = 0 := by simpa using hj
  subst this; exact ⟨0, by simp, .nil⟩⟩
theorem BI.step {g g' : Gr} {i : Nat} {r : List Int × Int} (hN : NxOk nx okS) (h : BI nx s0 most okS g) (hi : i < g.st.length) (hr : r ∈ nx (gti g.st i)) (he : oneD most i r g = some g') :
  BI nx s0 most okS g' ∧ (∃ T, g'.st = g.st ++ T) ∧ g'.ed = g.ed ++ [⟨i, idx g.st r.1, r.2⟩] ∧ g'.st[idx g.st r.1]? = some r.1 := by
 have hoi := hN.ok _ (h.ok _ (gti_mem hi)) r hr
 unfold oneD at he
 split at he
 ·
  cases he
 ·
  rename_i hno
  cases he
  have hx0 : gti g.st 0 = s0 := zfa h.h0
  by_cases hf : zef g.st r.1 < 0
  ·
   simp only [if_pos hf]
   have hid := zra hf
   rw [hid]
   have hlt : ¬ most ≤ g.st.length := fun hc => hno ⟨hf, hc⟩
   have hnm : r.1 ∉ g.st := zf3.1 hf
   refine ⟨⟨?_, ?_, by simp; omega, fun x hx => ?_, fun e hx => ?_, fun j hj => ?_⟩, ⟨_, rfl⟩, trivial, by simp⟩
   ·
    show (g.st ++ [r.1])[0]? = _
    rw [List.getElem?_append_left (by omega)]; exact h.h0
   ·
    refine List.nodup_append.2 ⟨h.nd, by simp, fun a ha b hb e => ?_⟩
    simp at hb; subst hb e; exact hnm ha
   ·
    rcases List.mem_append.1 hx with hx | hx
    ·
     exact h.ok x hx
    ·
     simp at hx; subst hx; exact hoi.1
   ·
    have e1 : (g.st ++ [r.1]).length = g.st.length + 1 := by simp
    rcases List.mem_append.1 hx with hx | hx
    ·
     obtain ⟨q1, q2, q3, q4, q5⟩ := h.eok e hx
     refine ⟨by simp; omega, by simp; omega, q3, q4, ?_⟩
     show (gti (g.st ++ [r.1]) e.b, e.c) ∈ nx (gti (g.st ++ [r.1]) e.a)
     rw [zfb q1, zfb q2]; exact q5
    ·
     simp at hx; subst hx
     refine ⟨by simp; omega, by simp, hoi.2.1, hoi.2.2, ?_⟩
     show (gti (g.st ++ [r.1]) g.st.length, r.2) ∈ nx (gti (g.st ++ [r.1]) i)
     rw [zfb hi, z1t]; exact hr
   ·
    have hj2 : j < g.st.length + 1 := by simpa using hj
    by_cases hjn : j < g.st.length
    ·
     obtain ⟨d, hd, hw⟩ := h.rch j hjn
     exact ⟨d, hd, hw.mono (fun e he => List.mem_append_left _ he)⟩
    ·
     have : j = g.st.length := by omega
     subst this
     obtain ⟨d, hd, hw⟩ := h.rch i hi
     have hw2 := hw.mono (M' := g.ed ++ [⟨i, g.st.length, r.2⟩]) (fun e he => List.mem_append_left _ he)
     exact ⟨d + r.2, by have := hoi.2.2; omega, hw2.snoc (e := ⟨i, g.st.length, r.2⟩) (by simp) rfl⟩
  ·
   simp only [if_neg hf]
   obtain ⟨p1, p2, p3⟩ := zhb hf
   refine ⟨⟨h.h0, h.nd, h.le, h.ok, fun e hx => ?_, fun j hj => ?_⟩, ⟨[], by simp⟩, trivial, p1⟩
   ·
    rcases List.mem_append.1 hx with hx | hx
    ·
     exact h.eok e hx
    ·
     simp at hx; subst hx
     refine ⟨hi, p2, hoi.2.1, hoi.2.2, ?_⟩
     show (gti g.st (idx g.st r.1), r.2) ∈ nx (gti g.st i)
     rw [zfa p1]; exact hr
   ·
    obtain ⟨d, hd, hw⟩ := h.rch j hj
    exact ⟨d, hd, hw.mono (fun e he => List.mem_append_left _ he)⟩
def Clo (nx : List Int → List (List Int × Int)) (g : Gr) (i q : Nat) : Prop :=
 ∀ (k : Nat) r, k < q → (nx (gti g.st i))[k]? = some r → ∃ j, g.st[j]? = some r.1 ∧ (⟨i, j, r.2⟩ : Edg) ∈ g.ed
theorem Clo.grow {g g' : Gr} {i q : Nat} (hi : i < g.st.length) (h : Clo nx g i q) (hs : ∃ T, g'.st = g.st ++ T) (he : ∃ T, g'.ed = g.ed ++ T) : Clo nx g' i q := by
 obtain ⟨T, hs⟩ := hs
 obtain ⟨U, he⟩ := he
 intro k r hk hr
 rw [hs, zfb hi] at hr
 obtain ⟨j, h1, h2⟩ := h k r hk hr
 exact ⟨j, by rw [hs, List.getElem?_append_left (List.getElem?_eq_some_iff.1 h1).1]; exact h1, by rw [he]; exact List.mem_append_left _ h2⟩
theorem zz4 (hN : NxOk nx okS) {i : Nat} {L : List (List Int × Int)} : ∀ (l : List (List Int × Int)) (q : Nat) (g g' : Gr), BI nx s0 most okS g → i < g.st.length → nx (gti g.st i) = L → L.drop q = l →
  (∀ i', i' < i → Clo nx g i' (nx (gti g.st i')).length) → Clo nx g i q → g.ed.length ≤ 4000 * i + q → q ≤ L.length → rowD most i l g = some g' →
  BI nx s0 most okS g' ∧ (∀ i', i' < i + 1 → Clo nx g' i' (nx (gti g'.st i')).length) ∧ i + 1 ≤ g'.st.length ∧ g'.ed.length ≤ 4000 * (i + 1)
 | [], q, g, g', h, hi, hL, hd, hc, hq, hlen, hqL, he => by
  cases he
  have hql : L.length ≤ q := by
   have := congrArg List.length hd
   simp at this; omega
  refine ⟨h, fun i' hi' => ?_, by omega, ?_⟩
  ·
   by_cases e : i' < i
   ·
    exact hc i' e
   ·
    have : i' = i := by omega
    subst this
    intro k r hk hr
    rw [hL] at hk
    exact hq k r (by omega) hr
  ·
   have hl2 := hN.len _ (h.ok _ (gti_mem hi))
   rw [hL] at hl2
   omega
 | r :: l, q, g, g', h, hi, hL, hd, hc, hq, hlen, hqL', he => by
  have hqL : q < L.length := by
   by_cases hq' : q < L.length
   ·
    exact hq'
   ·
    rw [List.drop_of_length_le (by omega)] at hd; cases hd
  have hLr : L[q]? = some r := by
   have := congrArg (·[0]?) hd
   simpa using this
  unfold rowD at he
  cases h1 : oneD most i r g with
  | none => rw [h1] at he; cases he
  | some g1 =>
   rw [h1] at he
   have hrm : r ∈ nx (gti g.st i) := by rw [hL]; exact List.mem_of_getElem? hLr
   obtain ⟨b1, b2, b3, b4⟩ := h.step hN hi hrm h1
   have hst : gti g1.st i = gti g.st i := by obtain ⟨T, hT⟩ := b2; rw [hT, zfb hi]
   have hgr : i < g1.st.length := by obtain ⟨T, hT⟩ := b2; rw [hT]; simp; omega
   refine zz4 hN l (q + 1) g1 g' b1 hgr (by rw [hst, hL]) ?_ (fun i' hi' => ?_) ?_ ?_ (by omega) he
   ·
    rw [← List.tail_drop, hd]; rfl
   ·
    have := (hc i' hi').grow (by omega) b2 ⟨_, b3⟩
    have e : gti g1.st i' = gti g.st i' := by obtain ⟨T, hT⟩ := b2; rw [hT, zfb (by omega)]
    rw [e]; exact this
   ·
    intro k r' hk hr'
    by_cases hkq : k < q
    ·
     exact (hq.grow hi b2 ⟨_, b3⟩) k r' hkq hr'
    ·
     have : k = q := by omega
     subst this
     rw [hst, hL, hLr] at hr'
     cases hr'
     exact ⟨_, b4, by rw [b3]; simp⟩
   ·
    rw [b3]; simp; omega
theorem z0q (hN : NxOk nx okS) : ∀ (f i : Nat) (g g' : Gr), BI nx s0 most okS g → i ≤ g.st.length → (∀ i', i' < i → Clo nx g i' (nx (gti g.st i')).length) → g.ed.length ≤ 4000 * i → most.toNat < f + i → bfsD nx most f i g = some g' →
  BI nx s0 most okS g' ∧ (∀ i', i' < g'.st.length → Clo nx g' i' (nx (gti g'.st i')).length) ∧ g'.ed.length ≤ 4000 * g'.st.length
 | 0, i, g, g', h, hi, hc, hl, hf, he => by have := h.le; omega
 | f + 1, i, g, g', h, hi, hc, hl, hf, he => by
  unfold bfsD at he
  split at he
  ·
   rename_i hlt
   cases h1 : rowD most i (nx (gti g.st i)) g with
   | none => rw [h1] at he; cases he
   | some g1 =>
    rw [h1] at he
    obtain ⟨q1, q2, q3, q4⟩ := zz4 hN _ 0 g g1 h hlt rfl rfl hc (fun k r hk => by omega) (by omega) (Nat.zero_le _) h1
    exact z0q hN f (i + 1) g1 g' q1 q3 q2 q4 (by omega) he
  ·
   cases he
   have : i = g.st.length := by omega
   subst this
   exact ⟨h, hc, hl⟩
end
end Dl
section
open Go.RowKit
theorem zrr {n : Net} {m : List Int} {t : Int} (h : (zdi n m t).2 = 0) : zep n (zdi n m t).1 = true := by
 unfold zdi at h ⊢
 split
 ·
  rename_i hm; rw [if_pos hm] at h; exact zm3 hm h
 ·
  rename_i hm; rw [if_neg hm] at h; simp at h
theorem zlp {α : Type} [Inhabited α] (x : α) (l : List α) : gti (x :: l) 0 = x := by simp [gti]
theorem zy1 {α : Type} [Inhabited α] (x : α) (l : List α) (k : Nat) : gti (x :: l) (k + 1) = gti l k := by simp [gti]
theorem zro {n : Net} {w : List ByteArray} {s : List Int} {m : Stp} (hs : zd3 n w s = true) (h : (zfj n w s m).2 = 0) : zd3 n w (zfj n w s m).1 = true := by
 obtain ⟨h1, h2, h3, h4, h5⟩ := zce.1 hs
 rw [zce]
 have hat : ∀ a, ¬ atB w (gti s 0) a = false → gti s 0 + 1 ≤ w.length := by
  intro a ha
  unfold atB at ha
  simp at ha
  omega
 refine ⟨h1, ?_⟩
 unfold zfj at h ⊢
 by_cases c1 : m.kind = 2
 ·
  rw [if_pos c1] at h ⊢
  by_cases c2 : m.trans ≠ -1
  ·
   rw [if_pos c2] at h; simp at h
  rw [if_neg c2] at h ⊢
  by_cases c3 : zgj m.act = false
  ·
   rw [if_pos c3] at h; simp at h
  rw [if_neg c3] at h ⊢
  by_cases c4 : atB w (gti s 0) m.act = false
  ·
   rw [if_pos c4] at h; simp at h
  rw [if_neg c4] at h ⊢
  have := hat _ c4
  simp only [zlp, List.length_cons, List.drop_succ_cons, List.drop_zero]
  exact ⟨by omega, by omega, this, h5⟩
 ·
  rw [if_neg c1] at h ⊢
  by_cases c2 : m.trans < 0 ∨ (n.trans.length : Int) ≤ m.trans
  ·
   rw [if_pos c2] at h; simp at h
  rw [if_neg c2] at h ⊢
  by_cases c3 : m.act ≠ (gti n.trans m.trans.toNat).label ∨ (gti n.trans m.trans.toNat).label.toList.isEmpty ≠ decide (m.kind = 4)
  ·
   rw [if_pos c3] at h; simp at h
  rw [if_neg c3] at h ⊢
  by_cases c4 : m.kind = 1 ∧ atB w (gti s 0) m.act = false
  ·
   rw [if_pos c4] at h; simp at h
  rw [if_neg c4] at h ⊢
  by_cases c5 : (zdi n (s.drop 1) m.trans).2 ≠ 0
  ·
   rw [if_pos c5] at h; exact absurd h c5
  rw [if_neg c5] at h ⊢
  simp only [zlp, List.length_cons, List.drop_succ_cons, List.drop_zero]
  refine ⟨by omega, by split <;> omega, ?_, zrr (by simpa using c5)⟩
  split
  ·
   rename_i hk
   exact hat _ (fun hf => c4 ⟨hk, hf⟩)
  ·
   exact h4
theorem zta : ∀ {m : List Int}, (∀ k, k < m.length → 0 ≤ gti m k ∧ gti m k ≤ 100) → zje m = true
 | [], _ => rfl
 | x :: m, h => by
  have h0 := h 0 (by simp)
  rw [zlp] at h0
  rw [zje, if_neg (by omega)]
  exact zta (fun k hk => by have := h (k + 1) (by simp; omega); rwa [zy1] at this)
theorem zvt {n : Net} (p : Int) (h : 1 ≤ n.places) : zev n (oneL n.places.toNat p) = true := by
 rw [zev, if_neg (by rw [zg1]; omega)]
 refine zta (fun k hk => ?_)
 unfold oneL
 rw [zhq]
 split
 ·
  omega
 ·
  unfold gti
  rw [List.getElem?_replicate]
  split <;> simp
theorem zxy {n : Net} {w : List ByteArray} {s : List Int} {m : Stp} (hs : zd3 n w s = true) (hk : zg8 m.kind = true) : zd2 n w s m = zfj n w s m := by
 rw [zd2, hs, hk]; rfl
end
end Go.Proofs.YtjhdcgaiccnmeaaGreatDoor
