import Derived.Test.YtohmldibkojkfaaGreatDoorJB42
import Derived.Test.YtohmldibkojkfaaGreatDoorJB43
import Derived.Test.YtohmldibkojkfaaGreatDoorJB45
set_option linter.unusedSimpArgs false
set_option linter.unusedVariables false
set_option linter.unusedSectionVars false
section
namespace Go.Proofs.YtohmldibkojkfaaGreatDoor.Aw
open Go Go.RowKit Go.Proofs Dl
theorem zkh {n d : Int} (hd : 0 < d) (h : (zcy n d).e = 0) : ∃ g : Int, 0 < g ∧ n = g * (zcy n d).n ∧ d = g * (zcy n d).d ∧ (frE (zcy n d)).ok := by
 unfold zcy at h ⊢
 rw [if_neg (by omega)] at h ⊢
 cases hk : mkF n d with
 | none => rw [hk] at h; cases h
 | some f =>
  have hok := mkF_ok (by omega) hk
  unfold mkF at hk
  split at hk
  ·
   injection hk with hk
   subst hk
   refine ⟨(Int.gcd n d : Int), by have : 0 < Int.gcd n d := Int.gcd_pos_iff.2 (Or.inr (show d ≠ 0 by omega)); omega, ?_, ?_, hok⟩
   ·
    show n = (Int.gcd n d : Int) * (Int.sign d * (n / (Int.gcd n d : Int)))
    rw [Int.sign_eq_one_of_pos hd, Int.one_mul, Int.mul_ediv_cancel' (Int.gcd_dvd_left ..)]
   ·
    show d = (Int.gcd n d : Int) * ((d.natAbs : Int) / (Int.gcd n d : Int))
    rw [Int.natAbs_of_nonneg (by omega), Int.mul_ediv_cancel' (Int.gcd_dvd_right ..)]
  ·
   cases hk
theorem zzf {n d : Int} (hd : 0 < d) (h : (zcy n d).e = 0) : ((zcy n d).n = 1 ∧ (zcy n d).d = 1) ↔ n = d := by
 obtain ⟨g, hg, h1, h2, h3⟩ := zkh hd h
 generalize zcy n d = f at h h1 h2 h3
 constructor
 ·
  rintro ⟨a, b⟩
  rw [h1, h2, a, b]
 ·
  intro hnd
  have hnd' : f.n = f.d := by
   have : g * f.n = g * f.d := by omega
   exact Int.eq_of_mul_eq_mul_left (by omega) this
  obtain ⟨_, _, h6, _, h5⟩ := h3
  replace h5 : Int.gcd f.n f.d = 1 := h5
  replace h6 : 1 ≤ f.d := h6
  rw [hnd', Int.gcd_self] at h5
  omega
theorem zi1 (n : Net) (c : Cst) (most : Int) : ∀ (vs : List Vr) (a b : Int), (∀ v ∈ vs, okV v = true) → 0 ≤ a → (zdc n c most vs a b).2.2 = 0 →
  (∀ v ∈ vs, (zb5 n v.acts c most).2 = 0 ∧ (zcs n v.acts c most).2 = 0) ∧ 0 ≤ (zdc n c most vs a b).1 ∧ ((zdc n c most vs a b).1 = 0 ↔ a = 0 ∧ ∀ v ∈ vs, (zb5 n v.acts c most).1 = 0) ∧ (a ≤ b → (zdc n c most vs a b).1 ≤ (zdc n c most vs a b).2.1)
 | [], a, b, _, ha, h => ⟨fun v hv => (by cases hv), ha, ⟨fun h => ⟨h, fun v hv => (by cases hv)⟩, fun h => h.1⟩, fun h => h⟩
 | v :: vs, a, b, hv, ha, h => by
  unfold zdc at h ⊢
  by_cases h1 : (zb5 n v.acts c most).2 ≠ 0
  ·
   rw [if_pos h1] at h; exact absurd h h1
  rw [if_neg h1] at h ⊢
  by_cases h2 : (zcs n v.acts c most).2 ≠ 0
  ·
   rw [if_pos h2] at h; exact absurd h h2
  rw [if_neg h2] at h ⊢
  have hl := zga n v.acts c most
  have hok := hv v (by simp)
  unfold okV at hok
  simp only [Bool.and_eq_true, decide_eq_true_eq] at hok
  have hc : 1 ≤ v.cnt := hok.2.2.1
  have hm : 0 ≤ v.cnt * (zb5 n v.acts c most).1 := Int.mul_nonneg (by omega) hl.1
  have hlw := zrr (Decidable.not_not.1 h1) (Decidable.not_not.1 h2)
  have hmw : v.cnt * (zb5 n v.acts c most).1 ≤ v.cnt * (zcs n v.acts c most).1 := Int.mul_le_mul_of_nonneg_left hlw (by omega)
  obtain ⟨g1, g2, g3, g4⟩ := zi1 n c most vs _ (b + v.cnt * (zcs n v.acts c most).1) (fun u hu => hv u (by simp [hu])) (show 0 ≤ a + v.cnt * (zb5 n v.acts c most).1 by omega) h
  refine ⟨fun u hu => ?_, g2, ?_, fun hab => g4 (by omega)⟩
  ·
   rcases List.mem_cons.1 hu with rfl | hu
   ·
    exact ⟨Decidable.not_not.1 h1, Decidable.not_not.1 h2⟩
   ·
    exact g1 u hu
  ·
   rw [g3]
   constructor
   ·
    rintro ⟨k1, k2⟩
    have k3 : v.cnt * (zb5 n v.acts c most).1 = 0 := by omega
    have k4 : (zb5 n v.acts c most).1 = 0 := by
     rcases Int.mul_eq_zero.1 k3 with k | k
     ·
      omega
     ·
      exact k
    refine ⟨by omega, fun u hu => ?_⟩
    rcases List.mem_cons.1 hu with rfl | hu
    ·
     exact k4
    ·
     exact k2 u hu
   ·
    rintro ⟨k1, k2⟩
    have k4 := k2 v (by simp)
    rw [k4, Int.mul_zero]
    exact ⟨by omega, fun u hu => k2 u (by simp [hu])⟩
theorem zo1 {vs : List Vr} (hvv : vvB vs = true) : ∀ v ∈ vs, okV v = true := fun v hv => by
 obtain ⟨i, hi, rfl⟩ := List.mem_iff_getElem.1 hv
 have := z0j hvv hi
 rwa [show gti vs i = vs[i] from zed (List.getElem?_eq_getElem hi)] at this
theorem zr5 {n : Net} {vs : List Vr} {c : Cst} {most : Int} (h : (qFitE n vs c most).e = 0) : qcoE n vs c most = 0 ∧ (zdc n c most vs 0 0).2.2 = 0 ∧ 0 < (zdc n c most vs 0 0).2.1 ∧ qFitE n vs c most = zcy ((zdc n c most vs 0 0).2.1 - (zdc n c most vs 0 0).1) (zdc n c most vs 0 0).2.1 := by
 unfold qFitE at h ⊢
 by_cases h1 : qcoE n vs c most ≠ 0
 ·
  rw [if_pos h1] at h; exact absurd h h1
 rw [if_neg h1] at h ⊢
 by_cases h2 : (zdc n c most vs 0 0).2.2 ≠ 0
 ·
  rw [if_pos h2] at h; exact absurd h h2
 rw [if_neg h2] at h ⊢
 by_cases h3 : (zdc n c most vs 0 0).2.1 = 0
 ·
  rw [if_pos h3] at h; cases h
 rw [if_neg h3] at h ⊢
 have hq := zpn (Decidable.not_not.1 h1)
 have hb := (ztu n c most vs 0 0 0 (zo1 hq.2.2.2.1) (by show (0 : Int) ≤ 0 ∧ (0 : Int) ≤ 2306867200000 * 0; decide) (by show (0 : Int) ≤ 0 ∧ (0 : Int) ≤ 2306867200000 * 0; decide)).2.1
 exact ⟨Decidable.not_not.1 h1, Decidable.not_not.1 h2, by omega, rfl⟩
theorem ztd (n : Net) (most : Int) : ∀ (vs : List Vr) (i : Int) (b : Bool) (k : Int), pgoE n most vs i = (b, k, 0) →
  (b = true → k = 0 ∧ ∀ v ∈ vs, (FitsE n v.acts most).1 = true) ∧ (b = false → ∃ j : Nat, j < vs.length ∧ k = i + j ∧ (FitsE n (gti vs j).acts most).1 = false ∧ (FitsE n (gti vs j).acts most).2.2 = 0)
 | [], i, b, k, h => by
  cases h
  exact ⟨fun _ => ⟨rfl, fun v hv => (by cases hv)⟩, fun h => (by cases h)⟩
 | v :: vs, i, b, k, h => by
  unfold pgoE at h
  by_cases h1 : (FitsE n v.acts most).2.2 ≠ 0
  ·
   rw [if_pos h1] at h
   injection h with _ h
   injection h with _ h
   exact absurd h h1
  rw [if_neg h1] at h
  by_cases h2 : (FitsE n v.acts most).1 = false
  ·
   rw [if_pos h2] at h
   cases h
   exact ⟨fun h => (by cases h), fun _ => ⟨0, by simp, by omega, h2, Decidable.not_not.1 h1⟩⟩
  ·
   rw [if_neg h2] at h
   obtain ⟨g1, g2⟩ := ztd n most vs (i + 1) b k h
   refine ⟨fun hb => ⟨(g1 hb).1, fun u hu => ?_⟩, fun hb => ?_⟩
   ·
    rcases List.mem_cons.1 hu with rfl | hu
    ·
     simpa using h2
    ·
     exact (g1 hb).2 u hu
   ·
    obtain ⟨j, j1, j2, j3⟩ := g2 hb
    exact ⟨j + 1, by simp; omega, by omega, j3⟩
theorem zy3 {n : Net} {vs : List Vr} {c : Cst} {most : Int} (hl : 0 < c.log) (hm : 0 < c.model) (hz : c.silent = 0) (hF : (qFitE n vs c most).e = 0) {b : Bool} {k : Int} (hP : perfE n vs most = (b, k, 0)) :
  (b = true ∧ k = 0 ∧ (qFitE n vs c most).n = 1 ∧ (qFitE n vs c most).d = 1) ∨
  (b = false ∧ ¬ ((qFitE n vs c most).n = 1 ∧ (qFitE n vs c most).d = 1) ∧ ∃ j : Nat, j < vs.length ∧ k = j ∧ (FitsE n (gti vs j).acts most).1 = false ∧ (FitsE n (gti vs j).acts most).2.2 = 0) := by
 obtain ⟨f1, f2, f3, f4⟩ := zr5 hF
 obtain ⟨-, q1, q2, q3, q4, q5⟩ := zpn f1
 obtain ⟨s1, s2, s3, -⟩ := zi1 n c most vs 0 0 (zo1 q3) (Int.le_refl _) f2
 have hone := zzf (n := (zdc n c most vs 0 0).2.1 - (zdc n c most vs 0 0).1) f3 (by rw [← f4]; exact hF)
 rw [← f4] at hone
 unfold perfE at hP
 rw [q1, if_neg (by decide)] at hP
 obtain ⟨g1, g2⟩ := ztd n most vs 0 b k hP
 have hfit : ∀ v ∈ vs, (zb5 n v.acts c most).1 = 0 ↔ RunW n (oneL n.places.toNat n.source) v.acts (oneL n.places.toNat n.sink) := fun v hv => znf (s1 v hv).1 hl hm hz
 cases b with
 | true =>
  obtain ⟨k1, k2⟩ := g1 rfl
  refine .inl ⟨rfl, k1, hone.2 ?_⟩
  have : (zdc n c most vs 0 0).1 = 0 := s3.2 ⟨rfl, fun v hv => (hfit v hv).2 (by
   have h1 := k2 v hv
   exact ztr (n := n) (w := v.acts) (most := most) (l := (FitsE n v.acts most).2.1) (e := (FitsE n v.acts most).2.2) (by rw [← h1]))⟩
  omega
 | false =>
  obtain ⟨j, j1, j2, j3, j4⟩ := g2 rfl
  refine .inr ⟨rfl, fun h => ?_, j, j1, by omega, j3, j4⟩
  have h0 : (zdc n c most vs 0 0).1 = 0 := by have := hone.1 h; omega
  have h1 := (s3.1 h0).2 (gti vs j) (gti_mem j1)
  have h2 := (hfit _ (gti_mem j1)).1 h1
  exact z2s (n := n) (w := (gti vs j).acts) (most := most) (l := (FitsE n (gti vs j).acts most).2.1) (by rw [← j3, ← j4]) h2
end Go.Proofs.YtohmldibkojkfaaGreatDoor.Aw
end
