import Derived.Test.YtllkbjcemecmjaaJR7
import Derived.Test.YtllkbjcemecmjaaJR5
import Derived.Test.YtllkbjcemecmjaaJR6
import Derived.Test.YtllkbjcemecmjaaJR4
set_option linter.unusedSimpArgs false
set_option linter.unusedVariables false
set_option linter.unusedSectionVars false
section
namespace Go.Proofs.Ytllkbjcemecmjaa.Aw
open Go.RowKit
open Bl (Tab Can Pv Step)
theorem fe_of2 {o : Option Fr} (h : (FE.of o).e = 0) : ∃ c, o = some c ∧ (FE.of o).fr = c := by
 cases o with
 | none => cases h
 | some c => exact ⟨c, rfl, rfl⟩
theorem smul_val {a b : Fr} (ha : a.ok) (hb : b.ok) (h : (mulE a b).e = 0) : (mulE a b).fr.ok ∧ val (mulE a b).fr = val a * val b := by
 unfold mulE at h ⊢
 rw [Fr.okB_of ha, Fr.okB_of hb] at h ⊢
 obtain ⟨c, h1, h2⟩ := fe_of2 (o := fmul a b) h
 have e : (if (true && true) = true then FE.of (fmul a b) else FE.err 1).fr = c := h2
 rw [e]
 exact ⟨mkF_ok (by have := Int.mul_pos (d_pos ha) (d_pos hb); omega) h1, val_mul ha hb h1⟩
theorem ssub_val {a b : Fr} (ha : a.ok) (hb : b.ok) (h : (subE a b).e = 0) : (subE a b).fr.ok ∧ val (subE a b).fr = val a - val b := by
 unfold subE at h ⊢
 rw [Fr.okB_of ha, Fr.okB_of hb] at h ⊢
 obtain ⟨c, h1, h2⟩ := fe_of2 (o := fsub a b) h
 have e : (if (true && true) = true then FE.of (fsub a b) else FE.err 1).fr = c := h2
 rw [e]
 exact ⟨mkF_ok (by have := Int.mul_pos (d_pos ha) (d_pos (fneg_ok hb)); omega) h1, val_sub ha hb h1⟩
theorem val_divN {a b c : Fr} (ha : a.ok) (hb : b.ok) (hp : b.n ≠ 0) (h : fdiv a b = some c) : val c = val a / val b := by
 have e1 := cast_ne (d_pos ha)
 have e2 := cast_ne (d_pos hb)
 have e3 : (b.n : Rat) ≠ 0 := by exact_mod_cast hp
 by_cases hq : 0 < b.n
 ·
  rw [val_mkF (Int.mul_pos (d_pos ha) hq) h]
  unfold val
  push_cast
  grind
 ·
  have hq2 : 0 < -b.n := by omega
  unfold fdiv at h
  rw [← mkF_neg, ← Int.mul_neg, ← Int.mul_neg] at h
  rw [val_mkF (Int.mul_pos (d_pos ha) hq2) h]
  unfold val
  push_cast
  grind
theorem divE_val {a b : Fr} (ha : a.ok) (hb : b.ok) (h : (divE a b).e = 0) : b.n ≠ 0 ∧ (divE a b).fr.ok ∧ val (divE a b).fr = val a / val b := by
 unfold divE at h ⊢
 rw [Fr.okB_of ha, Fr.okB_of hb] at h ⊢
 by_cases hn : b.n = 0
 ·
  simp only [Bool.and_self, if_true, if_pos hn] at h; cases h
 ·
  simp only [Bool.and_self, if_true, if_neg hn] at h ⊢
  obtain ⟨c, h1, h2⟩ := fe_of2 (o := fdiv a b) h
  rw [h2]
  exact ⟨hn, mkF_ok (by have h3 := d_pos ha; intro e; rcases Int.mul_eq_zero.1 e with h | h <;> omega) h1, val_divN ha hb hn h1⟩
theorem val_z {a : Fr} (h : a.n = 0) : val a = 0 := by unfold val; rw [h, Rat.div_def]; exact Rat.zero_mul _
theorem val_nz {a : Fr} (ha : a.ok) (h : a.n ≠ 0) : val a ≠ 0 := by
 have e2 := cast_ne (d_pos ha)
 have e3 : (a.n : Rat) ≠ 0 := by exact_mod_cast h
 unfold val
 intro e
 have : (a.n : Rat) = 0 := by grind
 exact e3 this
theorem val_pos_iff {a : Fr} (ha : a.ok) : 0 < val a ↔ 0 < a.n := by
 constructor
 ·
  intro h
  refine Classical.byContradiction fun hn => ?_
  have h1 := val_nn (a := fneg a) ⟨fneg_ok ha, by simp only [fneg]; omega⟩
  rw [val_neg] at h1
  grind
 ·
  intro h
  have h1 := val_nn (a := a) ⟨ha, by omega⟩
  have h2 := val_nz ha (by omega)
  grind
theorem val_neg_iff {a : Fr} (ha : a.ok) : val a < 0 ↔ a.n < 0 := by
 have h1 := val_pos_iff (fneg_ok ha)
 rw [val_neg] at h1
 simp only [fneg] at h1
 constructor
 ·
  intro h; have := h1.1 (by grind); omega
 ·
  intro h; have := h1.2 (by omega); grind
theorem gtiF_cons0 (a : Fr) (l : List Fr) : gti (a :: l) 0 = a := rfl
theorem gtiF_consS (a : Fr) (l : List Fr) (j : Nat) : gti (a :: l) (j + 1) = gti l j := by simp [gti]
theorem gtiF_drop1 (l : List Fr) (j : Nat) : gti (l.drop 1) j = gti l (j + 1) := by simp [gti, Nat.add_comm]
theorem lessL_ok {by_ : Fr} (hby : by_.ok) : ∀ (xs bs : List Fr), xs.length ≤ bs.length → (∀ x ∈ xs, x.ok) → (∀ x ∈ bs, x.ok) → (zdo by_ xs bs).2 = 0 →
  (zdo by_ xs bs).1.length = xs.length ∧ (∀ x ∈ (zdo by_ xs bs).1, x.ok) ∧ ∀ j, j < xs.length → val (gti (zdo by_ xs bs).1 j) = val (gti xs j) - val by_ * val (gti bs j)
 | [], bs, _, _, _, _ => ⟨rfl, by simp [zdo], fun j hj => by simp at hj⟩
 | a :: xs, bs, hl, ha, hb, h => by
  have hb0 : (gti bs 0).ok := hb _ (zdm (by simp at hl; omega))
  unfold zdo at h ⊢
  by_cases h1 : (mulE by_ (gti bs 0)).e ≠ 0
  ·
   simp only [if_pos h1] at h; exact absurd h h1
  ·
   simp only [if_neg h1] at h ⊢
   obtain ⟨k1, k2⟩ := smul_val hby hb0 (Decidable.not_not.1 h1)
   by_cases h2 : (subE a (mulE by_ (gti bs 0)).fr).e ≠ 0
   ·
    simp only [if_pos h2] at h; exact absurd h h2
   ·
    simp only [if_neg h2] at h ⊢
    obtain ⟨k3, k4⟩ := ssub_val (ha a (by simp)) k1 (Decidable.not_not.1 h2)
    by_cases h3 : (zdo by_ xs (bs.drop 1)).2 ≠ 0
    ·
     simp only [if_pos h3] at h; exact absurd h h3
    ·
     simp only [if_neg h3] at h ⊢
     obtain ⟨i1, i2, i3⟩ := lessL_ok hby xs (bs.drop 1) (by simp at hl ⊢; omega) (fun x hx => ha x (by simp [hx])) (fun x hx => hb x (List.mem_of_mem_drop hx)) (Decidable.not_not.1 h3)
     refine ⟨congrArg (· + 1) i1, fun x hx => ?_, fun j hj => ?_⟩
     ·
      rcases List.mem_cons.1 hx with rfl | hx
      ·
       exact k3
      ·
       exact i2 x hx
     ·
      cases j with
      | zero => rw [gtiF_cons0, gtiF_cons0, k4, k2]
      | succ j => rw [gtiF_consS, gtiF_consS, i3 j (by simpa using hj), gtiF_drop1]
theorem divL_ok {by_ : Fr} (hby : by_.ok) : ∀ (xs : List Fr), (∀ x ∈ xs, x.ok) → (divL by_ xs).2 = 0 →
  (divL by_ xs).1.length = xs.length ∧ (∀ x ∈ (divL by_ xs).1, x.ok) ∧ (xs ≠ [] → by_.n ≠ 0) ∧ ∀ j, j < xs.length → val (gti (divL by_ xs).1 j) = val (gti xs j) / val by_
 | [], _, _ => ⟨rfl, by simp [divL], fun h => absurd rfl h, fun j hj => by simp at hj⟩
 | a :: xs, ha, h => by
  unfold divL at h ⊢
  by_cases h1 : (divE a by_).e ≠ 0
  ·
   simp only [if_pos h1] at h; exact absurd h h1
  ·
   simp only [if_neg h1] at h ⊢
   obtain ⟨k0, k1, k2⟩ := divE_val (ha a (by simp)) hby (Decidable.not_not.1 h1)
   by_cases h3 : (divL by_ xs).2 ≠ 0
   ·
    simp only [if_pos h3] at h; exact absurd h h3
   ·
    simp only [if_neg h3] at h ⊢
    obtain ⟨i1, i2, i3, i4⟩ := divL_ok hby xs (fun x hx => ha x (by simp [hx])) (Decidable.not_not.1 h3)
    refine ⟨by simp [i1], fun x hx => ?_, fun _ => k0, fun j hj => ?_⟩
    ·
     rcases List.mem_cons.1 hx with rfl | hx
     ·
      exact k1
     ·
      exact i2 x hx
    ·
     cases j with
     | zero => rw [gtiF_cons0, gtiF_cons0, k2]
     | succ j => rw [gtiF_consS, gtiF_consS, i4 j (by simpa using hj)]
structure TbOk (m N : Nat) (t : Tb) : Prop where
 rl : t.rows.length = m
 rw_ : ∀ r ∈ t.rows, r.length = N + 1 ∧ ∀ x ∈ r, x.ok
 cl : t.cost.length = N + 1
 co : ∀ x ∈ t.cost, x.ok
 bl : t.bas.length = m
 bs : ∀ i, i < m → 0 ≤ gti t.bas i ∧ gti t.bas i < N
def zda (t : Tb) : Tab := ⟨fun i j => val (gti (gti t.rows i) j), fun j => val (gti t.cost j), fun i => (gti t.bas i).toNat⟩
theorem TbOk.row {m N : Nat} {t : Tb} (h : TbOk m N t) {i : Nat} (hi : i < m) : (gti t.rows i).length = N + 1 ∧ ∀ x ∈ gti t.rows i, x.ok := h.rw_ _ (zdm (by rw [h.rl]; exact hi))
theorem TbOk.cell {m N : Nat} {t : Tb} (h : TbOk m N t) {i j : Nat} (hi : i < m) (hj : j ≤ N) : (gti (gti t.rows i) j).ok := by
 obtain ⟨h1, h2⟩ := h.row hi
 exact h2 _ (zdm (by omega))
theorem TbOk.cc {m N : Nat} {t : Tb} (h : TbOk m N t) {j : Nat} (hj : j ≤ N) : (gti t.cost j).ok := h.co _ (zdm (by have := h.cl; omega))
theorem gtiL_set (l : List (List Fr)) (i j : Nat) (r : List Fr) (h : i < l.length) : gti (l.set i r) j = if i = j then r else gti l j := by
 unfold gti
 by_cases e : i = j
 ·
  subst e; rw [if_pos rfl, List.getElem?_set_self h]; rfl
 ·
  rw [if_neg e, List.getElem?_set_ne e]
theorem gtiI_set (l : List Int) (i j : Nat) (r : Int) (h : i < l.length) : gti (l.set i r) j = if i = j then r else gti l j := by
 unfold gti
 by_cases e : i = j
 ·
  subst e; rw [if_pos rfl, List.getElem?_set_self h]; rfl
 ·
  rw [if_neg e, List.getElem?_set_ne e]
theorem TbOk.setRow {m N : Nat} {t : Tb} (h : TbOk m N t) {i : Nat} {r : List Fr} (hr : r.length = N + 1) (ho : ∀ x ∈ r, x.ok) (e : Int) : TbOk m N { t with rows := t.rows.set i r, e := e } :=
 ⟨by show (t.rows.set i r).length = m; rw [List.length_set]; exact h.rl, fun x hx => by
  rcases List.mem_or_eq_of_mem_set hx with hx | rfl
  ·
   exact h.rw_ x hx
  ·
   exact ⟨hr, ho⟩, h.cl, h.co, h.bl, h.bs⟩
theorem pivJ_ok {m N i k : Nat} {row : List Fr} (hk : k ≤ N) (hrl : row.length = N + 1) (hro : ∀ x ∈ row, x.ok) : ∀ (f j : Nat) (t : Tb), TbOk m N t → t.e = 0 → f + j = m → (pivJ i k row f j t).e = 0 →
  TbOk m N (pivJ i k row f j t) ∧ (pivJ i k row f j t).cost = t.cost ∧ (pivJ i k row f j t).bas = t.bas ∧ (pivJ i k row f j t).last = t.last ∧
  (∀ q, q < m → (q < j ∨ q = i) → gti (pivJ i k row f j t).rows q = gti t.rows q) ∧
  ∀ q, q < m → j ≤ q → q ≠ i → ∀ v, v ≤ N → val (gti (gti (pivJ i k row f j t).rows q) v) = val (gti (gti t.rows q) v) - val (gti (gti t.rows q) k) * val (gti row v)
 | 0, j, t, ht, _, hf, _ => ⟨ht, rfl, rfl, rfl, fun _ _ _ => rfl, fun q h1 h2 => by omega⟩
 | f + 1, j, t, ht, he, hf, h => by
  unfold pivJ at h ⊢
  have hj : j < m := by omega
  by_cases hc : j = i ∨ (gti (gti t.rows j) k).n = 0
  ·
   simp only [if_pos hc] at h ⊢
   obtain ⟨a1, a2, a3, a4, a5, a6⟩ := pivJ_ok hk hrl hro f (j + 1) t ht he (by omega) h
   refine ⟨a1, a2, a3, a4, fun q hq h1 => a5 q hq (by omega), fun q hq h1 h2 v hv => ?_⟩
   by_cases e : q = j
   ·
    subst e
    rw [a5 q hq (by omega)]
    rcases hc with hc | hc
    ·
     exact absurd hc h2
    ·
     rw [val_z hc]; grind
   ·
    exact a6 q hq (by omega) h2 v hv
  ·
   simp only [if_neg hc] at h ⊢
   have hc2 : j ≠ i := fun e => hc (.inl e)
   obtain ⟨b1, b2⟩ := ht.row hj
   by_cases h1 : (zdo (gti (gti t.rows j) k) (gti t.rows j) row).2 ≠ 0
   ·
    simp only [if_pos h1] at h; exact absurd h h1
   ·
    simp only [if_neg h1] at h ⊢
    obtain ⟨c1, c2, c3⟩ := lessL_ok (ht.cell hj hk) (gti t.rows j) row (by omega) b2 hro (Decidable.not_not.1 h1)
    have hset := gtiL_set t.rows j
    have ht' := ht.setRow (i := j) (r := (zdo (gti (gti t.rows j) k) (gti t.rows j) row).1) (by omega) c2 t.e
    obtain ⟨a1, a2, a3, a4, a5, a6⟩ := pivJ_ok hk hrl hro f (j + 1) _ ht' he (by omega) h
    refine ⟨a1, a2, a3, a4, fun q hq h2 => ?_, fun q hq h2 h3 v hv => ?_⟩
    ·
     rw [a5 q hq (by omega)]
     show gti (t.rows.set j _) q = _
     rw [gtiL_set _ _ _ _ (by rw [ht.rl]; exact hj), if_neg (by omega)]
    ·
     by_cases e : q = j
     ·
      subst e
      rw [a5 q hq (by omega)]
      show val (gti (gti (t.rows.set q _) q) v) = _
      rw [gtiL_set _ _ _ _ (by rw [ht.rl]; exact hj), if_pos rfl, c3 v (by omega)]
     ·
      rw [a6 q hq (by omega) h3 v hv]
      show val (gti (gti (t.rows.set j _) q) v) - val (gti (gti (t.rows.set j _) q) k) * _ = _
      rw [gtiL_set _ _ _ _ (by rw [ht.rl]; exact hj), if_neg (by omega)]
theorem pivE_ok {m N i k : Nat} {t : Tb} (ht : TbOk m N t) (he : t.e = 0) (hi : i < m) (hk : k < N) (h : (pivE i k t).e = 0) :
  TbOk m N (pivE i k t) ∧ Pv m N (zda t) (zda (pivE i k t)) i k ∧ (pivE i k t).last = t.last := by
 obtain ⟨b1, b2⟩ := ht.row hi
 unfold pivE at h ⊢
 by_cases h1 : (divL (gti (gti t.rows i) k) (gti t.rows i)).2 ≠ 0
 ·
  simp only [if_pos h1] at h; exact absurd h h1
 simp only [if_neg h1] at h ⊢
 obtain ⟨d1, d2, d3, d4⟩ := divL_ok (ht.cell hi (by omega)) (gti t.rows i) b2 (Decidable.not_not.1 h1)
 generalize (divL (gti (gti t.rows i) k) (gti t.rows i)).1 = row at h d1 d2 d4 ⊢
 have hnz : (gti (gti t.rows i) k).n ≠ 0 := d3 (by intro e; rw [e] at b1; simp at b1)
 have ht1 : TbOk m N { t with rows := t.rows.set i row, bas := t.bas.set i (k : Int) } := by
  have h2 := ht.setRow (i := i) (r := row) (by omega) d2 t.e
  refine ⟨h2.rl, h2.rw_, h2.cl, h2.co, by show (t.bas.set i (k : Int)).length = m; rw [List.length_set]; exact ht.bl, fun q hq => ?_⟩
  show 0 ≤ gti (t.bas.set i (k : Int)) q ∧ gti (t.bas.set i (k : Int)) q < N
  rw [gtiI_set _ _ _ _ (by rw [ht.bl]; exact hi)]
  split
  ·
   omega
  ·
   exact ht.bs q hq
 have hlen : t.rows.length = m := ht.rl
 rw [hlen] at h ⊢
 by_cases h2 : (pivJ i k row m 0 { t with rows := t.rows.set i row, bas := t.bas.set i (k : Int) }).e ≠ 0
 ·
  simp only [if_pos h2] at h; exact absurd h h2
 simp only [if_neg h2] at h ⊢
 obtain ⟨a1, a2, a3, a4, a5, a6⟩ := pivJ_ok (i := i) (k := k) (by omega) (by omega) d2 m 0 _ ht1 he (by omega) (Decidable.not_not.1 h2)
 have a7 : gti (pivJ i k row m 0 { t with rows := t.rows.set i row, bas := t.bas.set i (k : Int) }).rows i = row := by
  rw [a5 i hi (.inr rfl)]
  show gti (t.rows.set i row) i = row
  rw [gtiL_set _ _ _ _ (by rw [ht.rl]; exact hi), if_pos rfl]
 have a8 : ∀ q, q < m → q ≠ i → ∀ v, v ≤ N → val (gti (gti (pivJ i k row m 0 { t with rows := t.rows.set i row, bas := t.bas.set i (k : Int) }).rows q) v) = val (gti (gti t.rows q) v) - val (gti (gti t.rows q) k) * val (gti row v) := fun q hq hne v hv => by
  rw [a6 q hq (by omega) hne v hv]
  show val (gti (gti (t.rows.set i row) q) v) - val (gti (gti (t.rows.set i row) q) k) * _ = _
  rw [gtiL_set _ _ _ _ (by rw [ht.rl]; exact hi), if_neg (Ne.symm hne)]
 have hbe : (pivJ i k row m 0 { t with rows := t.rows.set i row, bas := t.bas.set i (k : Int) }).e = 0 := Decidable.not_not.1 h2
 generalize pivJ i k row m 0 { t with rows := t.rows.set i row, bas := t.bas.set i (k : Int) } = t1 at h a1 a2 a3 a4 a7 a8 hbe ⊢
 replace a2 : t1.cost = t.cost := a2
 replace a3 : t1.bas = t.bas.set i (k : Int) := a3
 replace a4 : t1.last = t.last := a4
 -- the costs
 have hcost : TbOk m N (pivC k row t1) ∧ (pivC k row t1).rows = t1.rows ∧ (pivC k row t1).bas = t1.bas ∧ (pivC k row t1).last = t1.last ∧ ∀ v, v ≤ N → val (gti (pivC k row t1).cost v) = val (gti t.cost v) - val (gti t.cost k) * val (gti row v) := by
  unfold pivC at h ⊢
  by_cases h3 : (gti t1.cost k).n = 0
  ·
   simp only [if_pos h3] at h ⊢
   refine ⟨a1, trivial, trivial, trivial, fun v hv => ?_⟩
   rw [a2] at h3 ⊢
   rw [val_z h3]; grind
  ·
   simp only [if_neg h3] at h ⊢
   rw [a2] at h ⊢
   obtain ⟨c1, c2, c3⟩ := lessL_ok (ht.cc (j := k) (by omega)) t.cost row (by have := ht.cl; omega) ht.co d2 h
   have hcl := ht.cl
   exact ⟨⟨a1.rl, a1.rw_, by show (zdo _ _ _).1.length = _; omega, c2, a1.bl, a1.bs⟩, trivial, trivial, trivial, fun v hv => c3 v (by omega)⟩
 obtain ⟨e1, e2, e3, e4, e5⟩ := hcost
 refine ⟨e1, ⟨hi, hk, val_nz (ht.cell hi (by omega)) hnz, fun v hv => ?_, fun q v hq hne hv => ?_, fun v hv => ?_, ?_, fun q hq hne => ?_⟩, e4.trans a4⟩
 ·
  show val (gti (gti (pivC k row t1).rows i) v) = _
  rw [e2, a7, d4 v (by omega)]; rfl
 ·
  show val (gti (gti (pivC k row t1).rows q) v) = _
  rw [e2, a8 q hq hne v hv, d4 v (by omega)]; rfl
 ·
  show val (gti (pivC k row t1).cost v) = _
  rw [e5 v hv, d4 v (by omega)]; rfl
 ·
  show (gti (pivC k row t1).bas i).toNat = k
  rw [e3, a3, gtiI_set _ _ _ _ (by rw [ht.bl]; exact hi), if_pos rfl]; rfl
 ·
  show (gti (pivC k row t1).bas q).toNat = (gti t.bas q).toNat
  rw [e3, a3, gtiI_set _ _ _ _ (by rw [ht.bl]; exact hi), if_neg (Ne.symm hne)]
end Go.Proofs.Ytllkbjcemecmjaa.Aw
end
section
namespace Go.Proofs.Ytllkbjcemecmjaa.Aw
open Go.RowKit
open Bl (Tab Can Pv Step Ker lin)
theorem cmpN_lt {a b : Fr} (ha : a.ok) (hb : b.ok) : cmpN a b < 0 ↔ val a < val b := by
 have h1 := val_le hb ha
 unfold cmpN
 constructor
 ·
  intro h
  split at h
  ·
   refine Rat.not_le.1 (fun hc => ?_)
   have := h1.1 hc
   omega
  ·
   split at h <;> omega
 ·
  intro h
  split
  ·
   omega
  ·
   have : val b ≤ val a := h1.2 (by omega)
   exact absurd h (Rat.not_lt.2 this)
theorem cmpN_eq {a b : Fr} (ha : a.ok) (hb : b.ok) : cmpN a b = 0 ↔ val a = val b := by
 have h1 := val_le hb ha
 have h2 := val_le ha hb
 unfold cmpN
 constructor
 ·
  intro h
  split at h
  ·
   omega
  ·
   split at h
   ·
    omega
   ·
    exact Rat.le_antisymm (h2.2 (by omega)) (h1.2 (by omega))
 ·
  intro h
  have h3 := h1.1 (by rw [h]; exact Rat.le_refl)
  have h4 := h2.1 (by rw [h]; exact Rat.le_refl)
  rw [if_neg (by omega), if_neg (by omega)]
theorem cmpE_ok {a b : Fr} (ha : a.ok) (hb : b.ok) : cmpE a b = (cmpN a b, 0) := by
 unfold cmpE
 rw [Fr.okB_of ha, Fr.okB_of hb]; rfl
def LvI (N k : Nat) (t : Tb) (i : Nat) (best : Int) (least : Fr) : Prop :=
 (best = -1 ∧ ∀ q, q < i → ¬ 0 < val (gti (gti t.rows q) k)) ∨
 ∃ b : Nat, best = b ∧ b < i ∧ least.ok ∧ 0 < val (gti (gti t.rows b) k) ∧ val least = val (gti (gti t.rows b) N) / val (gti (gti t.rows b) k) ∧
  ∀ q, q < i → 0 < val (gti (gti t.rows q) k) → val least ≤ val (gti (gti t.rows q) N) / val (gti (gti t.rows q) k) ∧ (val (gti (gti t.rows q) N) / val (gti (gti t.rows q) k) = val least → gti t.bas b ≤ gti t.bas q)
theorem lvF_ok {m N k : Nat} {t : Tb} (ht : TbOk m N t) (hk : k ≤ N) : ∀ (f i : Nat) (best : Int) (least : Fr), f + i = m → LvI N k t i best least → (lvF k t f i best least).2 = 0 → ∃ l, LvI N k t m (lvF k t f i best least).1 l
 | 0, i, best, least, hf, hI, _ => by
  have e : i = m := by omega
  subst e
  exact ⟨least, hI⟩
 | f + 1, i, best, least, hf, hI, h => by
  have hi : i < m := by omega
  obtain ⟨b1, b2⟩ := ht.row hi
  have hck := ht.cell hi hk
  have hcN := ht.cell (j := N) hi (Nat.le_refl _)
  unfold lvF at h ⊢
  dsimp only at h ⊢
  have hlen : (gti t.rows i).length - 1 = N := by omega
  rw [hlen] at h ⊢
  by_cases h1 : (gti (gti t.rows i) k).n ≤ 0
  ·
   simp only [if_pos h1] at h ⊢
   have hnp : ¬ 0 < val (gti (gti t.rows i) k) := fun hp => by have := (val_pos_iff hck).1 hp; omega
   refine lvF_ok ht hk f (i + 1) best least (by omega) ?_ h
   rcases hI with ⟨g1, g2⟩ | ⟨b, g1, g2, g3, g4, g5, g6⟩
   ·
    refine .inl ⟨g1, fun q hq => ?_⟩
    by_cases e : q = i
    ·
     subst e; exact hnp
    ·
     exact g2 q (by omega)
   ·
    refine .inr ⟨b, g1, by omega, g3, g4, g5, fun q hq hp => ?_⟩
    by_cases e : q = i
    ·
     subst e; exact absurd hp hnp
    ·
     exact g6 q (by omega) hp
  ·
   simp only [if_neg h1] at h ⊢
   have hp : 0 < val (gti (gti t.rows i) k) := (val_pos_iff hck).2 (by omega)
   by_cases h2 : (divE (gti (gti t.rows i) N) (gti (gti t.rows i) k)).e ≠ 0
   ·
    simp only [if_pos h2] at h; exact absurd h h2
   ·
    simp only [if_neg h2] at h ⊢
    obtain ⟨k0, k1, k2⟩ := divE_val hcN hck (Decidable.not_not.1 h2)
    generalize (divE (gti (gti t.rows i) N) (gti (gti t.rows i) k)).fr = r at h k1 k2 ⊢
    rcases hI with ⟨g1, g2⟩ | ⟨b, g1, g2, g3, g4, g5, g6⟩
    ·
     subst g1
     have hc : ((if (-1 : Int) < 0 then (-1 : Int) else (cmpE r least).1) < 0 ∨ ((if (-1 : Int) < 0 then (-1 : Int) else (cmpE r least).1) = 0 ∧ gti t.bas i < gti t.bas (-1 : Int).toNat)) := .inl (by simp)
     rw [if_pos hc] at h ⊢
     refine lvF_ok ht hk f (i + 1) i r (by omega) (.inr ⟨i, rfl, by omega, k1, hp, k2, fun q hq hqp => ?_⟩) h
     by_cases e : q = i
     ·
      subst e; rw [k2]; exact ⟨Rat.le_refl, fun _ => Int.le_refl _⟩
     ·
      exact absurd hqp (g2 q (by omega))
    ·
     subst g1
     have hb0 : ¬ (b : Int) < 0 := by omega
     rw [if_neg hb0, cmpE_ok k1 g3] at h ⊢
     have e1 := cmpN_lt k1 g3
     have e2 := cmpN_eq k1 g3
     have hbt : (b : Int).toNat = b := rfl
     rw [hbt] at h ⊢
     by_cases hc : cmpN r least < 0 ∨ (cmpN r least = 0 ∧ gti t.bas i < gti t.bas b)
     ·
      simp only [if_pos hc] at h ⊢
      refine lvF_ok ht hk f (i + 1) i r (by omega) (.inr ⟨i, rfl, by omega, k1, hp, k2, fun q hq hqp => ?_⟩) h
      have hle : val r ≤ val least := by
       rcases hc with hc | hc
       ·
        exact Rat.le_of_lt (e1.1 hc)
       ·
        rw [e2.1 hc.1]; exact Rat.le_refl
      by_cases e : q = i
      ·
       subst e; rw [k2]; exact ⟨Rat.le_refl, fun _ => Int.le_refl _⟩
      ·
       obtain ⟨j1, j2⟩ := g6 q (by omega) hqp
       refine ⟨Rat.le_trans hle j1, fun he => ?_⟩
       have hle2 : val least ≤ val r := by rw [← he]; exact j1
       have heq : val r = val least := Rat.le_antisymm hle hle2
       have := j2 (he.trans heq)
       rcases hc with hc | hc
       ·
        have := e1.1 hc
        rw [heq] at this
        exact absurd this (Rat.lt_irrefl)
       ·
        omega
     ·
      simp only [if_neg hc] at h ⊢
      refine lvF_ok ht hk f (i + 1) b least (by omega) (.inr ⟨b, rfl, by omega, g3, g4, g5, fun q hq hqp => ?_⟩) h
      by_cases e : q = i
      ·
       subst e
       have h3 : ¬ val r < val least := fun hlt => hc (.inl (e1.2 hlt))
       rw [← k2]
       refine ⟨Rat.not_lt.1 h3, fun he => ?_⟩
       have h4 := e2.2 he
       have : ¬ gti t.bas q < gti t.bas b := fun hlt => hc (.inr ⟨h4, hlt⟩)
       omega
      ·
       exact g6 q (by omega) hqp
theorem firstAt_get {α : Type} [Inhabited α] {p : α → Bool} {l : List α} (h : 0 ≤ zct p l) : ∃ k : Nat, zct p l = k ∧ k < l.length ∧ p (gti l k) = true ∧ ∀ j, j < k → p (gti l j) = false := by
 unfold zct at h ⊢
 cases e : l.findIdx? p with
 | none => rw [e] at h; simp at h
 | some k =>
  obtain ⟨h1, h2, h3⟩ := List.findIdx?_eq_some_iff_getElem.1 e
  refine ⟨k, rfl, h1, ?_, fun j hj => ?_⟩
  ·
   unfold Go.Proofs.Ytllkbjcemecmjaa.gti; rw [List.getElem?_eq_getElem h1]; exact h2
  ·
   have := h3 j hj
   unfold Go.Proofs.Ytllkbjcemecmjaa.gti; rw [List.getElem?_eq_getElem (by omega)]
   simpa using this
theorem gti_takeF {l : List Fr} {n j : Nat} (h : j < n) : gti (l.take n) j = gti l j := by
 unfold Go.Proofs.Ytllkbjcemecmjaa.gti; rw [List.getElem?_take, if_pos h]
theorem runS_step {m N vars : Nat} {t t' : Tb} (hv : vars ≤ N) (ht : TbOk m N t) (h : runS vars t = .inr t') (he : t'.e = 0) :
  t.e = 0 ∧ TbOk m N t' ∧ t'.last = t.last ∧ ∃ r k, Step m N vars (zda t) (zda t') r k := by
 unfold runS at h
 by_cases h0 : t.e ≠ 0
 ·
  simp only [if_pos h0] at h; cases h
 simp only [if_neg h0] at h
 have h0' := Decidable.not_not.1 h0
 by_cases h1 : zct negF (t.cost.take vars) < 0
 ·
  simp only [if_pos h1] at h; cases h
 simp only [if_neg h1] at h
 obtain ⟨k, hk, hkl, hkn, hkf⟩ := firstAt_get (p := negF) (l := t.cost.take vars) (by omega)
 have hcl := ht.cl
 have hkv : k < vars := by rw [List.length_take] at hkl; omega
 rw [hk] at h
 have hkt : (k : Int).toNat = k := rfl
 rw [hkt] at h
 by_cases h2 : (lvE k t).2 ≠ 0
 ·
  simp only [if_pos h2] at h; cases h
 simp only [if_neg h2] at h
 by_cases h3 : (lvE k t).1 < 0
 ·
  simp only [if_pos h3] at h; cases h
 simp only [if_neg h3] at h
 obtain ⟨l, hl⟩ := lvF_ok ht (k := k) (by omega) t.rows.length 0 (-1) ⟨0, 0⟩ (by rw [ht.rl]; omega) (.inl ⟨rfl, fun q hq => by omega⟩) (Decidable.not_not.1 h2)
 replace hl : LvI N k t m (lvE k t).1 l := hl
 rcases hl with ⟨g1, _⟩ | ⟨r, g1, g2, g3, g4, g5, g6⟩
 ·
  omega
 rw [g1] at h
 have hrt : (r : Int).toNat = r := rfl
 rw [hrt] at h
 injection h with h
 subst h
 obtain ⟨p1, p2, p3⟩ := pivE_ok ht h0' g2 (by omega) he
 refine ⟨h0', p1, p3, r, k, { p2 with kv := hkv, neg := ?_, first := fun j hj => ?_, pos := g4, least := fun i hi hp => ?_, tie := fun i hi hp he2 => ?_ }⟩
 ·
  rw [gti_takeF hkv] at hkn
  exact (val_neg_iff (ht.cc (by omega))).2 (of_decide_eq_true hkn)
 ·
  have := hkf j hj
  rw [gti_takeF (by omega)] at this
  have h5 : ¬ val (gti t.cost j) < 0 := fun hc => (of_decide_eq_false this) ((val_neg_iff (ht.cc (by omega))).1 hc)
  exact Rat.not_lt.1 h5
 ·
  have := (g6 i hi hp).1
  rw [g5] at this
  exact this
 ·
  have := (g6 i hi hp).2 (by rw [g5]; exact he2)
  show (gti t.bas r).toNat ≤ (gti t.bas i).toNat
  omega
theorem runE_inv {vars : Nat} (I : Tb → Prop) (hst : ∀ t t', I t → runS vars t = .inr t' → t'.e = 0 → I t') : ∀ (f : Nat) (t t' : Tb) (k : Int), I t → runE vars f t = some (t', k) → t'.e = 0 → I t'
 | 0, t, t', k, _, h, _ => by cases h
 | f + 1, t, t', k, hI, h, he => by
  unfold runE at h
  cases hr : runS vars t with
  | inl r =>
   rw [hr] at h
   cases h
   unfold runS at hr
   by_cases h0 : t.e ≠ 0
   ·
    simp only [if_pos h0] at hr; cases hr; exact hI
   simp only [if_neg h0] at hr
   split at hr
   ·
    cases hr; exact hI
   ·
    split at hr
    ·
     rename_i h2; cases hr; exact absurd he h2
    ·
     split at hr
     ·
      cases hr; exact hI
     ·
      cases hr
  | inr t1 =>
   rw [hr] at h
   replace h : runE vars f t1 = some (t', k) := h
   by_cases he1 : t1.e = 0
   ·
    exact runE_inv I hst f t1 t' k (hst t t1 hI hr he1) h he
   ·
    -- the next round stops at once
    cases f with
    | zero => cases h
    | succ f =>
     unfold runE at h
     have : runS vars t1 = .inl (t1, -1) := by unfold runS; simp only [if_pos he1]
     rw [this] at h
     cases h
     exact absurd he he1
def itS (vars : Nat) (t : Tb) : Nat → Tb
 | 0 => t
 | p + 1 => match runS vars (itS vars t p) with
  | .inr t' => t'
  | .inl _ => itS vars t p
theorem runE_none {vars : Nat} : ∀ (f : Nat) (t : Tb), runE vars f t = none → ∀ p, p < f → runS vars (itS vars t p) = .inr (itS vars t (p + 1))
 | 0, _, _, p, hp => by omega
 | f + 1, t, h, p, hp => by
  unfold runE at h
  cases hr : runS vars t with
  | inl r => rw [hr] at h; cases h
  | inr t1 =>
   rw [hr] at h
   have shift : ∀ q, itS vars t (q + 1) = itS vars t1 q := by
    intro q
    induction q with
    | zero =>
     show (match runS vars (itS vars t 0) with | .inr t' => t' | .inl _ => itS vars t 0) = _
     show (match runS vars t with | .inr t' => t' | .inl _ => t) = _
     rw [hr]; rfl
    | succ q ih =>
     show (match runS vars (itS vars t (q + 1)) with | .inr t' => t' | .inl _ => itS vars t (q + 1)) = (match runS vars (itS vars t1 q) with | .inr t' => t' | .inl _ => itS vars t1 q)
     rw [ih]
   cases p with
   | zero =>
    show runS vars t = .inr (itS vars t 1)
    rw [shift 0]; exact hr
   | succ p =>
    rw [shift p, shift (p + 1)]
    exact runE_none f t1 h p (by omega)
theorem run_halts {m N vars : Nat} (hv : vars ≤ N) {t : Tb} (ht : TbOk m N t) (hc : Bl.Can m N (zda t)) : ∃ f r, runE vars f t = some r := by
 refine Classical.byContradiction fun hno => ?_
 have hn : ∀ f, runE vars f t = none := fun f => by
  cases h : runE vars f t with
  | none => rfl
  | some r => exact absurd ⟨f, r, h⟩ hno
 have hs := fun p => runE_none (p + 1) t (hn (p + 1)) p (by omega)
 have he : ∀ p, (itS vars t p).e = 0 := fun p => by
  have h1 := hs p
  refine Classical.byContradiction fun h0 => ?_
  unfold runS at h1
  simp only [if_pos h0] at h1
  cases h1
 have hok : ∀ p, TbOk m N (itS vars t p) := by
  intro p
  induction p with
  | zero => exact ht
  | succ p ih => exact (runS_step hv ih (hs p) (he (p + 1))).2.1
 have hst : ∀ p, ∃ rk : Nat × Nat, Step m N vars (zda (itS vars t p)) (zda (itS vars t (p + 1))) rk.1 rk.2 := fun p => by
  obtain ⟨_, _, _, r, k, h⟩ := runS_step hv (hok p) (hs p) (he (p + 1))
  exact ⟨(r, k), h⟩
 have := Bl.run_short (m := m) (N := N) (vars := vars) (L := N ^ m) (T := fun p => zda (itS vars t p)) (rr := fun p => (Classical.choose (hst p)).1) (kk := fun p => (Classical.choose (hst p)).2) hc (fun p _ => Classical.choose_spec (hst p))
 omega
end Go.Proofs.Ytllkbjcemecmjaa.Aw
end
section
namespace Go.Proofs.Ytllkbjcemecmjaa.Aw
open Go.RowKit
open Bl (Tab Can Pv Step Ker lin)
theorem Pv_back {m N : Nat} {T T' : Tab} {r k : Nat} (h : Pv m N T T' r k) {x : Nat → Rat} (hx : Ker m N T' x) : Ker m N T x ∧ lin T.c x N = lin T'.c x N := by
 have hz := h.nz
 have h0 := hx r h.hr
 have h1 : lin (T.a r) x N = 0 := by
  have := Bl.lin_div (x := x) h.row
  rw [h0] at this
  have h2 : lin (T.a r) x N = lin (T.a r) x N / T.a r k * T.a r k := by grind
  rw [h2, ← this]; grind
 have hk : Ker m N T x := fun i hi => by
  by_cases e : i = r
  ·
   subst e; exact h1
  ·
   have := Bl.lin_sub (x := x) (h := T'.a i) (f := T.a i) (g := T'.a r) (z := T.a i k) (fun j hj => by rw [h.oth i j hi e hj, h.row j hj])
   rw [hx i hi, h0] at this
   grind
 exact ⟨hk, (h.ker hk).2.symm⟩
structure CanR (m N : Nat) (T : Tab) : Prop where
 lt : ∀ i, i < m → T.B i < N
 one : ∀ i, i < m → T.a i (T.B i) = 1
 off : ∀ i j, i < m → j < m → i ≠ j → T.a i (T.B j) = 0
 nn : ∀ i, i < m → 0 ≤ T.a i N
theorem prcF_ok {m N : Nat} : ∀ (f i : Nat) (t : Tb), TbOk m N t → CanR m N (zda t) → t.e = 0 → f + i = m → (∀ q, q < i → val (gti t.cost (gti t.bas q).toNat) = 0) → (prcF f i t).e = 0 →
  TbOk m N (prcF f i t) ∧ (prcF f i t).rows = t.rows ∧ (prcF f i t).bas = t.bas ∧ (prcF f i t).last = t.last ∧ (∀ q, q < m → val (gti (prcF f i t).cost (gti t.bas q).toNat) = 0) ∧
  ∀ x, Ker m N (zda t) x → lin (fun j => val (gti (prcF f i t).cost j)) x N = lin (fun j => val (gti t.cost j)) x N
 | 0, i, t, ht, hc, he, hf, hz, _ => ⟨ht, rfl, rfl, rfl, fun q hq => hz q (by omega), fun _ _ => rfl⟩
 | f + 1, i, t, ht, hc, he, hf, hz, h => by
  have hi : i < m := by omega
  unfold prcF at h ⊢
  rw [if_neg (by omega)] at h ⊢
  have hbi := ht.bs i hi
  have hBi : (gti t.bas i).toNat < N := by omega
  by_cases h1 : (gti t.cost (gti t.bas i).toNat).n = 0
  ·
   simp only [if_pos h1] at h ⊢
   exact prcF_ok f (i + 1) t ht hc he (by omega) (fun q hq => by
    by_cases e : q = i
    ·
     subst e; exact val_z h1
    ·
     exact hz q (by omega)) h
  ·
   simp only [if_neg h1] at h ⊢
   obtain ⟨b1, b2⟩ := ht.row hi
   have hcl := ht.cl
   have he2 : (zdo (gti t.cost (gti t.bas i).toNat) t.cost (gti t.rows i)).2 = 0 := by
    refine Classical.byContradiction fun hne => ?_
    cases f with
    | zero => unfold prcF at h; exact hne h
    | succ f => unfold prcF at h; rw [if_pos hne] at h; exact hne h
   obtain ⟨c1, c2, c3⟩ := lessL_ok (ht.cc (j := (gti t.bas i).toNat) (by omega)) t.cost (gti t.rows i) (by omega) ht.co b2 he2
   generalize hX : zdo (gti t.cost (gti t.bas i).toNat) t.cost (gti t.rows i) = X at h he2 c1 c2 c3 ⊢
   have ht' : TbOk m N { t with cost := X.1, e := X.2 } := ⟨ht.rl, ht.rw_, by show X.1.length = _; omega, c2, ht.bl, ht.bs⟩
   have hrow : ∀ q, q < m → val (gti (gti t.rows i) (gti t.bas q).toNat) = if i = q then 1 else 0 := fun q hq => by
    by_cases e : i = q
    ·
     subst e; rw [if_pos rfl]; exact hc.one i hi
    ·
     rw [if_neg e]; exact hc.off i q hi hq e
   obtain ⟨a1, a2, a3, a4, a5, a6⟩ := prcF_ok f (i + 1) { t with cost := X.1, e := X.2 } ht' ⟨hc.lt, hc.one, hc.off, hc.nn⟩ he2 (by omega) (fun q hq => by
    show val (gti X.1 (gti t.bas q).toNat) = 0
    have hbq := ht.bs q (by omega)
    rw [c3 _ (by omega), hrow q (by omega)]
    by_cases e : i = q
    ·
     subst e; rw [if_pos rfl]; grind
    ·
     rw [if_neg e, hz q (by omega)]; grind) h
   refine ⟨a1, a2, a3, a4, a5, fun x hx => (a6 x hx).trans ?_⟩
   have := Bl.lin_sub (x := x) (f := fun j => val (gti t.cost j)) (g := fun j => val (gti (gti t.rows i) j)) (h := fun j => val (gti X.1 j)) (z := val (gti t.cost (gti t.bas i).toNat)) (N := N) (fun j hj => c3 j (by omega))
   have h2 : lin (fun j => val (gti (gti t.rows i) j)) x N = 0 := hx i hi
   show lin (fun j => val (gti X.1 j)) x N = _
   rw [this, h2]; grind
theorem prcE_ok {m N : Nat} {t : Tb} {cost : List Fr} (ht : TbOk m N { t with cost := cost }) (hc : CanR m N (zda t)) (he : t.e = 0) (h : (prcE cost t).e = 0) :
  TbOk m N (prcE cost t) ∧ Bl.Can m N (zda (prcE cost t)) ∧ (prcE cost t).rows = t.rows ∧ (prcE cost t).bas = t.bas ∧ (prcE cost t).last = t.last ∧
  ∀ x, Ker m N (zda (prcE cost t)) x → lin (zda (prcE cost t)).c x N = lin (fun j => val (gti cost j)) x N := by
 have hbl : t.bas.length = m := ht.bl
 unfold prcE at h ⊢
 rw [hbl] at h ⊢
 obtain ⟨a1, a2, a3, a4, a5, a6⟩ := prcF_ok m 0 { t with cost := cost } ht ⟨hc.lt, hc.one, hc.off, hc.nn⟩ he (by omega) (fun q hq => by omega) h
 generalize prcF m 0 { t with cost := cost } = t' at h a1 a2 a3 a4 a5 a6 ⊢
 have ea : ∀ i j, (zda t').a i j = (zda t).a i j := fun i j => by show val (gti (gti t'.rows i) j) = _; rw [a2]; rfl
 have eb : ∀ i, (zda t').B i = (zda t).B i := fun i => by show (gti t'.bas i).toNat = _; rw [a3]; rfl
 refine ⟨a1, ⟨fun i hi => by rw [eb]; exact hc.lt i hi, fun i hi => by rw [eb, ea]; exact hc.one i hi, fun i j hi hj hij => by rw [eb, ea]; exact hc.off i j hi hj hij, fun i hi => by rw [eb]; exact a5 i hi, fun i hi => by rw [ea]; exact hc.nn i hi⟩, a2, a3, a4, fun x hx => ?_⟩
 exact a6 x (fun i hi => by
  have := hx i hi
  unfold Bl.lin at this ⊢
  rw [← this]
  exact Bl.sumR_congr (fun j _ => by rw [ea]; rfl))
theorem Can.toR {m N : Nat} {T : Tab} (h : Bl.Can m N T) : CanR m N T := ⟨h.lt, h.one, h.off, h.nn⟩
theorem run_any {m N vars : Nat} (hv : vars ≤ N) {t : Tb} (h : t.e = 0 → TbOk m N t ∧ Bl.Can m N (zda t)) : ∃ f r, runE vars f t = some r := by
 by_cases he : t.e = 0
 ·
  exact run_halts hv (h he).1 (h he).2
 ·
  refine ⟨1, (t, -1), ?_⟩
  unfold runE runS
  rw [if_pos he]
theorem gtiF_app {a b : List Fr} {j : Nat} : gti (a ++ b) j = if j < a.length then gti a j else gti b (j - a.length) := by
 unfold Go.Proofs.Ytllkbjcemecmjaa.gti
 split
 ·
  rename_i h; rw [List.getElem?_append_left h]
 ·
  rename_i h; rw [List.getElem?_append_right (by omega)]
theorem gtiF_set (l : List Fr) (i j : Nat) (r : Fr) (h : i < l.length) : gti (l.set i r) j = if i = j then r else gti l j := by
 unfold Go.Proofs.Ytllkbjcemecmjaa.gti
 by_cases e : i = j
 ·
  subst e; rw [if_pos rfl, List.getElem?_set_self h]; rfl
 ·
  rw [if_neg e, List.getElem?_set_ne e]
theorem gtiF_map {l : List Fr} {f : Fr → Fr} {j : Nat} (h : j < l.length) : gti (l.map f) j = f (gti l j) := by
 unfold Go.Proofs.Ytllkbjcemecmjaa.gti
 rw [List.getElem?_map, List.getElem?_eq_getElem h]; rfl
theorem gtiF_rep {n j : Nat} {x : Fr} (h : j < n) : gti (List.replicate n x) j = x := by
 unfold Go.Proofs.Ytllkbjcemecmjaa.gti
 rw [List.getElem?_replicate, if_pos h]; rfl
theorem of_ok {k : Int} (h : -1000 ≤ k ∧ k ≤ 1000) : (Fr.of k).ok := ⟨by show -1073741824 ≤ k; omega, by show k ≤ 1073741824; omega, by show (1 : Int) ≤ 1; omega, by show (1 : Int) ≤ _; omega, by show Int.gcd k 1 = 1; exact Int.gcd_one⟩
structure LpOk (p : LP) (n m : Nat) : Prop where
 cn : p.c.length = n
 am : p.a.length = m
 bm : p.b.length = m
 rm : p.rel.length = m
 hn : 1 ≤ n ∧ n ≤ 12
 hm : 1 ≤ m ∧ m ≤ 12
 co : ∀ x ∈ p.c, x.ok
 bo : ∀ x ∈ p.b, x.ok
 ao : ∀ i, i < m → (gti p.a i).length = n ∧ ∀ x ∈ gti p.a i, x.ok
theorem begR_ok {p : LP} {n m : Nat} (h : LpOk p n m) {i : Nat} (hi : i < m) : (begR p i).length = n + 2 * m + 1 ∧ (∀ x ∈ begR p i, x.ok) ∧ (∀ q, q < m → val (gti (begR p i) (n + m + q)) = if i = q then 1 else 0) ∧ 0 ≤ val (gti (begR p i) (n + 2 * m)) := by
 obtain ⟨a1, a2⟩ := h.ao i hi
 have hbo : (gti p.b i).ok := h.bo _ (zdm (by rw [h.bm]; exact hi))
 unfold begR
 simp only [h.cn, h.am]
 -- the row with its slack
 obtain ⟨r1, hr1, e1, o1, z1⟩ : ∃ r1, (if gti p.rel i = 1 then (gti p.a i ++ List.replicate (2 * m) (Fr.of 0)).set (n + i) (Fr.of 1) else if gti p.rel i = 2 then (gti p.a i ++ List.replicate (2 * m) (Fr.of 0)).set (n + i) (Fr.of (-1)) else gti p.a i ++ List.replicate (2 * m) (Fr.of 0)) = r1 ∧
   r1.length = n + 2 * m ∧ (∀ x ∈ r1, x.ok) ∧ ∀ q, q < m → gti r1 (n + m + q) = Fr.of 0 := by
  refine ⟨_, rfl, ?_, ?_, ?_⟩
  ·
   split
   ·
    simp; omega
   ·
    split <;> simp <;> omega
  ·
   have h0 : ∀ x ∈ gti p.a i ++ List.replicate (2 * m) (Fr.of 0), x.ok := fun x hx => by
    rcases List.mem_append.1 hx with hx | hx
    ·
     exact a2 x hx
    ·
     rw [List.eq_of_mem_replicate hx]; exact of_ok ⟨by decide, by decide⟩
   split
   ·
    intro x hx
    rcases List.mem_or_eq_of_mem_set hx with hx | rfl
    ·
     exact h0 x hx
    ·
     exact of_ok ⟨by decide, by decide⟩
   ·
    split
    ·
     intro x hx
     rcases List.mem_or_eq_of_mem_set hx with hx | rfl
     ·
      exact h0 x hx
     ·
      exact of_ok ⟨by decide, by decide⟩
    ·
     exact h0
  ·
   intro q hq
   have h0 : gti (gti p.a i ++ List.replicate (2 * m) (Fr.of 0)) (n + m + q) = Fr.of 0 := by
    rw [gtiF_app, if_neg (by omega)]
    exact gtiF_rep (by omega)
   split
   ·
    rw [gtiF_set _ _ _ _ (by simp; omega), if_neg (by omega)]; exact h0
   ·
    split
    ·
     rw [gtiF_set _ _ _ _ (by simp; omega), if_neg (by omega)]; exact h0
    ·
     exact h0
 rw [hr1]
 -- with its right side, turned
 obtain ⟨r2, hr2, e2, o2, z2, nn2⟩ : ∃ r2, (if (gti p.b i).n < 0 then (r1 ++ [gti p.b i]).map fneg else r1 ++ [gti p.b i]) = r2 ∧ r2.length = n + 2 * m + 1 ∧ (∀ x ∈ r2, x.ok) ∧ (∀ q, q < m → val (gti r2 (n + m + q)) = 0) ∧ 0 ≤ val (gti r2 (n + 2 * m)) := by
  have hl : (r1 ++ [gti p.b i]).length = n + 2 * m + 1 := by simp [e1]
  have ho : ∀ x ∈ r1 ++ [gti p.b i], x.ok := fun x hx => by
   rcases List.mem_append.1 hx with hx | hx
   ·
    exact o1 x hx
   ·
    rw [List.mem_singleton.1 hx]; exact hbo
  have hz : ∀ q, q < m → val (gti (r1 ++ [gti p.b i]) (n + m + q)) = 0 := fun q hq => by
   rw [gtiF_app, if_pos (by omega), z1 q hq, val_of]; rfl
  have hN : gti (r1 ++ [gti p.b i]) (n + 2 * m) = gti p.b i := by
   rw [gtiF_app, if_neg (by omega), e1, Nat.sub_self]; rfl
  refine ⟨_, rfl, ?_, ?_, ?_, ?_⟩
  ·
   split
   ·
    rw [List.length_map]; exact hl
   ·
    exact hl
  ·
   split
   ·
    intro x hx
    obtain ⟨y, hy, rfl⟩ := List.mem_map.1 hx
    exact fneg_ok (ho y hy)
   ·
    exact ho
  ·
   intro q hq
   split
   ·
    rw [gtiF_map (by omega), val_neg, hz q hq]; grind
   ·
    exact hz q hq
  ·
   split
   ·
    rename_i hneg
    rw [gtiF_map (by omega), hN, val_neg]
    have := (val_neg_iff hbo).2 hneg
    grind
   ·
    rename_i hneg
    rw [hN]
    exact val_nn ⟨hbo, by omega⟩
 rw [hr2]
 have hs : ∀ j, gti (r2.set (n + m + i) (Fr.of 1)) j = if n + m + i = j then Fr.of 1 else gti r2 j := fun j => gtiF_set _ _ _ _ (by omega)
 refine ⟨by rw [List.length_set]; exact e2, fun x hx => ?_, fun q hq => ?_, ?_⟩
 ·
  rcases List.mem_or_eq_of_mem_set hx with hx | rfl
  ·
   exact o2 x hx
  ·
   exact of_ok ⟨by decide, by decide⟩
 ·
  rw [hs]
  by_cases e : i = q
  ·
   subst e; rw [if_pos rfl, if_pos rfl, val_of]; rfl
  ·
   rw [if_neg (by omega), if_neg e, z2 q hq]
 ·
  rw [hs, if_neg (by omega)]; exact nn2
theorem gti_rangeF {α : Type} [Inhabited α] {f : Nat → α} {m i : Nat} (h : i < m) : gti ((List.range m).map f) i = f i := by
 unfold Go.Proofs.Ytllkbjcemecmjaa.gti
 rw [List.getElem?_map, List.getElem?_range h]; rfl
theorem begT_ok {p : LP} {n m : Nat} (h : LpOk p n m) {cost : List Fr} (hl : cost.length = n + 2 * m + 1) (ho : ∀ x ∈ cost, x.ok) : TbOk m (n + 2 * m) { begT p with cost := cost } ∧ CanR m (n + 2 * m) (zda (begT p)) := by
 have hm := h.hm
 have hr : ∀ i, i < m → gti (begT p).rows i = begR p i := fun i hi => by
  unfold begT; simp only [h.am]; exact gti_rangeF hi
 have hb : ∀ i, i < m → gti (begT p).bas i = ((n + m + i : Nat) : Int) := fun i hi => by
  unfold begT; simp only [h.am, h.cn]; exact gti_rangeF hi
 have hB : ∀ i, i < m → (zda (begT p)).B i = n + m + i := fun i hi => by show (gti (begT p).bas i).toNat = _; rw [hb i hi]; rfl
 refine ⟨⟨by show (begT p).rows.length = m; unfold begT; simp [h.am], fun r hrm => ?_, hl, ho, by show (begT p).bas.length = m; unfold begT; simp [h.am], fun i hi => ?_⟩, ⟨fun i hi => by rw [hB i hi]; omega, fun i hi => ?_, fun i j hi hj hij => ?_, fun i hi => ?_⟩⟩
 ·
  replace hrm : r ∈ (begT p).rows := hrm
  unfold begT at hrm
  simp only [h.am] at hrm
  obtain ⟨i, hi, rfl⟩ := List.mem_map.1 hrm
  obtain ⟨g1, g2, _⟩ := begR_ok h (i := i) (by simpa using hi)
  exact ⟨g1, g2⟩
 ·
  show 0 ≤ gti (begT p).bas i ∧ gti (begT p).bas i < _
  rw [hb i hi]
  constructor <;> omega
 ·
  show val (gti (gti (begT p).rows i) ((zda (begT p)).B i)) = 1
  rw [hB i hi, hr i hi, (begR_ok h hi).2.2.1 i hi, if_pos rfl]
 ·
  show val (gti (gti (begT p).rows i) ((zda (begT p)).B j)) = 0
  rw [hB j hj, hr i hi, (begR_ok h hi).2.2.1 j hj, if_neg hij]
 ·
  show 0 ≤ val (gti (gti (begT p).rows i) (n + 2 * m))
  rw [hr i hi]; exact (begR_ok h hi).2.2.2
def cost1 (n m : Nat) : List Fr := List.replicate (n + m) (Fr.of 0) ++ List.replicate m (Fr.of 1) ++ [Fr.of 0]
def nzF (a : Fr) : Bool := decide (a.n ≠ 0)
def drvF : Nat → Nat → Tb → Tb
 | 0, _, t => t
 | f + 1, i, t =>
  if gti t.bas i < t.last then drvF f (i + 1) t else
  let j := zct nzF ((gti t.rows i).take t.last.toNat)
  if j < 0 then drvF f (i + 1) t else
  let t' := pivE i j.toNat t
  if t'.e ≠ 0 then t' else drvF f (i + 1) t'
structure I1 (n m : Nat) (t : Tb) : Prop where
 ok : TbOk m (n + 2 * m) t
 can : Bl.Can m (n + 2 * m) (zda t)
 last : t.last = n + m
 ker : ∀ x, Ker m (n + 2 * m) (zda t) x → lin (zda t).c x (n + 2 * m) = lin (fun j => val (gti (cost1 n m) j)) x (n + 2 * m)
theorem I1.step {n m : Nat} {t t' : Tb} (h : I1 n m t) (hr : runS (n + m) t = .inr t') (he : t'.e = 0) : I1 n m t' := by
 obtain ⟨_, h2, h3, r, k, hs⟩ := runS_step (by omega) h.ok hr he
 exact ⟨h2, hs.can h.can, h3.trans h.last, fun x hx => by
  obtain ⟨g1, g2⟩ := Pv_back hs.toPv hx
  rw [← g2]; exact h.ker x g1⟩
theorem cost1_gti {n m j : Nat} : gti (cost1 n m) j = if n + m ≤ j ∧ j < n + 2 * m then Fr.of 1 else gti (cost1 n m) j := by
 split
 ·
  rename_i h
  unfold cost1
  rw [gtiF_app, if_pos (by simp; omega), gtiF_app, if_neg (by simp; omega)]
  exact gtiF_rep (by simp; omega)
 ·
  rfl
theorem cost1_lo {n m j : Nat} (h : j < n + m) : gti (cost1 n m) j = Fr.of 0 := by
 unfold cost1
 rw [gtiF_app, if_pos (by simp; omega), gtiF_app, if_pos (by simp; omega)]
 exact gtiF_rep h
theorem cost1_N {n m : Nat} : gti (cost1 n m) (n + 2 * m) = Fr.of 0 := by
 unfold cost1
 rw [gtiF_app, if_neg (by simp; omega)]
 simp
 rw [show n + 2 * m - (n + m + m) = 0 by omega]; rfl
theorem cost1_ok {n m : Nat} : (cost1 n m).length = n + 2 * m + 1 ∧ ∀ x ∈ cost1 n m, x.ok := by
 refine ⟨by simp [cost1]; omega, fun x hx => ?_⟩
 unfold cost1 at hx
 rcases List.mem_append.1 hx with hx | hx
 ·
  rcases List.mem_append.1 hx with hx | hx
  ·
   rw [List.eq_of_mem_replicate hx]; exact of_ok ⟨by decide, by decide⟩
  ·
   rw [List.eq_of_mem_replicate hx]; exact of_ok ⟨by decide, by decide⟩
 ·
  rw [List.mem_singleton.1 hx]; exact of_ok ⟨by decide, by decide⟩
theorem art_zero {n m : Nat} {t : Tb} (h : I1 n m t) (hz : (gti t.cost (n + 2 * m)).n = 0) : ∀ i, i < m → t.last ≤ gti t.bas i → val (gti (gti t.rows i) (n + 2 * m)) = 0 := by
 have hx := h.ker _ (Bl.xs_ker h.can (j := n + 2 * m) (Nat.le_refl _))
 rw [Bl.lin_xs h.can _ (Nat.le_refl _), Bl.lin_xs h.can _ (Nat.le_refl _)] at hx
 have h1 : Bl.sumR (fun i => (zda t).a i (n + 2 * m) * (zda t).c ((zda t).B i)) m = 0 := by
  rw [Bl.sumR_congr (g := fun _ => 0) (fun i hi => by rw [h.can.cost i hi]; grind), Bl.sumR_zero]
 have h2 : (zda t).c (n + 2 * m) = 0 := val_z hz
 rw [h1, h2, cost1_N, val_of] at hx
 have hnn : ∀ i, i < m → 0 ≤ (zda t).a i (n + 2 * m) * val (gti (cost1 n m) ((zda t).B i)) := fun i hi => by
  refine Rat.mul_nonneg (h.can.nn i hi) ?_
  by_cases e : (zda t).B i < n + m
  ·
   rw [cost1_lo e, val_of]; exact Rat.le_refl
  ·
   rw [cost1_gti, if_pos ⟨by omega, h.can.lt i hi⟩, val_of]; decide
 obtain ⟨_, h4⟩ := Bl.sumR_nn (f := fun i => (zda t).a i (n + 2 * m) * val (gti (cost1 n m) ((zda t).B i))) (n := m) hnn
 intro i hi hlast
 have h5 := h4 (by
  have h0 : (((0 : Int) : Rat)) = 0 := rfl
  rw [h0] at hx
  grind) i hi
 have hl := h.last
 have hB : (zda t).B i = (gti t.bas i).toNat := rfl
 have h6 : val (gti (cost1 n m) ((zda t).B i)) = 1 := by
  rw [cost1_gti, if_pos ⟨by rw [hB]; omega, h.can.lt i hi⟩, val_of]; rfl
 rw [h6] at h5
 show (zda t).a i (n + 2 * m) = 0
 grind
structure J1 (n m : Nat) (t : Tb) : Prop where
 ok : TbOk m (n + 2 * m) t
 can : CanR m (n + 2 * m) (zda t)
 last : t.last = n + m
 zero : ∀ i, i < m → t.last ≤ gti t.bas i → val (gti (gti t.rows i) (n + 2 * m)) = 0
theorem J1.piv {n m i j : Nat} {t : Tb} (h : J1 n m t) (he : t.e = 0) (hi : i < m) (hl : t.last ≤ gti t.bas i) (hj : j < n + m) (h' : (pivE i j t).e = 0) : J1 n m (pivE i j t) := by
 obtain ⟨p1, p2, p3⟩ := pivE_ok h.ok he hi (by omega) h'
 have hz : (zda t).a i (n + 2 * m) = 0 := h.zero i hi hl
 have hnz := p2.nz
 have hN : ∀ q, q < m → (zda (pivE i j t)).a q (n + 2 * m) = (zda t).a q (n + 2 * m) := fun q hq => by
  by_cases e : q = i
  ·
   subst e; rw [p2.row _ (Nat.le_refl _), hz]; grind
  ·
   rw [p2.oth q _ hq e (Nat.le_refl _), hz]; grind
 have hcan := h.can
 refine ⟨p1, ?_, p3.trans h.last, fun q hq hlq => ?_⟩
 ·
  -- rows in canonical form, as a pivot leaves them: the costs are left aside
  let T0 : Tab := ⟨(zda t).a, fun _ => 0, (zda t).B⟩
  let T1 : Tab := ⟨(zda (pivE i j t)).a, fun _ => 0, (zda (pivE i j t)).B⟩
  have hp : Pv m (n + 2 * m) T0 T1 i j := ⟨p2.hr, p2.hk, p2.nz, p2.row, p2.oth, fun v hv => by show (0 : Rat) = 0 - 0 * _; grind, p2.bas, p2.keep⟩
  have hc0 : Bl.Can m (n + 2 * m) T0 := ⟨hcan.lt, hcan.one, hcan.off, fun _ _ => rfl, hcan.nn⟩
  have hc1 := hp.can hc0 (fun q hq => by rw [show T1.a q (n + 2 * m) = _ from hN q hq]; exact hcan.nn q hq)
  exact ⟨hc1.lt, hc1.one, hc1.off, hc1.nn⟩
 ·
  show (zda (pivE i j t)).a q (n + 2 * m) = 0
  rw [hN q hq]
  refine h.zero q hq ?_
  by_cases e : q = i
  ·
   subst e; exact hl
  ·
   have h1 : (gti (pivE i j t).bas q).toNat = (gti t.bas q).toNat := p2.keep q hq e
   have h2 := p1.bs q hq
   have h3 := h.ok.bs q hq
   rw [p3] at hlq
   omega
end Go.Proofs.Ytllkbjcemecmjaa.Aw
end
section
namespace Go.Proofs.Ytllkbjcemecmjaa.Aw
open Go.RowKit
section
variable {P : Program} {N : Nat} {l : List Oper} {F F' : Frm} {σ : List Ob} {out : List (Nat × AV)} {Q : Exit → Frm → List Ob → Prop}
variable {ops : Array Oper} {all : List Oper} {acc : List Nat} {K : Frm → List Ob → Prop}
end
end Go.Proofs.Ytllkbjcemecmjaa.Aw
end
section
namespace Go.Proofs.Ytllkbjcemecmjaa.Aw
open Go Go.RowKit Go.Proofs
variable {P : Program} [IsP P]
theorem cons_other {ob ob' : Ob} {R : List Ob} {id : Nat} (h : id ∉ [0]) : (ob' :: R)[id]? = (ob :: R)[id]? := by
 cases id with
 | zero => exact absurd (by simp) h
 | succ id => rfl
section
variable {N : Nat} {F : Frm} {σ σ' : List Ob} {Q : Exit → Frm → List Ob → Prop} {ops : Array Oper} {o : Oper} {l : List Oper}
theorem kwk_sl {d id sz n : Nat} {cs : List AV} (hd : F.get d = .own id sz n) (hs : σ[id]? = some (.fz sz cs)) (hn : n = cs.length) : WeakK N F σ ((d, .sl cs) :: F) σ := fun G a h =>
 ⟨G, rfl, .refl G, h.rel, h.fr.more (rep_fz h.rel hs hn (by rw [← hd]; exact h.fr d)), h.df, h.nt⟩
theorem kwk_nil {d : Nat} (hd : F.get d = .s (.slice none 0 0)) : WeakK N F σ ((d, .sl []) :: F) σ := fun G a h =>
 ⟨G, rfl, .refl G, h.rel, h.fr.more (rep_nil (by rw [← hd]; exact h.fr d)), h.df, h.nt⟩
variable {d : Nat} {fo : Operand} {ar : Array Operand} {ts : Array TypeId} {f : FuncId} {y : AV} {args caps : List AV}
end
theorem ew_frEq {c : Code} {F F' : Frm} {σ : List Ob} {N : Nat} {Q : Exit → Frm → List Ob → Prop} (h : F = F') (k : EWp P N c F' σ Q) : EWp P N c F σ Q := by rw [h]; exact k
theorem ew_stEq {c : Code} {F : Frm} {σ σ' : List Ob} {N : Nat} {Q : Exit → Frm → List Ob → Prop} (h : σ = σ') (k : EWp P N c F σ' Q) : EWp P N c F σ Q := by rw [h]; exact k
def tbC (t : Tb) (e : Int) : AV := .agg [.own 1 1 t.rows.length, eL eF t.cost, .own 2 1 t.bas.length, eI t.last, eI e]
theorem note_x {c0 c1 c2 c3 : AV} {e : Int} {R : List Ob} (x : Fr) (e' : Int) :
  CallE P 83 [.ptr 0 5 0 0, eF x, eI e'] (.row 5 [.agg [c0, c1, c2, c3, eI e]] :: R) (eF x)
   ((.row 5 [.agg [c0, c1, c2, c3, eI (if e = 0 then e' else e)]] :: R) ++ [.row 2 [eF x]] ++ [.row 2 [eF x]]) := by
 have g1 : ∀ (a : Ob) (R : List Ob) (b c : Ob), ((a :: R) ++ [b] ++ [c])[R.length + 1]? = some b := fun a R b c => by simp
 have g3 : ∀ (a : Ob) (R : List Ob) (b c d : Ob), (((a :: R) ++ [b] ++ [c]).set (R.length + 2) d)[R.length + 2]? = some d := fun a R b c d => by simp
 have g4 : ∀ (a : Ob) (R : List Ob) (b c d : Ob), (((a :: R) ++ [b] ++ [c]).set (R.length + 2) d) = (a :: R) ++ [b] ++ [d] := fun a R b c d => by
  rw [show R.length + 2 = ((a :: R) ++ [b]).length by simp, List.set_append_right _ _ (Nat.le_refl _), Nat.sub_self]; rfl
 have g2 : ∀ (a : Ob) (R : List Ob) (b c : Ob), ((a :: R) ++ [b] ++ [c])[R.length + 2]? = some c := fun a R b c => by simp
 refine callE_fn (by rw [IsP.eq (P := P)]; exact Try.func83) rfl rfl (Nat.le_of_ble_eq_true rfl) ?_
 simp only [argF]
 refine ew_seq (zdq (eops_op rfl rfl (zaa rfl) (zb4 rfl rfl rfl rfl) (eops_op rfl rfl (zaa rfl) (za0 rfl ti51 rfl rfl) (zdd (ew_seq (ew_seq ?_))))))
 refine ew_frEq (F' := [(6, .ptr (R.length + 2) 2 0 0), (4, .ptr (R.length + 1) 2 0 0), (0, .ptr 0 5 0 0), (1, eF x), (2, eI e')]) (by
  have e1 : (Ob.row 5 [AV.agg [c0, c1, c2, c3, eI e]] :: R).length = R.length + 1 := rfl
  have e2 : ∀ y, (Ob.row 5 [AV.agg [c0, c1, c2, c3, eI e]] :: R ++ [y]).length = R.length + 2 := fun y => by simp
  rw [e2, e1]; rfl) ?_
 refine zdq (eops_s rfl (eops_s rfl (eops_f zdu rfl (eops_op rfl rfl (zaa rfl) (zap rfl ta33 rfl rfl rfl rfl rfl) (eops_op rfl rfl (zaa rfl) (zbk rfl rfl rfl) (zdd (zai ?_)))))))
 refine ew_if rfl (fun h => ?_) (fun h => ?_)
 ·
  rw [if_pos h]
  refine zdq (eops_s rfl (eops_s rfl (eops_s rfl (eops_f zdu rfl (eops_eff rfl (zaa rfl) (zaj rfl ti33 rfl rfl rfl rfl rfl rfl (by decide) (by decide)) (zdd (ew_seq (ew_stEq (σ' := (.row 5 [.agg [c0, c1, c2, c3, eI e']] :: R) ++ [.row 2 [eF x]] ++ [.row 2 [.agg [eI 0, eI 0]]]) rfl (zdq (eops_op rfl rfl (zaa rfl) (zba rfl ta51 ti51 rfl (g1 _ _ _ _) rfl rfl rfl) (eops_eff rfl (zaa rfl) (zaj rfl ti51 rfl rfl (g2 (Ob.row 5 [.agg [c0, c1, c2, c3, eI e']]) R (Ob.row 2 [eF x]) (Ob.row 2 [.agg [eI 0, eI 0]])) rfl rfl rfl (by decide) (by decide)) ?_)))))))))))
  refine zdd (zai (ew_ret ?_))
  refine ⟨.inr rfl, ?_, _, .cons _ _ _ _ (.cells 6 51 (R.length + 2) 2 0 2 _ _ _ [eF x] (eF x) ta51 ti51 rfl (g3 _ _ _ _ _) rfl rfl rfl) .nil, rfl⟩
  exact g4 _ _ _ _ _
 ·
  rw [if_neg h]
  refine ew_skip (zai (ew_seq (ew_stEq (σ' := (.row 5 [.agg [c0, c1, c2, c3, eI e]] :: R) ++ [.row 2 [eF x]] ++ [.row 2 [.agg [eI 0, eI 0]]]) rfl (zdq (eops_op rfl rfl (zaa rfl) (zba rfl ta51 ti51 rfl (g1 _ _ _ _) rfl rfl rfl) (eops_eff rfl (zaa rfl) (zaj rfl ti51 rfl rfl (g2 (Ob.row 5 [.agg [c0, c1, c2, c3, eI e]]) R (Ob.row 2 [eF x]) (Ob.row 2 [.agg [eI 0, eI 0]])) rfl rfl rfl (by decide) (by decide)) (zdd (zai (ew_ret ?_)))))))))
  refine ⟨.inr rfl, ?_, _, .cons _ _ _ _ (.cells 6 51 (R.length + 2) 2 0 2 _ _ _ [eF x] (eF x) ta51 ti51 rfl (g3 _ _ _ _ _) rfl rfl rfl) .nil, rfl⟩
  exact g4 _ _ _ _ _
theorem note_call {c0 c1 c2 c3 : AV} {e : Int} {R : List Ob} (x : Fr) (e' : Int) (hl : ∀ c ∈ [c0, c1, c2, c3], Lo (R.length + 1) c) :
  CallE P 83 [.ptr 0 5 0 0, eF x, eI e'] (.row 5 [.agg [c0, c1, c2, c3, eI e]] :: R) (eF x)
   (.row 5 [.agg [c0, c1, c2, c3, eI (if e = 0 then e' else e)]] :: R) := by
 have h := CallE.cut (note_x (P := P) (c0 := c0) (c1 := c1) (c2 := c2) (c3 := c3) (e := e) (R := R) x e') (by simp) (W := [0, R.length + 1, R.length + 2]) (fun id hid => ?_) (fun id hid hlt ob hob => ?_) (lo_up (lo_F x))
 ·
  have h5 : ∀ (a a' b c : Ob), ((a :: R) ++ [b] ++ [c]).take (a' :: R).length = a :: R := fun a a' b c => by simp
  rwa [h5] at h
 ·
  cases id with
  | zero => exact absurd (by simp) hid
  | succ id =>
   have h1 : id ≠ R.length ∧ id ≠ R.length + 1 := by simp at hid; omega
   show ((R ++ [Ob.row 2 [eF x]]) ++ [Ob.row 2 [eF x]])[id]? = R[id]?
   by_cases hlt : id < R.length
   ·
    rw [List.getElem?_append_left (by simp; omega), List.getElem?_append_left hlt]
   ·
    rw [List.getElem?_eq_none (by simp; omega), List.getElem?_eq_none (by omega)]
 ·
  have h0 : id = 0 := by simp at hid hlt; omega
  subst h0
  have : ob = .row 5 [.agg [c0, c1, c2, c3, eI (if e = 0 then e' else e)]] := by simpa using hob.symm
  subst this
  intro c hc
  simp at hc
  subst hc
  refine .agg _ fun c hc => ?_
  simp only [List.mem_cons, List.mem_nil_iff, or_false] at hc
  rcases hc with rfl | rfl | rfl | rfl | rfl
  ·
   exact hl _ (by simp)
  ·
   exact hl _ (by simp)
  ·
   exact hl _ (by simp)
  ·
   exact hl _ (by simp)
  ·
   exact .s _
end Go.Proofs.Ytllkbjcemecmjaa.Aw
end
section
namespace Go.Proofs.Ytllkbjcemecmjaa.Aw
open Go.RowKit
inductive FKd | free | look (R : List Nat) | eff (W : List Nat) | flt
def FKd.kd : FKd → Kd
 | .free => .free
 | .look R => .look R
 | .eff W => .eff W
 | .flt => .free
inductive FSteps (P : Program) (N : Nat) (ops : Array Oper) (n0 : Nat) (ob : Ob) (fl : Bool) (Inv : List Ob → Prop) : List Oper → Frm → List Ob → Frm → List Ob → List (Nat × AV) → List FKd → List (List Ob) → Prop
 | nil (F : Frm) (σ : List Ob) (hn : σ.length = n0 ∧ Inv σ) : FSteps P N ops n0 ob fl Inv [] F σ F σ [] [] []
 | free (o : Oper) (l : List Oper) (F F' : Frm) (σ σ' : List Ob) (x : AV) (out : List (Nat × AV)) (ks : List FKd) (sts : List (List Ob)) (hn : σ.length = n0 ∧ Inv σ) (hd : dOk N o = true) (hr : Runs ops F o true) (hD : ∀ σ, Inv σ → Does P o F σ x σ) (h : FSteps P N ops n0 ob fl Inv l (ent N o x :: F) σ F' σ' out ks sts) : FSteps P N ops n0 ob fl Inv (o :: l) F σ F' σ' (ent N o x :: out) (.free :: ks) (σ :: sts)
 | look (o : Oper) (l : List Oper) (F F' : Frm) (σ σ' : List Ob) (x : AV) (out : List (Nat × AV)) (ks : List FKd) (sts : List (List Ob)) (R : List Nat) (hn : σ.length = n0 ∧ Inv σ) (hR : ∀ id ∈ R, id < n0) (hd : dOk N o = true) (hr : Runs ops F o true) (hD : ∀ σ2, (∀ id ∈ R, σ2[id]? = σ[id]?) → Does P o F σ2 x σ2) (h : FSteps P N ops n0 ob fl Inv l (ent N o x :: F) σ F' σ' out ks sts) : FSteps P N ops n0 ob fl Inv (o :: l) F σ F' σ' (ent N o x :: out) (.look R :: ks) (σ :: sts)
 | eff (o : Oper) (l : List Oper) (F F' : Frm) (σ σ1 σ' : List Ob) (x : AV) (out : List (Nat × AV)) (ks : List FKd) (sts : List (List Ob)) (W : List Nat) (hn : σ.length = n0 ∧ Inv σ) (hd : dOk N o = true) (hr : Runs ops F o true) (hD : ∀ X, (fl = false → X = []) → Does P o F (σ ++ X) x (σ1 ++ X)) (hW : ∀ id, id ∉ W → σ1[id]? = σ[id]?) (h : FSteps P N ops n0 ob fl Inv l (ent N o x :: F) σ1 F' σ' out ks sts) : FSteps P N ops n0 ob fl Inv (o :: l) F σ F' σ' (ent N o x :: out) (.eff W :: ks) (σ :: sts)
 | flt (o : Oper) (l : List Oper) (F F' : Frm) (σ σ' : List Ob) (x : AV) (out : List (Nat × AV)) (ks : List FKd) (sts : List (List Ob)) (hn : σ.length = n0 ∧ Inv σ) (hd : dOk N o = true) (hr : Runs ops F o true) (hD : ∀ σ : List Ob, σ.length = n0 → Does P o F σ x (σ ++ [ob])) (h : FSteps P N ops n0 ob fl Inv l (ent N o x :: F) σ F' σ' out ks sts) : FSteps P N ops n0 ob fl Inv (o :: l) F σ F' σ' (ent N o x :: out) (.flt :: ks) (σ :: sts)
def FAt (P : Program) (ops : Array Oper) (n0 : Nat) (ob : Ob) (fl : Bool) (Inv : List Ob → Prop) (o : Oper) (F : Frm) (x : AV) (k : Option FKd) (s s1 : List Ob) : Prop :=
 (k = some .free ∧ s1 = s ∧ Runs ops F o true ∧ ∀ σ, Inv σ → Does P o F σ x σ) ∨
 (∃ R, k = some (.look R) ∧ s1 = s ∧ (∀ id ∈ R, id < n0) ∧ Runs ops F o true ∧ ∀ σ2, (∀ id ∈ R, σ2[id]? = s[id]?) → Does P o F σ2 x σ2) ∨
 (∃ W, k = some (.eff W) ∧ Runs ops F o true ∧ (∀ X, (fl = false → X = []) → Does P o F (s ++ X) x (s1 ++ X)) ∧ ∀ id, id ∉ W → s1[id]? = s[id]?) ∨
 (k = some .flt ∧ s1 = s ∧ Runs ops F o true ∧ ∀ σ : List Ob, σ.length = n0 → Does P o F σ x (σ ++ [ob]))
theorem fsteps_at {P : Program} {N : Nat} {ops : Array Oper} {n0 : Nat} {ob : Ob} {fl : Bool} {Inv : List Ob → Prop} : ∀ {l : List Oper} {F F' : Frm} {σ σ' : List Ob} {out : List (Nat × AV)} {ks : List FKd} {sts : List (List Ob)}, FSteps P N ops n0 ob fl Inv l F σ F' σ' out ks sts → l.length = out.length ∧ F' = out.reverse ++ F ∧ ks.length = l.length ∧ sts.length = l.length ∧ (sts ++ [σ']).getD 0 [] = σ ∧ (∀ s ∈ sts ++ [σ'], s.length = n0 ∧ Inv s) ∧
  ∀ (i : Nat) o, l[i]? = some o → ∃ x, out[i]? = some (ent N o x) ∧ dOk N o = true ∧ FAt P ops n0 ob fl Inv o ((out.take i).reverse ++ F) x ks[i]? ((sts ++ [σ']).getD i []) ((sts ++ [σ']).getD (i + 1) []) := by
 intro l F F' σ σ' out ks sts h
 induction h with
 | nil F σ hn => exact ⟨rfl, rfl, rfl, rfl, rfl, by simpa using hn, by simp⟩
 | free o l F F' σ σ' x out ks sts hn hd hr hD h ih =>
  obtain ⟨h1, h2, h3, h4, h0, h6, h5⟩ := ih
  refine ⟨by simp [h1], by simp [h2], by simp [h3], by simp [h4], rfl, fun s hs => ?_, fun i o' hi => ?_⟩
  ·
   rcases List.mem_cons.1 hs with rfl | hs
   ·
    exact hn
   ·
    exact h6 s hs
  cases i with
  | zero => simp at hi; subst hi; exact ⟨x, rfl, hd, .inl ⟨rfl, h0, by simpa using hr, by simpa using hD⟩⟩
  | succ i =>
   obtain ⟨x', g1, g2, g3⟩ := h5 i o' (by simpa using hi)
   exact ⟨x', by simpa using g1, g2, by simpa using g3⟩
 | look o l F F' σ σ' x out ks sts R hn hR hd hr hD h ih =>
  obtain ⟨h1, h2, h3, h4, h0, h6, h5⟩ := ih
  refine ⟨by simp [h1], by simp [h2], by simp [h3], by simp [h4], rfl, fun s hs => ?_, fun i o' hi => ?_⟩
  ·
   rcases List.mem_cons.1 hs with rfl | hs
   ·
    exact hn
   ·
    exact h6 s hs
  cases i with
  | zero => simp at hi; subst hi; exact ⟨x, rfl, hd, .inr (.inl ⟨R, rfl, h0, hR, by simpa using hr, by simpa using hD⟩)⟩
  | succ i =>
   obtain ⟨x', g1, g2, g3⟩ := h5 i o' (by simpa using hi)
   exact ⟨x', by simpa using g1, g2, by simpa using g3⟩
 | eff o l F F' σ σ1 σ' x out ks sts W hn hd hr hD hW h ih =>
  obtain ⟨h1, h2, h3, h4, h0, h6, h5⟩ := ih
  refine ⟨by simp [h1], by simp [h2], by simp [h3], by simp [h4], rfl, fun s hs => ?_, fun i o' hi => ?_⟩
  ·
   rcases List.mem_cons.1 hs with rfl | hs
   ·
    exact hn
   ·
    exact h6 s hs
  cases i with
  | zero =>
   simp at hi; subst hi
   have e : ((σ :: sts) ++ [σ']).getD (0 + 1) [] = σ1 := h0
   refine ⟨x, rfl, hd, .inr (.inr (.inl ⟨W, rfl, by simpa using hr, ?_, ?_⟩))⟩
   ·
    rw [e]; simpa using hD
   ·
    rw [e]; exact hW
  | succ i =>
   obtain ⟨x', g1, g2, g3⟩ := h5 i o' (by simpa using hi)
   exact ⟨x', by simpa using g1, g2, by simpa using g3⟩
 | flt o l F F' σ σ' x out ks sts hn hd hr hD h ih =>
  obtain ⟨h1, h2, h3, h4, h0, h6, h5⟩ := ih
  refine ⟨by simp [h1], by simp [h2], by simp [h3], by simp [h4], rfl, fun s hs => ?_, fun i o' hi => ?_⟩
  ·
   rcases List.mem_cons.1 hs with rfl | hs
   ·
    exact hn
   ·
    exact h6 s hs
  cases i with
  | zero => simp at hi; subst hi; exact ⟨x, rfl, hd, .inr (.inr (.inr ⟨rfl, h0, by simpa using hr, by simpa using hD⟩))⟩
  | succ i =>
   obtain ⟨x', g1, g2, g3⟩ := h5 i o' (by simpa using hi)
   exact ⟨x', by simpa using g1, g2, by simpa using g3⟩
def fOk (l : List Oper) (N : Nat) (ks : List FKd) (f : Nat) : Bool := eOk l N (ks.map FKd.kd) && (List.range ks.length).all fun i => match ks[i]? with | some .flt => Nat.beq i f | _ => true
section
variable {P : Program} {N : Nat} {l : List Oper} {F F' : Frm} {σ : List Ob} {out : List (Nat × AV)} {Q : Exit → Frm → List Ob → Prop}
theorem fgen_any {n0 : Nat} {ob : Ob} {fl : Bool} {Inv : List Ob → Prop} {f : Nat} {σ' : List Ob} {ks : List FKd} {sts : List (List Ob)} (hIX : ∀ s, Inv s → Inv (s ++ [ob])) (hq : fOk l N ks f = true) (hf : (fl = true ∧ ks[f]? = some .flt) ∨ (fl = false ∧ l.length ≤ f)) (hs : FSteps P N l.toArray n0 ob fl Inv l F σ F' σ' out ks sts) (hQ : Q .normal F' (σ' ++ (if fl = true then [ob] else []))) (G0 : Cx) :
  ∀ (fuel : Nat) (L : Array Bool) (G : Cx) (a : Act) (m : Nat), G0.Ext G → L.size = l.length → left L.toList = fuel → Closed l (fun j => L.getD j false = true) → m ≤ l.length → (∀ j W, ks[j]? = some (.eff W) → (L.getD j false = true ↔ j < m)) → Rep G (a.tmps.getD N undef) (F.get N) → S8 N G a (fr (fun j => L.getD j false) 0 out F) ((sts ++ [σ']).getD m [] ++ (if L.getD f false = true then [ob] else [])) → wpAny P .any l.toArray (liftE N G0 Q) fuel L a G.w := by
 obtain ⟨hlen, hF', hkl, hsl, _, hn0, hat⟩ := fsteps_at hs
 unfold fOk eOk sOk at hq
 simp only [Bool.and_eq_true] at hq
 obtain ⟨⟨⟨hq, hlk⟩, hkp⟩, hone⟩ := hq
 have hone2 : ∀ i, ks[i]? = some .flt → i = f := fun i hi => by
  have h1 := List.all_eq_true.1 hone i (by simpa using (List.getElem?_eq_some_iff.1 hi).1)
  rw [hi] at h1
  exact Nat.eq_of_beq_eq_true h1
 have hfl : fl = true → f < l.length := fun h => by
  rcases hf with ⟨_, hf⟩ | ⟨hf, _⟩
  ·
   rw [← hkl]; exact (List.getElem?_eq_some_iff.1 hf).1
  ·
   rw [h] at hf; cases hf
 have hff : ∀ L : Array Bool, L.size = l.length → fl = false → ¬ L.getD f false = true := fun L hL h => by
  rcases hf with ⟨hf, _⟩ | ⟨_, hf⟩
  ·
   rw [h] at hf; cases hf
  ·
   have : ¬ f < L.size := by omega
   simp [Array.getD_eq_getD_getElem?, this]
 have hlenS : ∀ m, m ≤ l.length → ((sts ++ [σ']).getD m []).length = n0 ∧ Inv ((sts ++ [σ']).getD m []) := fun m hm => by
  refine hn0 _ ?_
  rw [List.getD_eq_getElem?_getD, List.getElem?_eq_getElem (by simp; omega)]
  exact List.getElem_mem _
 obtain ⟨_, hkp⟩ := kPairs_of _ _ _ _ hkp
 have hq2 : ∀ (i j : Nat) a b, i < j → ks[i]? = some a → ks[j]? = some b → kdClash a.kd b.kd = true → ((zdc l []).getD j 0).testBit i = true := fun i j a b h1 h2 h3 h4 => by
  have := hkp i j a.kd b.kd h1 (by simp [h2]) (by simp [h3]) h4
  simpa using this
 have hlk' : ∀ (i : Nat) o, l[i]? = some o → ∀ t ∈ o.looksAt l.toArray, t < N := fun i o ho t ht => by
  have h1 := List.all_eq_true.1 hlk o (List.mem_of_getElem? ho)
  have h2 := List.all_eq_true.1 h1 t ht
  simpa [Nat.blt_eq] using h2
 unfold qOk at hq
 have hq' : ∀ j oj, l[j]? = some oj → (∀ e ∈ oj.after.toList, Region.binds .any e = true → e.on < j) ∧ ∀ i oi, i < j → l[i]? = some oi → clash l.toArray oi oj = true → ((zdc l []).getD j 0).testBit i = true := by
  intro j oj hj
  have h1 := List.all_eq_true.1 hq j (by simpa using (List.getElem?_eq_some_iff.1 hj).1)
  rw [hj] at h1
  simp only [Bool.and_eq_true, List.all_eq_true] at h1
  refine ⟨fun e he hb => ?_, fun i oi hij hi hc => ?_⟩
  ·
   have := h1.1 e he
   rw [hb] at this
   simpa [Nat.blt_eq] using this
  ·
   have := h1.2 i (by simpa using hij)
   rw [hi] at this
   simpa [hc] using this
 have hsound : ∀ (D : Nat → Prop), Closed l D → ∀ j i, ((zdc l []).getD j 0).testBit i = true → D j → D i := fun D hD => masks_sound hD l [] (fun j o h => by simpa using h) (fun j i h => by simp at h)
 have hnone : ∀ (L : Array Bool), L.size = l.length → Region.ready .any l.toArray L = [] → ∀ j, j < l.length → L.getD j false = true := by
  intro L hL hr j
  induction j using Nat.strongRecOn with
  | _ j ih =>
   intro hj
   cases hc : L.getD j false with
   | true => rfl
   | false =>
    exfalso
    obtain ⟨o, ho⟩ : ∃ o, l[j]? = some o := ⟨_, List.getElem?_eq_getElem hj⟩
    have hm : j ∈ Region.ready .any l.toArray L := by
     refine mem_ready.2 ⟨?_, o, by simpa using ho, fun e he hb => ?_⟩
     ·
      have hlt : j < L.size := by omega
      simp [Array.getD_eq_getD_getElem?, hlt] at hc ⊢
      exact hc
     ·
      have hon := (hq' j o ho).1 e (by simpa using he) hb
      exact ih e.on hon (by omega)
    rw [hr] at hm
    cases hm
 have hstepS : ∀ (j id : Nat), j < l.length → (∀ W, ks[j]? = some (.eff W) → id ∉ W) → ((sts ++ [σ']).getD (j + 1) [])[id]? = ((sts ++ [σ']).getD j [])[id]? := by
  intro j id hj hW
  obtain ⟨x, _, _, hc⟩ := hat j _ (List.getElem?_eq_getElem hj)
  rcases hc with ⟨_, g2, _⟩ | ⟨R, _, g2, _⟩ | ⟨W, g1, _, _, g4⟩ | ⟨_, g2, _⟩
  ·
   rw [g2]
  ·
   rw [g2]
  ·
   exact g4 id (hW W g1)
  ·
   rw [g2]
 have hstepN : ∀ (j : Nat), j < l.length → (∀ W, ks[j]? ≠ some (.eff W)) → (sts ++ [σ']).getD (j + 1) [] = (sts ++ [σ']).getD j [] := by
  intro j hj hW
  obtain ⟨x, _, _, hc⟩ := hat j _ (List.getElem?_eq_getElem hj)
  rcases hc with ⟨_, g2, _⟩ | ⟨R, _, g2, _⟩ | ⟨W, g1, _⟩ | ⟨_, g2, _⟩
  ·
   exact g2
  ·
   exact g2
  ·
   exact absurd g1 (hW W)
  ·
   exact g2
 have hlookS : ∀ (id k n : Nat), n + k ≤ l.length → (∀ j W, n ≤ j → j < n + k → ks[j]? = some (.eff W) → id ∉ W) → ((sts ++ [σ']).getD (n + k) [])[id]? = ((sts ++ [σ']).getD n [])[id]? := by
  intro id k n hnk h
  induction k with
  | zero => rfl
  | succ k ihk =>
   rw [← ihk (by omega) (fun j W h1 h2 => h j W h1 (by omega))]
   exact hstepS (n + k) id (by omega) (fun W hW => h (n + k) W (by omega) (by omega) hW)
 have hlooks : ∀ (id m n : Nat), m ≤ l.length → n ≤ l.length → (∀ j W, ks[j]? = some (.eff W) → ¬ (j < m ↔ j < n) → id ∉ W) → ((sts ++ [σ']).getD m [])[id]? = ((sts ++ [σ']).getD n [])[id]? := by
  intro id m n hm hn h
  rcases Nat.le_total m n with h1 | h1
  ·
   obtain ⟨k, rfl⟩ := Nat.exists_eq_add_of_le h1
   exact (hlookS id k m hn (fun j W h2 h3 h4 => h j W h4 (by omega))).symm
  ·
   obtain ⟨k, rfl⟩ := Nat.exists_eq_add_of_le h1
   exact hlookS id k n hm (fun j W h2 h3 h4 => h j W h4 (by omega))
 -- states without an effect between them are the same
 have hsame : ∀ (k n : Nat), n + k ≤ l.length → (∀ j W, n ≤ j → j < n + k → ks[j]? ≠ some (.eff W)) → (sts ++ [σ']).getD (n + k) [] = (sts ++ [σ']).getD n [] := by
  intro k n hnk h
  induction k with
  | zero => rfl
  | succ k ihk =>
   rw [← ihk (by omega) (fun j W h1 h2 => h j W h1 (by omega))]
   exact hstepN (n + k) (by omega) (fun W => h (n + k) W (by omega) (by omega))
 have hbetween : ∀ (m n : Nat), m ≤ l.length → n ≤ l.length → (∀ j W, ks[j]? = some (.eff W) → (j < m ↔ j < n)) → (sts ++ [σ']).getD m [] = (sts ++ [σ']).getD n [] := by
  intro m n hm hn h
  rcases Nat.le_total m n with h1 | h1
  ·
   obtain ⟨k, rfl⟩ := Nat.exists_eq_add_of_le h1
   exact (hsame k m hn (fun j W h2 h3 h4 => by have := h j W h4; omega)).symm
  ·
   obtain ⟨k, rfl⟩ := Nat.exists_eq_add_of_le h1
   exact hsame k n hm (fun j W h2 h3 h4 => by have := h j W h4; omega)
 -- when all have come up
 have hend : ∀ (L : Array Bool) (G : Cx) (a : Act) (m : Nat), G0.Ext G → L.size = l.length → Region.ready .any l.toArray L = [] → m ≤ l.length → (∀ j W, ks[j]? = some (.eff W) → (L.getD j false = true ↔ j < m)) → S8 N G a (fr (fun j => L.getD j false) 0 out F) ((sts ++ [σ']).getD m [] ++ (if L.getD f false = true then [ob] else [])) → liftE N G0 Q .normal a G.w := by
  intro L G a m hst hL hr hml hm h8
  have e1 : (sts ++ [σ']).getD m [] = σ' := by
   rw [hbetween m l.length hml (Nat.le_refl _) (fun j W hj => by
    have hjl : j < l.length := by rw [← hkl]; exact (List.getElem?_eq_some_iff.1 hj).1
    have := (hm j W hj).1 (hnone L hL hr j hjl)
    exact ⟨fun _ => hjl, fun _ => this⟩)]
   simp [List.getD, ← hsl]
  have e2 : (if L.getD f false = true then [ob] else []) = (if fl = true then [ob] else []) := by
   cases hb : fl with
   | true => rw [if_pos (hnone L hL hr f (hfl hb)), if_pos rfl]
   | false => rw [if_neg (hff L hL hb), if_neg (by simp)]
  rw [e1, e2] at h8
  refine ⟨G, F', _, rfl, hst, ⟨h8.rel, fun t => ?_, h8.df, h8.nt⟩, hQ⟩
  have h1 := h8.fr t
  have h2 : (fr (fun j => L.getD j false) 0 out F).get t = (fr (fun j => decide (j < 0 + out.length)) 0 out F).get t := zdl out 0 F F rfl (fun j p hp _ => by
   have hj : j < out.length := (List.getElem?_eq_some_iff.1 hp).1
   simp only [Nat.zero_add]
   rw [hnone L hL hr j (by omega)]
   simp [hj])
  rw [h2, fr_pre, List.take_length, ← hF'] at h1
  exact h1
 intro fuel
 induction fuel with
 | zero =>
  intro L G a m hst hL hlf hcl hml hm _ h8
  have hr : Region.ready .any l.toArray L = [] := by
   rw [List.eq_nil_iff_forall_not_mem]
   intro i hi
   obtain ⟨h1, o, ho, _⟩ := mem_ready.1 hi
   have hlt : i < L.size := by rw [hL]; simpa using (Array.getElem?_eq_some_iff.1 ho).1
   have : 0 < left L.toList := left_pos i (by simp [Array.getD_eq_getD_getElem?, hlt] at h1 ⊢; exact h1)
   omega
  exact ⟨hr, hend L G a m hst hL hr hml hm h8⟩
 | succ fuel ih =>
  intro L G a m hst hL hlf hcl hml hm hNr h8
  refine ⟨fun hr => hend L G a m hst hL hr hml hm h8, fun i hi => ?_⟩
  obtain ⟨h1, o, ho, hall⟩ := mem_ready.1 hi
  have hli : l[i]? = some o := by simpa using ho
  have hlt : i < L.size := by rw [hL]; exact (List.getElem?_eq_some_iff.1 hli).1
  have hfalse : L.getD i false = false := by simp [Array.getD_eq_getD_getElem?, hlt] at h1 ⊢; exact h1
  obtain ⟨x, g1, g2, g4⟩ := hat i o hli
  -- the others that touch its slots: those before it have come up, those behind it have not
  have hcl' : Closed l (fun j => j = i ∨ L.getD j false = true) := by
   intro j oj hj hD e he hb
   rcases hD with rfl | hD
   ·
    rw [hli] at hj; cases hj
    exact .inr (hall e (by simpa using he) hb)
   ·
    exact .inr (hcl j oj hj hD e he hb)
  have hord : ∀ j oj, l[j]? = some oj → j ≠ i → (j < i → clash l.toArray oj o = true → L.getD j false = true) ∧ (i < j → clash l.toArray o oj = true → L.getD j false = false) := by
   intro j oj hj hne
   refine ⟨fun hji hc => ?_, fun hij hc => ?_⟩
   ·
    rcases hsound _ hcl' i j ((hq' i o hli).2 j oj hji hj hc) (.inl rfl) with h | h
    ·
     exact absurd h hne
    ·
     exact h
   ·
    cases hx : L.getD j false with
    | false => rfl
    | true =>
     have := hsound _ hcl j i ((hq' j oj hj).2 i o hij hli hc) hx
     rw [hfalse] at this
     cases this
  have hsel : ∀ t, t ∈ o.looksAt l.toArray → Frm.get ((out.take i).reverse ++ F) t = (fr (fun j => L.getD j false) 0 out F).get t := by
   intro t ht
   rw [← fr_pre out 0 i F]
   refine (zdl out 0 F F rfl (fun j p hp hpt => ?_)).symm
   simp only [Nat.zero_add]
   have hj : j < l.length := by rw [hlen]; exact (List.getElem?_eq_some_iff.1 hp).1
   obtain ⟨x', k1, _, _⟩ := hat j _ (List.getElem?_eq_getElem hj)
   rw [k1] at hp
   cases hp
   have htN := hlk' i o hli t ht
   have k2 : l[j].dst = some t := ent_at hpt htN
   by_cases hji : j = i
   ·
    subst hji; rw [hfalse]; simp
   ·
    rcases Nat.lt_or_gt_of_ne hji with h | h
    ·
     rw [(hord j _ (List.getElem?_eq_getElem hj) hji).1 h (zdw.1 k2 ht)]; simp [h]
    ·
     rw [(hord j _ (List.getElem?_eq_getElem hj) hji).2 h (zdw.2.2 k2 ht)]; simp; omega
  -- what is known behind it
  have hnext : ∀ (m' : Nat), m' ≤ l.length → (∀ j W, ks[j]? = some (.eff W) → ((L.setIfInBounds i true).getD j false = true ↔ j < m')) → ∀ (G' : Cx) (v : Value), G.Ext G' → Rel G' ((sts ++ [σ']).getD m' [] ++ (if (L.setIfInBounds i true).getD f false = true then [ob] else [])) → Rep G' v x → wpAny P .any l.toArray (liftE N G0 Q) fuel (L.setIfInBounds i true) (a.put o.dst v) G'.w := by
   intro m' hm'l hm' G' v he hr' hv
   refine ih _ G' _ m' (hst.trans he) (by simpa using hL) ?_ ?_ hm'l hm' ?_ ⟨hr', fun t => ?_, by cases o.dst <;> exact h8.df, by cases o.dst <;> simp [Act.put, h8.nt]⟩
   ·
    have := left_set L.toList i (by simp [Array.getD_eq_getD_getElem?, hlt] at hfalse ⊢; exact hfalse)
    rw [Array.toList_setIfInBounds]; omega
   ·
    intro j oj hj hD e he2 hb
    have key : ∀ k, (L.setIfInBounds i true).getD k false = true ↔ (k = i ∨ L.getD k false = true) := fun k => by
     by_cases hk : i = k
     ·
      subst hk; simp [Array.getD_eq_getD_getElem?, hlt]
     ·
      simp [Array.getD_eq_getD_getElem?, Array.getElem?_setIfInBounds, hk, Ne.symm hk]
    rw [key] at hD ⊢
    exact hcl' j oj hj hD e he2 hb
   ·
    cases ho2 : o.dst with
    | none => exact hNr.ext he
    | some d =>
     have hd := dOk_lt g2 ho2
     have : d ≠ N := Nat.ne_of_lt hd
     have h1 : (a.put (some d) v).tmps.getD N undef = a.tmps.getD N undef := by simp [Act.put, Array.getD_eq_getD_getElem?, Array.getElem?_setIfInBounds, this]
     rw [h1]; exact hNr.ext he
   ·
    have hselL : ∀ k, k ≠ i → (L.setIfInBounds i true).getD k false = L.getD k false := fun k hk => by
     simp [Array.getD_eq_getD_getElem?, Array.getElem?_setIfInBounds, Ne.symm hk]
    by_cases hte : t = (ent N o x).1
    ·
     cases ho2 : o.dst with
     | none =>
      rw [ent_none ho2] at hte
      have hte : t = N := hte
      rw [hte]
      refine fr_rep out 0 F (hNr.ext he) (fun p hp hpt => ?_)
      obtain ⟨j, hj, rfl⟩ := List.mem_iff_getElem.1 hp
      obtain ⟨x', k1, k2, _⟩ := hat j l[j] (List.getElem?_eq_getElem (by omega))
      have k3 : out[j] = ent N l[j] x' := by rw [List.getElem?_eq_getElem hj] at k1; exact Option.some.inj k1
      rw [k3] at hpt ⊢
      rw [ent_top hpt k2]
      exact .any _
     | some d =>
      rw [zcg ho2] at hte g1
      dsimp only at hte
      subst hte
      have h2 : (fr (fun j => (L.setIfInBounds i true).getD j false) 0 out F).get t = x := fr_last out 0 F i g1 (by simp [Array.getD_eq_getD_getElem?, hlt]) (fun j p hp hij hc hpt => by
       simp only [Nat.zero_add] at hc
       rw [hselL j (by omega)] at hc
       have hj : j < l.length := by rw [hlen]; exact (List.getElem?_eq_some_iff.1 hp).1
       obtain ⟨x', k1, _, _⟩ := hat j _ (List.getElem?_eq_getElem hj)
       rw [k1] at hp
       cases hp
       have htN := dOk_lt g2 ho2
       have k2 : l[j].dst = some t := ent_at hpt htN
       have := (hord j _ (List.getElem?_eq_getElem hj) (by omega)).2 hij (zdw.2.1 ho2 k2)
       rw [this] at hc
       cases hc)
      rw [h2]
      have : t < a.tmps.size := by rw [h8.nt]; exact dOk_lt g2 ho2
      simpa [Act.put, Array.getD_eq_getD_getElem?, this] using hv
    ·
     have h2 : (fr (fun j => (L.setIfInBounds i true).getD j false) 0 out F).get t = (fr (fun j => L.getD j false) 0 out F).get t := zdl out 0 F F rfl (fun j p hp hpt => by
      simp only [Nat.zero_add]
      refine hselL j (fun e => ?_)
      subst e
      rw [g1] at hp
      cases hp
      exact hte hpt.symm)
     rw [h2]
     have h3 := (h8.fr t).ext he
     cases ho2 : o.dst with
     | none => exact h3
     | some d =>
      rw [zcg ho2] at hte
      have hte : t ≠ d := hte
      simpa [Act.put, Array.getD_eq_getD_getElem?, Array.getElem?_setIfInBounds, Ne.symm hte] using h3
  have hset : ∀ j, j ≠ i → ((L.setIfInBounds i true).getD j false = true ↔ L.getD j false = true) := fun j hj => by
   simp [Array.getD_eq_getD_getElem?, Array.getElem?_setIfInBounds, Ne.symm hj]
  have hseti : (L.setIfInBounds i true).getD i false = true := by simp [Array.getD_eq_getD_getElem?, hlt]
  have hil : i < l.length := (List.getElem?_eq_some_iff.1 hli).1
  have hkeep : (∀ W, ks[i]? ≠ some (.eff W)) → ∀ j W, ks[j]? = some (.eff W) → ((L.setIfInBounds i true).getD j false = true ↔ j < m) := fun hne j W hj => by
   have : j ≠ i := fun e => hne W (e ▸ hj)
   rw [hset j this]; exact hm j W hj
  -- an effect that is on the other side in the list is one that it does not meet
  have hside : ∀ b, ks[i]? = some b → ∀ j W, ks[j]? = some (.eff W) → kdClash b.kd (.eff W) = true → (j < m ↔ j < i) := fun b hb j W hj hcl2 => by
   have hjl : j < l.length := by rw [← hkl]; exact (List.getElem?_eq_some_iff.1 hj).1
   rw [← hm j W hj]
   rcases Nat.lt_trichotomy j i with h | h | h
   ·
    have h3 := hq2 j i (.eff W) b h hj hb (by rw [kdClash_symm]; exact hcl2)
    rcases hsound _ hcl' i j h3 (.inl rfl) with h4 | h4
    ·
     omega
    ·
     simp [h, h4]
   ·
    subst h; rw [hfalse]; simp
   ·
    have h3 := hq2 i j b (.eff W) h hb hj hcl2
    constructor
    ·
     intro h4
     have := hsound _ hcl j i h3 h4
     rw [hfalse] at this; cases this
    ·
     intro h4; omega
  have hfi : ks[i]? ≠ some .flt → ((L.setIfInBounds i true).getD f false = true ↔ L.getD f false = true) := fun hne => hset f (fun e => by
   rcases hf with ⟨_, hf⟩ | ⟨_, hf⟩
   ·
    exact hne (e ▸ hf)
   ·
    omega)
  have hInv : Inv ((sts ++ [σ']).getD m [] ++ (if L.getD f false = true then [ob] else [])) := by
   split
   ·
    exact hIX _ (hlenS m hml).2
   ·
    rw [List.append_nil]; exact (hlenS m hml).2
  have hfe : ks[i]? ≠ some .flt → (if (L.setIfInBounds i true).getD f false = true then [ob] else []) = (if L.getD f false = true then [ob] else []) := fun hne => by simp only [hfi hne]
  unfold wpOp
  simp only [ho]
  rcases g4 with ⟨k0, ks0, k1, k2⟩ | ⟨R, k0, ks0, kR, k1, k2⟩ | ⟨W0, k0, k1, k2, _⟩ | ⟨k0, ks0, k1, k2⟩
  ·
   rw [if_pos ((k1.congr hsel).wanted h8.fr)]
   left
   refine ((k2 _ hInv).congr hsel) G a _ _ h8.rel (fun y _ => zcs h8.fr y) (fun v G' he hr' hv => ?_)
   exact hnext m hml (hkeep (by rw [k0]; simp)) G' v he (by rw [hfe (by rw [k0]; simp)]; exact hr') hv
  ·
   rw [if_pos ((k1.congr hsel).wanted h8.fr)]
   left
   have hlooked : ∀ id ∈ R, ((sts ++ [σ']).getD m [] ++ (if L.getD f false = true then [ob] else []))[id]? = ((sts ++ [σ']).getD i [])[id]? := fun id hid => by
    rw [List.getElem?_append_left (by rw [(hlenS m hml).1]; exact kR id hid)]
    exact hlooks id m i hml (Nat.le_of_lt hil) (fun j W hj hne => by
     cases hc : kdClash (.look R) (.eff W) with
     | true => exact absurd (hside _ k0 j W hj hc) hne
     | false => exact meets_of hc id hid)
   refine ((k2 _ hlooked).congr hsel) G a _ _ h8.rel (fun y _ => zcs h8.fr y) (fun v G' he hr' hv => ?_)
   exact hnext m hml (hkeep (by rw [k0]; simp)) G' v he (by rw [hfe (by rw [k0]; simp)]; exact hr') hv
  ·
   rw [if_pos ((k1.congr hsel).wanted h8.fr)]
   left
   have hef : ∀ j W, ks[j]? = some (.eff W) → (j < m ↔ j < i) := fun j W hj => hside _ k0 j W hj rfl
   have e1 := hbetween m i hml (Nat.le_of_lt hil) hef
   have h8r := h8.rel
   rw [e1] at h8r
   refine ((k2 _ (fun hb => if_neg (hff L hL hb))).congr hsel) G a _ _ h8r (fun y _ => zcs h8.fr y) (fun v G' he hr' hv => ?_)
   refine hnext (i + 1) hil (fun j W hj => ?_) G' v he (by rw [hfe (by rw [k0]; simp)]; exact hr') hv
   by_cases hji : j = i
   ·
    subst hji; rw [hseti]; simp
   ·
    rw [hset j hji, hm j W hj, hef j W hj]; omega
  ·
   rw [if_pos ((k1.congr hsel).wanted h8.fr)]
   left
   have hif := hone2 i k0
   have h8r := h8.rel
   rw [if_neg (by rw [← hif, hfalse]; simp), List.append_nil] at h8r
   refine ((k2 _ (hlenS m hml).1).congr hsel) G a _ _ h8r (fun y _ => zcs h8.fr y) (fun v G' he hr' hv => ?_)
   exact hnext m hml (hkeep (by rw [k0]; simp)) G' v he (by rw [← hif, if_pos hseti]; exact hr') hv
theorem fdraw_steps {n0 : Nat} {ob : Ob} {fl : Bool} {Inv : List Ob → Prop} {f : Nat} {σ' : List Ob} {ks : List FKd} {sts : List (List Ob)} (hs : FSteps P N l.toArray n0 ob fl Inv l F σ F' σ' out ks sts) (hIX : ∀ s, Inv s → Inv (s ++ [ob])) (hf : (fl = true ∧ ks[f]? = some .flt) ∨ (fl = false ∧ l.length ≤ f)) (hq : fOk l N ks f = true) (hQ : Q .normal F' (σ' ++ (if fl = true then [ob] else []))) : EDraw P N l F σ Q := fun G a h8 => by
 have hno : ∀ j, (Array.replicate l.length false).getD j false = false := fun j => by
  simp only [Array.getD_eq_getD_getElem?, Array.getElem?_replicate]
  split <;> rfl
 have h3 : ∀ (out : List (Nat × AV)) (k : Nat) (F : Frm), fr (fun j => (Array.replicate l.length false).getD j false) k out F = F := by
  intro out
  induction out with
  | nil => intro k F; rfl
  | cons p out ih =>
   intro k F
   have := hno k
   simp only [fr, this, cond_false]
   exact ih _ _
 refine fgen_any hIX hq hf hs hQ G l.length _ G a 0 (.refl G) (by simp) (by simp [left_rep]) ?_ (Nat.zero_le _) ?_ (h8.fr N) ?_
 ·
  intro j o hj hD
  rw [hno] at hD
  cases hD
 ·
  intro j W hj
  rw [hno]; simp
 ·
  rw [h3, (fsteps_at hs).2.2.2.2.1, if_neg (by rw [hno]; simp), List.append_nil]; exact h8
def FX (P : Program) (N : Nat) (ops : Array Oper) (all : List Oper) (n0 : Nat) (ob : Ob) (fl : Bool) (Inv : List Ob → Prop) (f : Nat) (acc : List FKd) (l : List Oper) (F : Frm) (σ : List Ob) (K : Frm → List Ob → Prop) : Prop :=
 ∃ F' σ' out ks sts, FSteps P N ops n0 ob fl Inv l F σ F' σ' out ks sts ∧ fOk all N (acc.reverse ++ ks) f = true ∧ ((fl = true ∧ (acc.reverse ++ ks)[f]? = some .flt) ∨ (fl = false ∧ all.length ≤ f)) ∧ K F' (σ' ++ (if fl = true then [ob] else []))
variable {ops : Array Oper} {all : List Oper} {n0 : Nat} {ob : Ob} {fl : Bool} {Inv : List Ob → Prop} {f : Nat} {acc : List FKd} {K : Frm → List Ob → Prop} {o : Oper} {d : Nat} {x : AV} {σ1 : List Ob}
theorem fx_nil (hn : σ.length = n0 ∧ Inv σ) (hk : fOk all N acc.reverse f = true) (hf : (fl = true ∧ acc.reverse[f]? = some .flt) ∨ (fl = false ∧ all.length ≤ f)) (h : K F (σ ++ (if fl = true then [ob] else []))) : FX P N ops all n0 ob fl Inv f acc [] F σ K := ⟨F, σ, [], [], [], .nil F σ hn, by simpa using hk, by simpa using hf, h⟩
theorem fx_inv (hd : o.dst = some d) (hN : Nat.blt d N = true) (hr : Runs ops F o true) (hD : ∀ σ, Inv σ → Does P o F σ x σ) (hn : σ.length = n0 ∧ Inv σ) (h : FX P N ops all n0 ob fl Inv f (.free :: acc) l ((d, x) :: F) σ K) : FX P N ops all n0 ob fl Inv f acc (o :: l) F σ K := by
 obtain ⟨F', σ', out, ks, sts, h1, h2, h4, h3⟩ := h
 exact ⟨F', σ', _, _, _, .free o l F F' σ σ' x out ks sts hn (dOk_s hd hN) hr hD (by rw [zcg hd]; exact h1), by simpa using h2, by simpa using h4, h3⟩
theorem zbc (hd : o.dst = some d) (hN : Nat.blt d N = true) (hr : Runs ops F o true) (hD : ∀ σ, Does P o F σ x σ) (hn : σ.length = n0 ∧ Inv σ) (h : FX P N ops all n0 ob fl Inv f (.free :: acc) l ((d, x) :: F) σ K) : FX P N ops all n0 ob fl Inv f acc (o :: l) F σ K :=
 fx_inv hd hN hr (fun σ _ => hD σ) hn h
theorem fx_look {R : List Nat} (hd : o.dst = some d) (hN : Nat.blt d N = true) (hr : Runs ops F o true) (hD : ∀ σ2, (∀ id ∈ R, σ2[id]? = σ[id]?) → Does P o F σ2 x σ2) (hn : σ.length = n0 ∧ Inv σ) (hR : ∀ id ∈ R, id < n0) (h : FX P N ops all n0 ob fl Inv f (.look R :: acc) l ((d, x) :: F) σ K) : FX P N ops all n0 ob fl Inv f acc (o :: l) F σ K := by
 obtain ⟨F', σ', out, ks, sts, h1, h2, h4, h3⟩ := h
 exact ⟨F', σ', _, _, _, .look o l F F' σ σ' x out ks sts R hn hR (dOk_s hd hN) hr hD (by rw [zcg hd]; exact h1), by simpa using h2, by simpa using h4, h3⟩
theorem fx_eff {W : List Nat} (hd : o.dst = some d) (hN : Nat.blt d N = true) (hr : Runs ops F o true) (hD : ∀ X, (fl = false → X = []) → Does P o F (σ ++ X) x (σ1 ++ X)) (hW : ∀ id, id ∉ W → σ1[id]? = σ[id]?) (hn : σ.length = n0 ∧ Inv σ) (h : FX P N ops all n0 ob fl Inv f (.eff W :: acc) l ((d, x) :: F) σ1 K) : FX P N ops all n0 ob fl Inv f acc (o :: l) F σ K := by
 obtain ⟨F', σ', out, ks, sts, h1, h2, h4, h3⟩ := h
 exact ⟨F', σ', _, _, _, .eff o l F F' σ σ1 σ' x out ks sts W hn (dOk_s hd hN) hr hD hW (by rw [zcg hd]; exact h1), by simpa using h2, by simpa using h4, h3⟩
theorem fx_flt (hd : o.dst = some d) (hN : Nat.blt d N = true) (hr : Runs ops F o true) (hD : ∀ σ : List Ob, σ.length = n0 → Does P o F σ x (σ ++ [ob])) (hn : σ.length = n0 ∧ Inv σ) (h : FX P N ops all n0 ob fl Inv f (.flt :: acc) l ((d, x) :: F) σ K) : FX P N ops all n0 ob fl Inv f acc (o :: l) F σ K := by
 obtain ⟨F', σ', out, ks, sts, h1, h2, h4, h3⟩ := h
 exact ⟨F', σ', _, _, _, .flt o l F F' σ σ' x out ks sts hn (dOk_s hd hN) hr hD (by rw [zcg hd]; exact h1), by simpa using h2, by simpa using h4, h3⟩
theorem edraw_fx (f : Nat) (ob : Ob) (Inv : List Ob → Prop) (hIX : ∀ s, Inv s → Inv (s ++ [ob])) (h : FX P N l.toArray l σ.length ob true Inv f [] l F σ (fun F' σ' => Q .normal F' σ')) : EDraw P N l F σ Q := by
 obtain ⟨F', σ', out, ks, sts, h1, h2, h4, h3⟩ := h
 exact fdraw_steps h1 hIX (by simpa using h4) (by simpa using h2) h3
theorem edraw_f0 (Inv : List Ob → Prop) (hIX : ∀ s, Inv s → Inv (s ++ [.dead])) (h : FX P N l.toArray l σ.length .dead false Inv l.length [] l F σ (fun F' σ' => Q .normal F' σ')) : EDraw P N l F σ Q := by
 obtain ⟨F', σ', out, ks, sts, h1, h2, h4, h3⟩ := h
 exact fdraw_steps h1 hIX (.inr ⟨rfl, Nat.le_refl _⟩) (by simpa using h2) h3
theorem fx_n0 {a a' : Ob} {R : List Ob} (hd : o.dst = some d) (hN : Nat.blt d N = true) (hr : Runs ops F o true) (hD : ∀ X, Does P o F (a :: (R ++ X)) x (a' :: (R ++ X))) (hn : (a :: R).length = n0 ∧ Inv (a :: R)) (h : FX P N ops all n0 ob fl Inv f (.eff [0] :: acc) l ((d, x) :: F) (a' :: R) K) : FX P N ops all n0 ob fl Inv f acc (o :: l) F (a :: R) K :=
 fx_eff (W := [0]) (σ := a :: R) (σ1 := a' :: R) hd hN hr (fun X _ => hD X) (fun id hid => by
  cases id with
  | zero => exact absurd (by simp) hid
  | succ id => rfl) hn h
theorem fx_m0 {a a' : Ob} {R : List Ob} (hfl : fl = false) (hd : o.dst = some d) (hN : Nat.blt d N = true) (hr : Runs ops F o true) (hD : Does P o F (a :: R) x (a' :: R)) (hn : (a :: R).length = n0 ∧ Inv (a :: R)) (h : FX P N ops all n0 ob fl Inv f (.eff [0] :: acc) l ((d, x) :: F) (a' :: R) K) : FX P N ops all n0 ob fl Inv f acc (o :: l) F (a :: R) K :=
 fx_eff (W := [0]) (σ := a :: R) (σ1 := a' :: R) hd hN hr (fun X hX => by rw [hX hfl, List.append_nil, List.append_nil]; exact hD) (fun id hid => by
  cases id with
  | zero => exact absurd (by simp) hid
  | succ id => rfl) hn h
theorem edraw_lastT {last : Oper} (hl : l.dropLast ++ [last] = l) (hk : lastBT l.dropLast last = true) (h : EDraw P N l.dropLast F σ (AThen (fun F σ => EOps P N l.toArray [last] F σ Q) Q)) : EDraw P N l F σ Q := fun G a hs => by
 have h1 := h G a hs
 have h2 := wpAny_mono (Q' := thenLast P l.dropLast last (liftE N G Q)) (fun e a w q => by
  obtain ⟨G', F', σ', rfl, g2, g3, g4⟩ := q
  unfold thenLast
  rw [hl]
  cases e with
  | normal => exact zce (fun e a w q => liftE_mono g2 (fun _ _ _ x => x) q) _ _ _ (g4 G' a g3)
  | _ => exact ⟨G', F', σ', rfl, g2, g3, g4⟩) _ _ _ _ h1
 have h3 := last_anyT (lastT_of hk) _ _ a G.w (by simp) (Clo.none _) h2
 rw [hl] at h3
 have h4 : l.length = l.dropLast.length + 1 := by rw [← hl]; simp
 rw [h4]
 rwa [show Array.replicate (l.dropLast.length + 1) false = (Array.replicate l.dropLast.length false).push false by simp [Array.replicate_succ]]
theorem does_alloc_flt {n0 sz : Nat} {F : Frm} {o : Oper} (h : ∀ σ : List Ob, Does P o F σ (.ptr σ.length sz 0 0) (σ ++ [ob])) : ∀ σ : List Ob, σ.length = n0 → Does P o F σ (.ptr n0 sz 0 0) (σ ++ [ob]) := fun σ e => by
 subst e; exact h σ
end
end Go.Proofs.Ytllkbjcemecmjaa.Aw
end
section
namespace Go.Proofs.Ytllkbjcemecmjaa.Aw.K4
open Go Go.RowKit Go.Proofs
structure KE (G G' : Cx) : Prop where
 step : G.Step G'
 mu0 : ∀ i y, i < 4 → G.mu i = some y → G'.mu i = some y
 rows : zb8 G.w G'.w
 size : G.w.heap.size ≤ G'.w.heap.size
theorem KE.refl (G : Cx) : KE G G := ⟨.refl G, fun _ _ _ h => h, zb8.refl _, Nat.le_refl _⟩
theorem KE.trans {G H K : Cx} (h : KE G H) (k : KE H K) : KE G K := ⟨h.step.trans k.step, fun i y hi x => k.mu0 i y hi (h.mu0 i y hi x), h.rows.trans k.rows, Nat.le_trans h.size k.size⟩
theorem KE.of {G G' : Cx} (e : G.Ext G') : KE G G' := ⟨e.step, fun i y _ h => e.mu i y h, e.rows, e.size⟩
def liftK (N : Nat) (G : Cx) (Q : Exit → Frm → List Ob → Prop) : Exit → Act → World → Prop :=
 fun e a' w' => ∃ G' F' σ', G'.w = w' ∧ KE G G' ∧ S8 N G' a' F' σ' ∧ Q e F' σ'
theorem liftK_mono {N : Nat} {G G1 : Cx} (h : KE G G1) {Q Q' : Exit → Frm → List Ob → Prop} (hq : ∀ e F σ, Q e F σ → Q' e F σ) {e : Exit} {a : Act} {w : World} (x : liftK N G1 Q e a w) : liftK N G Q' e a w := by
 obtain ⟨G', F', σ', h1, h2, h3, h4⟩ := x
 exact ⟨G', F', σ', h1, h.trans h2, h3, hq _ _ _ h4⟩
def KWp (P : Program) (N : Nat) (c : Code) (F : Frm) (σ : List Ob) (Q : Exit → Frm → List Ob → Prop) : Prop :=
 ∀ G a, S8 N G a F σ → c.wp P (liftK N G Q) a G.w
def KOps (P : Program) (N : Nat) (ops : Array Oper) (l : List Oper) (F : Frm) (σ : List Ob) (Q : Exit → Frm → List Ob → Prop) : Prop :=
 ∀ G a, S8 N G a F σ → wpList P ops (liftK N G Q) l a G.w
section
variable {P : Program} {N : Nat} {F : Frm} {σ : List Ob} {Q : Exit → Frm → List Ob → Prop}
theorem kw_seq {x y : Code} (h : KWp P N x F σ (AThen (fun F σ => KWp P N y F σ Q) Q)) : KWp P N (.seq x y) F σ Q := fun G a hs => by
 refine wp_seq (Code.wp_mono (fun e a1 w1 q => ?_) (h G a hs))
 obtain ⟨G', F', σ', rfl, h2, h3, h4⟩ := q
 cases e with
 | normal => exact Code.wp_mono (fun e a w q => liftK_mono h2 (fun _ _ _ x => x) q) (h4 G' a1 h3)
 | _ => exact ⟨G', F', σ', rfl, h2, h3, h4⟩
theorem kw_skip (h : Q .normal F σ) : KWp P N .skip F σ Q := fun G a hs => wp_skip ⟨G, F, σ, rfl, .refl G, hs, h⟩
theorem kw_exit {id : Nat} (h : Q (.exit id) F σ) : KWp P N (.exit id) F σ Q := fun G a hs => wp_exit ⟨G, F, σ, rfl, .refl G, hs, h⟩
theorem kw_ret (h : Q .ret F σ) : KWp P N .ret F σ Q := fun G a hs => wp_ret ⟨G, F, σ, rfl, .refl G, hs, h⟩
theorem kw_block {id : Nat} {c : Code} (h : KWp P N c F σ (ABlk id Q)) : KWp P N (.block id c) F σ Q := fun G a hs => by
 refine wp_block (Code.wp_mono (fun e a1 w1 q => ?_) (h G a hs))
 obtain ⟨G', F', σ', rfl, h2, h3, h4⟩ := q
 cases e with
 | exit id' =>
  simp only [ABlk] at h4
  simp only [Exit.inBlock]
  split
  ·
   rename_i e; rw [if_pos e] at h4; exact ⟨G', F', σ', rfl, h2, h3, h4⟩
  ·
   rename_i e; rw [if_neg e] at h4; exact ⟨G', F', σ', rfl, h2, h3, h4⟩
 | _ => exact ⟨G', F', σ', rfl, h2, h3, h4⟩
theorem kw_cond {c : Operand} {x y : Code} {b : Bool} (hc : F.eval c = .s (.bool b)) (ht : b = true → KWp P N x F σ Q) (hf : b = false → KWp P N y F σ Q) : KWp P N (.cond c x y) F σ Q := fun G a hs =>
 wp_cond_split (rep_bool hs.fr hc) (fun e => ht e G a hs) (fun e => hf e G a hs)
theorem kw_true {c : Operand} {x y : Code} (hc : F.eval c = .s (.bool true)) (ht : KWp P N x F σ Q) : KWp P N (.cond c x y) F σ Q := kw_cond hc (fun _ => ht) (fun e => by cases e)
theorem kw_false {c : Operand} {x y : Code} (hc : F.eval c = .s (.bool false)) (ht : KWp P N y F σ Q) : KWp P N (.cond c x y) F σ Q := kw_cond hc (fun e => by cases e) (fun _ => ht)
theorem kw_loop {c : Code} (I : Nat → Frm → List Ob → Prop) (m : Nat) (h0 : I m F σ)
  (round : ∀ m F σ, I m F σ → KWp P N c F σ (AThen (fun F' σ' => ∃ m', m' < m ∧ I m' F' σ') Q)) : KWp P N (.loop c) F σ Q := fun G a hs => by
 refine wp_loop_ghost (fun n a w => ∃ G' F' σ', G'.w = w ∧ KE G G' ∧ S8 N G' a F' σ' ∧ I n F' σ') m ⟨G, F, σ, rfl, .refl G, hs, h0⟩ ?_
 rintro n a w ⟨G', F', σ', rfl, h2, h3, h4⟩
 refine Code.wp_mono (fun e a1 w1 q => ?_) (round n F' σ' h4 G' a h3)
 obtain ⟨G2, F2, σ2, rfl, h5, h6, h7⟩ := q
 cases e with
 | normal => obtain ⟨m', hm, hi⟩ := h7; exact ⟨m', hm, ⟨G2, F2, σ2, rfl, h2.trans h5, h6, hi⟩⟩
 | _ => exact ⟨G2, F2, σ2, rfl, h2.trans h5, h6, h7⟩
theorem kw_region {id : Nat} {l : List Oper} (h : KOps P N l.toArray l F σ Q) : KWp P N (.region id l.toArray false) F σ Q := fun G a hs => wp_region_lit (h G a hs)
theorem kw_mono {c : Code} {Q' : Exit → Frm → List Ob → Prop} (h : KWp P N c F σ Q) (hq : ∀ e F σ, Q e F σ → Q' e F σ) : KWp P N c F σ Q' := fun G a hs =>
 Code.wp_mono (fun e a w q => liftK_mono (.refl G) hq q) (h G a hs)
end
section
variable {P : Program} {N : Nat} {F : Frm} {σ σ' : List Ob} {Q : Exit → Frm → List Ob → Prop} {ops : Array Oper} {o : Oper} {l : List Oper} {x : AV}
theorem kops_nil (h : Q .normal F σ) : KOps P N ops [] F σ Q := fun G a hs => ⟨G, F, σ, rfl, .refl G, hs, h⟩
theorem kops_op {d : Nat} (hd : o.dst = some d) (hN : Nat.blt d N = true) (hr : Runs ops F o true) (hD : Does P o F σ x σ') (k : KOps P N ops l ((d, x) :: F) σ' Q) : KOps P N ops (o :: l) F σ Q := fun G a hs => by
 unfold wpList
 rw [if_pos (hr.wanted hs.fr)]
 left
 refine hD G a _ _ hs.rel (fun y _ => zcs hs.fr y) (fun v G' e r hv => ?_)
 rw [hd]
 exact zce (fun e' a w q => liftK_mono (KE.of e) (fun _ _ _ x => x) q) _ _ _ (k G' _ ((hs.step e r).put (by simpa [Nat.blt_eq] using hN) hv))
theorem kops_eff (hd : o.dst = none) (hr : Runs ops F o true) (hD : Does P o F σ x σ') (k : KOps P N ops l F σ' Q) : KOps P N ops (o :: l) F σ Q := fun G a hs => by
 unfold wpList
 rw [if_pos (hr.wanted hs.fr)]
 left
 refine hD G a _ _ hs.rel (fun y _ => zcs hs.fr y) (fun v G' e r hv => ?_)
 rw [hd]
 exact zce (fun e' a w q => liftK_mono (KE.of e) (fun _ _ _ x => x) q) _ _ _ (k G' _ (hs.step e r))
theorem kops_skip {d : Nat} (hd : o.dst = some d) (hN : Nat.blt d N = true) (hr : Runs ops F o false) (k : KOps P N ops l ((d, .s undef) :: F) σ Q) : KOps P N ops (o :: l) F σ Q := fun G a hs => by
 unfold wpList
 rw [if_neg (by rw [hr.wanted hs.fr]; simp)]
 rw [hd]
 exact k G _ (hs.put (by simpa [Nat.blt_eq] using hN) (.s _))
end
def WeakK (N : Nat) (F : Frm) (σ : List Ob) (F' : Frm) (σ' : List Ob) : Prop := ∀ G a, S8 N G a F σ → ∃ G', G'.w = G.w ∧ KE G G' ∧ S8 N G' a F' σ'
theorem WeakK.refl {N : Nat} {F : Frm} {σ : List Ob} : WeakK N F σ F σ := fun G a h => ⟨G, rfl, .refl G, h⟩
section
variable {P : Program} {N : Nat} {F F' : Frm} {σ σ' : List Ob} {Q : Exit → Frm → List Ob → Prop}
theorem kw_weak {c : Code} (w : WeakK N F σ F' σ') (h : KWp P N c F' σ' Q) : KWp P N c F σ Q := fun G a hs => by
 obtain ⟨G1, e1, s1, h1⟩ := w G a hs
 rw [← e1]
 exact Code.wp_mono (fun e a w q => liftK_mono s1 (fun _ _ _ x => x) q) (h G1 a h1)
theorem kops_weak {ops : Array Oper} {l : List Oper} (w : WeakK N F σ F' σ') (h : KOps P N ops l F' σ' Q) : KOps P N ops l F σ Q := fun G a hs => by
 obtain ⟨G1, e1, s1, h1⟩ := w G a hs
 rw [← e1]
 exact zce (fun e a w q => liftK_mono s1 (fun _ _ _ x => x) q) _ _ _ (h G1 a h1)
theorem kw_loops {c : Code} {S : Type} (fr : S → Frm) (st : S → List Ob) (inv : S → Prop) (ms : S → Nat) (s0 : S) (hw : WeakK N F σ (fr s0) (st s0)) (h0 : inv s0)
  (round : ∀ s, inv s → KWp P N c (fr s) (st s) (AThen (fun F' σ' => ∃ s', inv s' ∧ ms s' < ms s ∧ WeakK N F' σ' (fr s') (st s')) Q)) : KWp P N (.loop c) F σ Q := by
 refine kw_weak hw (kw_loop (fun m F σ => ∃ s, inv s ∧ ms s = m ∧ WeakK N F σ (fr s) (st s)) (ms s0) ⟨s0, h0, rfl, WeakK.refl⟩ (fun m F σ h => ?_))
 obtain ⟨s, h1, rfl, h3⟩ := h
 refine kw_weak h3 (kw_mono (round s h1) (fun e F σ q => ?_))
 cases e with
 | normal => obtain ⟨s', g1, g2, g3⟩ := q; exact ⟨ms s', g2, s', g1, rfl, g3⟩
 | _ => exact q
variable {ops : Array Oper} {o : Oper} {l : List Oper} {d : Nat}
theorem kops_opP {p : Prop} [Decidable p] (hd : o.dst = some d) (hN : Nat.blt d N = true) (hr : Runs ops F o true) (hD : Does P o F σ (.s (.bool (decide p))) σ) (k1 : p → KOps P N ops l ((d, .s (.bool true)) :: F) σ Q) (k2 : ¬ p → KOps P N ops l ((d, .s (.bool false)) :: F) σ Q) : KOps P N ops (o :: l) F σ Q := by
 by_cases h : p
 ·
  exact kops_op hd hN hr (zds h hD) (k1 h)
 ·
  exact kops_op hd hN hr (dec_f h hD) (k2 h)
end
section
variable {N : Nat} {F F' : Frm} {σ σ' : List Ob}
theorem WeakK.weak (h : WeakK N F σ F' σ') : Weak N F σ F' σ' := fun G a hs => by
 obtain ⟨G', h1, h2, h3⟩ := h G a hs
 exact ⟨G', h1, h2.step, h3⟩
theorem WeakK.trans {F1 F2 : Frm} {σ1 σ2 : List Ob} (h : WeakK N F σ F1 σ1) (k : WeakK N F1 σ1 F2 σ2) : WeakK N F σ F2 σ2 := fun G a hs => by
 obtain ⟨G1, e1, s1, h1⟩ := h G a hs
 obtain ⟨G2, e2, s2, h2⟩ := k G1 a h1
 exact ⟨G2, e2.trans e1, s1.trans s2, h2⟩
theorem kwk_froz {id sz : Nat} {cs : List AV} (hs : σ[id]? = some (.row sz cs)) : WeakK N F σ F (σ.set id (.fz sz cs)) := fun G a h => by
 obtain ⟨h1, h2⟩ := froz_ok h.rel hs
 exact ⟨G.froz id, rfl, KE.of h1, h.step h1 h2⟩
theorem kwk_ref {d id sz k : Nat} {cs : List AV} {e : AV} (hd : F.get d = .ptr id sz k 0) (hs : σ[id]? = some (.fz sz cs)) (he : cs[k]? = some e) : WeakK N F σ ((d, .ref e.cells) :: F) σ := fun G a h =>
 ⟨G, rfl, .refl G, h.rel, h.fr.more (rep_fzp h.rel hs he (by rw [← hd]; exact h.fr d)), h.df, h.nt⟩
theorem kwk_cut {X : List Ob} (h0 : 3 < σ.length) (hσ : ∀ ob ∈ σ, LoOb σ.length ob) (hF : FrLo F σ.length F') : WeakK N F (σ ++ X) F' σ := fun G a h => by
 let G' : Cx := { G with mu := fun i => if i < σ.length then G.mu i else none }
 have hmu : ∀ i, i < σ.length → G'.mu i = G.mu i := fun i hi => if_pos hi
 have low : ∀ {v x}, Rep G v x → Lo σ.length x → Rep G' v x := fun hv hx => hv.low hx (fun _ _ h => h) (fun _ _ _ => rfl) (fun id y hid hy => by rw [hmu id hid]; exact hy) (fun _ => zb8.refl _)
 have hr := h.rel
 have rowlow : ∀ {b sz : Nat} {cs : List AV} {f : Nat × Nat → Prop}, (∀ e ∈ cs, ∀ c ∈ e.cells, Lo σ.length c) → RowAt G b sz cs f → RowAt G' b sz cs f := fun hlo ⟨cur, t, fr, g1, g2, g3, g4⟩ =>
  ⟨cur, t, fr, g1, g2, g3, fun k e he => ⟨(g4 k e he).1, (g4 k e he).2.1, fun j c hc => by
   obtain ⟨v, h6, h7⟩ := (g4 k e he).2.2 j c hc
   exact ⟨v, h6, low h7 (hlo e (List.mem_of_getElem? he) c (List.mem_of_getElem? hc))⟩⟩⟩
 refine ⟨G', rfl, ⟨⟨rfl, rfl, fun _ _ h => h, fun _ _ _ => rfl, fun _ _ h => .inl h, rfl, fun _ _ h => .inl h⟩, fun i y hi hy => by rw [hmu i (by omega)]; exact hy, zb8.refl _, Nat.le_refl _⟩, ⟨⟨hr.below, hr.le, hr.st, fun id ob hob => ?_, fun i j b hi hj hm hm' => ?_, fun id hid => if_neg (by omega)⟩, ?_, h.df, h.nt⟩⟩
 ·
  have hid := (List.getElem?_eq_some_iff.1 hob).1
  have h1 := hr.obs id ob (by rw [List.getElem?_append_left hid]; exact hob)
  have hlo := hσ ob (List.mem_of_getElem? hob)
  cases ob with
  | dead => intro b hb; rw [hmu id hid] at hb; exact h1 b hb
  | row sz cs =>
   simp only [ObOk, hmu id hid] at h1 ⊢
   cases hx : G.mu id with
   | none => rw [hx] at h1; exact h1
   | some x =>
    rw [hx] at h1
    cases x with
    | none => exact h1
    | some b => exact ⟨rowlow hlo h1.1, h1.2⟩
  | fz sz cs =>
   simp only [ObOk, hmu id hid] at h1 ⊢
   cases hx : G.mu id with
   | none => rw [hx] at h1; exact h1
   | some x =>
    rw [hx] at h1
    cases x with
    | none => exact h1
    | some b => exact ⟨rowlow hlo h1.1, h1.2⟩
  | mp X =>
   obtain ⟨b, g1, g2, g3, g4, g5⟩ := h1
   refine ⟨b, (hmu id hid).trans g1, g2, g3, g4, fun j hj => g5 j ?_⟩
   by_cases hjl : j < σ.length
   ·
    rwa [hmu j hjl] at hj
   ·
    simp only [G', if_neg hjl] at hj; cases hj
 ·
  obtain ⟨sz, cs, h1⟩ := hi
  obtain ⟨sz', cs', h1'⟩ := hj
  have hil := (List.getElem?_eq_some_iff.1 h1).1
  have hjl := (List.getElem?_eq_some_iff.1 h1').1
  rw [hmu i hil] at hm
  rw [hmu j hjl] at hm'
  exact hr.inj i j b ⟨sz, cs, by rw [List.getElem?_append_left hil]; exact h1⟩ ⟨sz', cs', by rw [List.getElem?_append_left hjl]; exact h1'⟩ hm hm'
 ·
  have key : ∀ F', FrLo F σ.length F' → FOk G' a F' := by
   intro F'
   induction F' with
   | nil => intro _ d; exact .any _
   | cons p F' ih =>
    obtain ⟨d, y⟩ := p
    rintro ⟨⟨g1, g2⟩, g3⟩ t
    simp only [Frm.get]
    cases e : Nat.beq d t with
    | true =>
     have := Nat.eq_of_beq_eq_true e
     subst this
     have := h.fr d
     rw [g1] at this
     exact low this g2
    | false => exact ih g3 t
  exact key F' hF
theorem kwk_st (ρ : List Nat) (h0 : ρ[0]? = some 0) (h1 : ρ[1]? = some 1) (h2 : ρ[2]? = some 2) (h3 : ρ[3]? = some 3) (hn : ρ.Nodup) (hs : StL ρ σ ρ σ') (hf : FrRn F ρ F') : WeakK N F σ F' σ' := fun G a h =>
 ⟨G.ren ρ, rfl, ⟨⟨rfl, rfl, fun _ _ h => h, fun _ _ _ => rfl, fun _ _ h => .inl h, rfl, fun _ _ h => .inl h⟩, fun i y hi hy => by
  match i, hi with
  | 0, _ => simp [Cx.ren, h0, hy]
  | 1, _ => simp [Cx.ren, h1, hy]
  | 2, _ => simp [Cx.ren, h2, hy]
  | 3, _ => simp [Cx.ren, h3, hy], zb8.refl _, Nat.le_refl _⟩, ⟨ren_rel h.rel hn (stRn_of ρ σ' hs), frRn_ok h.fr F' hf, h.df, h.nt⟩⟩
theorem kwk_sl {d id sz n : Nat} {cs : List AV} (hd : F.get d = .own id sz n) (hs : σ[id]? = some (.fz sz cs)) (hn : n = cs.length) : WeakK N F σ ((d, .sl cs) :: F) σ := fun G a h =>
 ⟨G, rfl, .refl G, h.rel, h.fr.more (rep_fz h.rel hs hn (by rw [← hd]; exact h.fr d)), h.df, h.nt⟩
theorem kwk_nil {d : Nat} (hd : F.get d = .s (.slice none 0 0)) : WeakK N F σ ((d, .sl []) :: F) σ := fun G a h =>
 ⟨G, rfl, .refl G, h.rel, h.fr.more (rep_nil (by rw [← hd]; exact h.fr d)), h.df, h.nt⟩
theorem kwk_own {d : Nat} {x : AV} (sz : Nat) (hd : F.get d = x) (hx : x = .emp ∨ x = .s (.slice none 0 0)) : WeakK N F σ ((d, .own σ.length sz 0) :: F) (σ ++ [.row sz []]) := fun G a h => by
 have he := nil_ext h.rel
 refine ⟨G.new σ.length G.w none, rfl, .of he, nil_rel h.rel sz, (h.fr.ext he).more ?_, h.df, h.nt⟩
 have h1 := h.fr d
 rw [hd] at h1
 generalize a.tmps.getD d undef = v at h1
 rcases hx with rfl | rfl
 ·
  cases h1 with | emp A hA => exact .own0 σ.length sz A hA (by simp [Cx.new])
 ·
  cases h1; exact .own0 σ.length sz none (fun a ha => by cases ha) (by simp [Cx.new])
end
section
variable {P : Program} {σ σ' : List Ob} {f : FuncId} {y : AV} {args : List AV}
theorem callE_fn {fn : Func} {c : Code} (hl : σ.length ≤ 4) (hf : P.funcs[f]? = some fn) (hname : (fn.name == "runtime.NumGoroutine") = false) (hb : fn.body = some c) (hn : args.length ≤ fn.ntmps)
  (h : KWp P fn.ntmps c (argF 0 args) σ (fun e F σ1 => (e = .normal ∨ e = .ret) ∧ σ1 = σ' ∧ ∃ xs, ResL P F σ1 fn.results.toList xs ∧ oneOf xs = y)) : CallE P f args σ y σ' := by
 refine ⟨enters_of hf hname hb, fun G vargs hrel hsz hrep => ?_⟩
 refine calls_of_wp hf hb ?_
 have hfo : FOk G { tmps := vargs ++ Array.replicate (fn.ntmps - vargs.size) undef, defers := [] } (argF 0 args) := by
  intro d
  rw [argF_get]
  simp only [Nat.zero_le, if_true, Nat.sub_zero]
  by_cases hd : d < args.length
  ·
   have h1 : (vargs ++ Array.replicate (fn.ntmps - vargs.size) undef).getD d undef = vargs[d]'(by omega) := by
    rw [Array.getD_eq_getD_getElem?, Array.getElem?_append_left (by omega)]
    simp [show d < vargs.size by omega]
   rw [h1]
   have h2 : args.getD d .any = args[d] := by rw [List.getD_eq_getElem?_getD, List.getElem?_eq_getElem hd]; rfl
   rw [h2]
   exact hrep d _ _ (by simp [show d < vargs.size by omega]) (by simp [hd])
  ·
   have h2 : args.getD d .any = .any := by
    rw [List.getD_eq_getElem?_getD, List.getElem?_eq_none (by omega)]; rfl
   rw [h2]; exact .any _
 have hs8 : S8 fn.ntmps G { tmps := vargs ++ Array.replicate (fn.ntmps - vargs.size) undef, defers := [] } (argF 0 args) σ := ⟨hrel, hfo, rfl, by simp; omega⟩
 refine Code.wp_mono (fun e a w q => ?_) (h G _ hs8)
 obtain ⟨G', F', σ1, rfl, h2, h3, he, rfl, xs, hrl, hy⟩ := q
 obtain ⟨v, h6, h7⟩ := results_run (fn := fn) h3.rel h3.fr hrl
 rw [hy] at h7
 have hext : G.Ext G' := ⟨h2.step.base, h2.step.w0, h2.step.st, h2.step.cell, fun id x hx => by
  by_cases hid : id < 4
  ·
   exact h2.mu0 id x hid hx
  ·
   rw [hrel.fresh id (by omega)] at hx; exact absurd hx (by simp), h2.size, h2.rows, h2.step.stN, h2.step.pr, h2.step.prN⟩
 have post : ∃ (v' : Value) (G'' : Cx), Ending.returned v = .returned v' ∧ G''.w = G'.w ∧ G.Ext G'' ∧ Rel G'' σ1 ∧ Rep G'' v' y := ⟨v, G', rfl, rfl, hext, h3.rel, h7⟩
 rcases he with rfl | rfl
 ·
  exact ⟨h3.df, _, h6, post⟩
 ·
  exact ⟨h3.df, _, h6, post⟩
theorem callE_fn1 {fn : Func} {c : Code} {t : Nat} (hl : σ.length ≤ 4) (hf : P.funcs[f]? = some fn) (hname : (fn.name == "runtime.NumGoroutine") = false) (hb : fn.body = some c) (hn : args.length ≤ fn.ntmps) (hres : fn.results.toList = [.tmp t])
  (h : KWp P fn.ntmps c (argF 0 args) σ (fun e F σ1 => (e = .normal ∨ e = .ret) ∧ F.get t = y ∧ σ1 = σ')) : CallE P f args σ y σ' :=
 callE_fn hl hf hname hb hn (kw_mono h (fun e F σ1 ⟨h1, h2, h3⟩ => ⟨h1, h3, [y], by rw [hres]; exact .cons _ _ _ _ (.tmp t y h2) .nil, rfl⟩))
theorem callE_fn0 {fn : Func} {c : Code} (hl : σ.length ≤ 4) (hf : P.funcs[f]? = some fn) (hname : (fn.name == "runtime.NumGoroutine") = false) (hb : fn.body = some c) (hn : args.length ≤ fn.ntmps) (hres : fn.results.toList = [])
  (h : KWp P fn.ntmps c (argF 0 args) σ (fun e F σ1 => (e = .normal ∨ e = .ret) ∧ σ1 = σ')) : CallE P f args σ (.tup []) σ' :=
 callE_fn hl hf hname hb hn (kw_mono h (fun e F σ1 ⟨h1, h3⟩ => ⟨h1, h3, [], by rw [hres]; exact .nil, rfl⟩))
end
theorem kwk_sub {N : Nat} {F : Frm} {σ : List Ob} : ∀ {F'}, Sub F F' → WeakK N F σ F' σ := fun {F'} h G a hs => by
 refine ⟨G, rfl, .refl G, hs.rel, ?_, hs.df, hs.nt⟩
 have key : ∀ F', Sub F F' → FOk G a F' := by
  intro F'
  induction F' with
  | nil => intro _ d; exact .any _
  | cons p F' ih =>
   obtain ⟨d, y⟩ := p
   intro h t
   simp only [Frm.get]
   cases e : Nat.beq d t with
   | true => have := Nat.eq_of_beq_eq_true e; subst this; rw [← h.1]; exact hs.fr d
   | false => exact ih h.2 t
 exact key F' h
theorem kw_of {P : Program} {N : Nat} {F : Frm} {σ : List Ob} {Q : Exit → Frm → List Ob → Prop} {c : Code} (h : EWp P N c F σ Q) : KWp P N c F σ Q := fun G a hs =>
 Code.wp_mono (fun e a w q => by obtain ⟨G', F', σ', h1, h2, h3, h4⟩ := q; exact ⟨G', F', σ', h1, KE.of h2, h3, h4⟩) (h G a hs)
theorem kw_draw {P : Program} {N : Nat} {l : List Oper} {F : Frm} {σ : List Ob} {Q : Exit → Frm → List Ob → Prop} {id : Nat} (hm : P.follows .mixedOrders = true) (h : EDraw P N l F σ Q) : KWp P N (.region id l.toArray true) F σ Q := kw_of (ew_draw hm h)
theorem kdraw_ex {P : Program} {N : Nat} {l : List Oper} {F : Frm} {σ : List Ob} {Q : Exit → Frm → List Ob → Prop} (h : EX P N l.toArray l [] l F σ (fun F' σ' => Q .normal F' σ')) : EDraw P N l F σ Q := by
 obtain ⟨F', σ', out, ks, sts, h1, h2, h3⟩ := h
 exact edraw_steps h1 (by simpa using h2) h3
section
variable {P : Program} {N : Nat} {F : Frm} {σ : List Ob} {Q : Exit → Frm → List Ob → Prop} {ops : Array Oper} {o : Oper} {l : List Oper} {d : Nat} {x : AV}
theorem kops_s (h : stv (opv o.op F) N ops o F = some (d, x)) (k : KOps P N ops l ((d, x) :: F) σ Q) : KOps P N ops (o :: l) F σ Q := kops_op (zbj h).1 (zbj h).2.1 (zbj h).2.2.1 (opv_does (zbj h).2.2.2) k
theorem kops_f {t f off n ft : Nat} (hf : zb3 P t f = some (off, ft, some n)) (h : stv (fdv o.op t f off n F) N ops o F = some (d, x)) (k : KOps P N ops l ((d, x) :: F) σ Q) : KOps P N ops (o :: l) F σ Q := kops_op (zbj h).1 (zbj h).2.1 (zbj h).2.2.1 (fdv_does hf (zbj h).2.2.2) k
theorem kops_l {t : Nat} (ha : zc0 P t = some false) (h : stv (ldv o.op t F) N ops o F = some (d, x)) (k : KOps P N ops l ((d, x) :: F) σ Q) : KOps P N ops (o :: l) F σ Q := kops_op (zbj h).1 (zbj h).2.1 (zbj h).2.2.1 (ldv_does ha (zbj h).2.2.2) k
theorem kops_w {t n bt : Nat} {z : Option Value} (ha : zc0 P t = some true) (hi : zbl P t = some (z, n, bt)) (h : stv (lwv o.op t n F) N ops o F = some (d, x)) (k : KOps P N ops l ((d, x) :: F) σ Q) : KOps P N ops (o :: l) F σ Q := kops_op (zbj h).1 (zbj h).2.1 (zbj h).2.2.1 (lwv_does ha hi (zbj h).2.2.2) k
theorem kops_z (h : stz N ops o F = some d) (k : KOps P N ops l ((d, .s undef) :: F) σ Q) : KOps P N ops (o :: l) F σ Q := kops_skip (stz_ok h).1 (stz_ok h).2.1 (stz_ok h).2.2 k
end
end Go.Proofs.Ytllkbjcemecmjaa.Aw.K4
end
section
namespace Go.Proofs.Ytllkbjcemecmjaa.Aw
open Go Go.RowKit Go.Proofs
variable {P : Program} [IsP P]
structure Zc where
 n : Nat
 cs : List AV
 lo : ∀ e ∈ cs, ∀ c ∈ e.cells, Lo 0 c
def stE (z : Zc) (t : Tb) (e : Int) : List Ob := [.row 5 [tbC t e], .row 1 (t.rows.map (eL eF)), .row 1 (t.bas.map eI), .row z.n z.cs]
theorem tb_ren {ρ : List Nat} {t : Tb} {e : Int} (h1 : ρ[1]? = some 1) (h2 : ρ[2]? = some 2) : ObRn ρ (.row 5 [tbC t e]) (.row 5 [tbC t e]) :=
 zc2 (.cons (.own _ _ _ _ _ h1 rfl) (.cons (.lo _ (lo_Fs _)) (.cons (.own _ _ _ _ _ h2 rfl) (.cons (.lo _ (.s _)) (.cons (.lo _ (.s _)) .nil)))))
theorem zdb {k : Nat} (t : Tb) : ∀ e ∈ t.rows.map (eL eF), ∀ c ∈ e.cells, Lo k c := zar fun r c hc => by
 simp [eL, AV.cells] at hc; subst hc; exact lo_up (lo_Fs r)
theorem bas_lo {k : Nat} (t : Tb) : ∀ e ∈ t.bas.map eI, ∀ c ∈ e.cells, Lo k c := zar fun r c hc => by
 simp [eI, AV.cells] at hc; subst hc; exact .s _
theorem stE_lo (z : Zc) (t : Tb) (e : Int) : ∀ ob ∈ stE z t e, LoOb (stE z t e).length ob := by
 intro ob hob
 simp only [stE, List.mem_cons, List.mem_nil_iff, or_false] at hob
 rcases hob with rfl | rfl | rfl | rfl
 ·
  intro x hx c hc
  simp only [List.mem_singleton] at hx
  subst hx
  simp only [tbC, AV.cells, List.mem_cons, List.mem_nil_iff, or_false] at hc
  rcases hc with rfl | rfl | rfl | rfl | rfl
  ·
   exact .own _ _ _ (by simp [stE])
  ·
   exact lo_up (lo_Fs _)
  ·
   exact .own _ _ _ (by simp [stE])
  ·
   exact .s _
  ·
   exact .s _
 ·
  exact zdb t
 ·
  exact bas_lo t
 ·
  intro e he c hc; exact lo_up (z.lo e he c hc)
theorem tbC_lo {t : Tb} {k : Nat} (h : 3 ≤ k) : ∀ c ∈ [AV.own 1 1 t.rows.length, eL eF t.cost, AV.own 2 1 t.bas.length, eI t.last], Lo k c := by
 intro c hc
 simp only [List.mem_cons, List.mem_nil_iff, or_false] at hc
 rcases hc with rfl | rfl | rfl | rfl
 ·
  exact .own _ _ _ (by omega)
 ·
  exact lo_up (lo_Fs _)
 ·
  exact .own _ _ _ (by omega)
 ·
  exact .s _
theorem note0 (t : Tb) (R : List Ob) (hR : 2 ≤ R.length) (x : Fr) (e' : Int) : CallE P 83 [.ptr 0 5 0 0, eF x, eI e'] (.row 5 [tbC t 0] :: R) (eF x) (.row 5 [tbC t e'] :: R) := by
 have h := note_call (P := P) (c0 := AV.own 1 1 t.rows.length) (c1 := eL eF t.cost) (c2 := AV.own 2 1 t.bas.length) (c3 := eI t.last) (e := 0) (R := R) x e' (tbC_lo (by omega))
 rwa [if_pos rfl] at h
def cmbL (pre : List Fr) (r : List Fr × Int) : List Fr × Int := if r.2 ≠ 0 then ([], r.2) else (pre ++ r.1, 0)
theorem cmb_assoc {a b : List Fr} {r : List Fr × Int} : cmbL a (cmbL b r) = cmbL (a ++ b) r := by
 unfold cmbL
 by_cases h : r.2 ≠ 0
 ·
  rw [if_pos h, if_pos h, if_pos h]
 ·
  rw [if_neg h, if_neg h]; simp
theorem dropF {a : List Fr} {i : Nat} (h : i < a.length) : a.drop i = gti a i :: a.drop (i + 1) := by
 rw [List.drop_eq_getElem_cons h]
 congr 1
 unfold gti; rw [List.getElem?_eq_getElem h]; rfl
theorem less_step {by_ : Fr} {a b : List Fr} {i : Nat} (h : i < a.length) : zdo by_ (a.drop i) (b.drop i) =
  if (mulE by_ (gti b i)).e ≠ 0 then ([], (mulE by_ (gti b i)).e) else if (subE (gti a i) (mulE by_ (gti b i)).fr).e ≠ 0 then ([], (subE (gti a i) (mulE by_ (gti b i)).fr).e)
  else cmbL [(subE (gti a i) (mulE by_ (gti b i)).fr).fr] (zdo by_ (a.drop (i + 1)) (b.drop (i + 1))) := by
 rw [dropF h, zdo, show gti (b.drop i) 0 = gti b i by simp [gti], List.drop_drop]
 rfl
theorem less_err {by_ : Fr} : ∀ (a b : List Fr), (zdo by_ a b).2 ≠ 0 → (zdo by_ a b).1 = []
 | [], _, h => absurd rfl h
 | a :: xs, b, h => by
  rw [zdo] at h ⊢
  dsimp only at h ⊢
  by_cases h1 : (mulE by_ (gti b 0)).e ≠ 0
  ·
   rw [if_pos h1]
  ·
   rw [if_neg h1] at h ⊢
   by_cases h2 : (subE a (mulE by_ (gti b 0)).fr).e ≠ 0
   ·
    rw [if_pos h2]
   ·
    rw [if_neg h2] at h ⊢
    by_cases h3 : (zdo by_ xs (b.drop 1)).2 ≠ 0
    ·
     rw [if_pos h3]
    ·
     rw [if_neg h3] at h; exact absurd rfl h
theorem cmb_nil {r : List Fr × Int} (h : r.2 ≠ 0 → r.1 = []) : cmbL [] r = r := by
 unfold cmbL
 by_cases h1 : r.2 ≠ 0
 ·
  rw [if_pos h1]; exact Prod.ext (h h1).symm rfl
 ·
  rw [if_neg h1]; exact Prod.ext rfl (Decidable.not_not.1 h1).symm
namespace K4
set_option maxHeartbeats 2000000 in
theorem less_call (z : Zc) (t : Tb) (a b : List Fr) (by_ : Fr) (hl : a.length ≤ b.length) (hn : a.length ≤ 60) :
  CallE P 79 [.ptr 0 5 0 0, eL eF a, eL eF b, eF by_] (stE z t 0) (eL eF (zdo by_ a b).1) (stE z t (zdo by_ a b).2) := by
 have HI : zdo by_ a b = cmbL [] (zdo by_ (a.drop 0) (b.drop 0)) := by
  rw [List.drop_zero, List.drop_zero, cmb_nil (less_err a b)]
 generalize zdo by_ a b = r at HI ⊢
 refine callE_fn1 (Nat.le_refl _) (by rw [IsP.eq (P := P)]; exact Try.func79) rfl rfl (Nat.le_of_ble_eq_true rfl) rfl ?_
 simp only [argF]
 refine kw_seq (kw_region (kops_op rfl rfl (zaa rfl) (zb4 rfl rfl rfl rfl) (kops_s rfl (kops_nil (kw_seq (kw_region (kops_s rfl (kops_nil (kw_seq (kw_seq ?_))))))))))
 refine kw_weak (kwk_froz (id := 4) rfl) ?_
 refine kw_weak (kwk_ref (d := 7) rfl rfl rfl) ?_
 refine kw_weak (kwk_own (d := 9) 2 rfl (.inr rfl)) ?_
 refine kw_region (kops_s rfl (kops_op rfl rfl (zaa rfl) (zao rfl ts30 rfl) (kops_s rfl (kops_nil (zai (kw_block ?_))))))
 refine kw_loops (S := Nat × List Fr) (fun s => [(0, .ptr 0 5 0 0), (1, eL eF a), (2, eL eF b), (7, .ref (eF by_).cells), (9, .own 4 2 s.1), (13, eI a.length), (14, eI s.1)]) (fun s => [.row 5 [tbC t 0], .row 1 (t.rows.map (eL eF)), .row 1 (t.bas.map eI), .row z.n z.cs, .row 2 (s.2.map eF)]) (fun s => s.1 ≤ a.length ∧ s.2.length = s.1 ∧ r = cmbL s.2 (zdo by_ (a.drop s.1) (b.drop s.1))) (fun s => a.length - s.1) (0, [])
  (kwk_st [0, 1, 2, 3, 5] rfl rfl rfl rfl (by decide) ⟨⟨_, rfl, tb_ren rfl rfl⟩, ⟨_, rfl, .rowE (zdb t) rfl⟩, ⟨_, rfl, .rowE (bas_lo t) rfl⟩, ⟨_, rfl, .rowE z.lo rfl⟩, ⟨_, rfl, .rowE (za2) rfl⟩, trivial⟩ ⟨.ptr 0 0 5 0 0 rfl, .lo _ (lo_Fs _), .lo _ (lo_Fs _), .lo _ (by repeat' (first | exact Lo.s _ | exact zak | refine zag ?_ ?_ | refine zan ?_ | refine Lo.cells ?_ | refine Lo.agg _ ?_ | refine Lo.ref _ ?_ | refine Lo.tup _ ?_ | refine Lo.fn _ _ ?_ | refine Lo.sl _ ?_ | intro _)), .own 5 4 2 _ _ rfl rfl, .lo _ (.s _), .lo _ (.s _), trivial⟩) ⟨Nat.zero_le _, rfl, HI⟩ (fun s hs => ?_)
 obtain ⟨i, pre⟩ := s
 obtain ⟨hi, hp, hr⟩ := hs
 dsimp only at hi hp hr ⊢
 refine kw_seq (kw_region ?_)
 refine kops_opP rfl rfl (zaa rfl) (za4 rfl rfl rfl) (fun h15 => ?_) (fun h15 => ?_)
 all_goals refine kops_nil (kw_seq ?_)
 all_goals (first | refine kw_true rfl ?_ | refine kw_false rfl ?_)
 all_goals (repeat (first | refine kw_seq ?_ | refine kw_skip ?_ | refine kw_block ?_))
 ·
  have hlt : i < a.length := by omega
  rw [less_step hlt] at hr
  have hxa : (a.map eF)[i]? = some (eF (gti a i)) := zbd hlt
  have hxb : (b.map eF)[i]? = some (eF (gti b i)) := zbd (by omega)
  have hnx := fun R hR => note0 (P := P) t R hR (mulE by_ (gti b i)).fr (mulE by_ (gti b i)).e
  have hny := fun R hR => note0 (P := P) t R hR (subE (gti a i) (mulE by_ (gti b i)).fr).fr (subE (gti a i) (mulE by_ (gti b i)).fr).e
  refine kw_region (kops_s rfl (kops_s rfl (kops_nil (kw_seq ?_))))
  refine kw_draw hmix ?_
  refine edraw_lastT rfl (by kernel_rfl) ?_
  simp only [List.dropLast]
  refine edraw_fx 10 (.row 2 [.agg [eI 0, eI 0]]) (fun _ => True) (fun _ _ => trivial) ?_
  refine zbc rfl rfl (zaa rfl) (fun _ => (mv_ptr (.inl rfl) rfl)) ⟨rfl, trivial⟩ ?_
  refine zbc rfl rfl (zaa rfl) (fun _ => (zcv rfl ta51 ti51 rfl rfl)) ⟨rfl, trivial⟩ ?_
  refine zbc rfl rfl (zaa rfl) (fun _ => (mv_sl (.inl rfl) rfl)) ⟨rfl, trivial⟩ ?_
  refine zbc rfl rfl (zaa rfl) (fun _ => (mv_s (.inl rfl) rfl)) ⟨rfl, trivial⟩ ?_
  refine zbc rfl rfl (zaa rfl) (fun _ => (zal rfl ts30 ti51 rfl rfl rfl hxb rfl)) ⟨rfl, trivial⟩ ?_
  refine zbc rfl rfl (zaa rfl) (fun _ => (zcv rfl ta51 ti51 rfl rfl)) ⟨rfl, trivial⟩ ?_
  refine zbc rfl rfl (zaa rfl) (fun _ => (zam rfl rfl ((fMul_pf by_ (gti b i))) (zad rfl (zad rfl zaq)))) ⟨rfl, trivial⟩ ?_
  refine zbc rfl rfl (zaa rfl) (fun _ => (zde rfl rfl rfl)) ⟨rfl, trivial⟩ ?_
  refine zbc rfl rfl (zaa rfl) (fun _ => (zde rfl rfl rfl)) ⟨rfl, trivial⟩ ?_
  refine fx_n0 rfl rfl (zaa rfl) (fun X => zbo rfl rfl (hnx _ (by simp <;> omega)) (zad rfl (zad rfl (zad rfl zaq)))) ⟨rfl, trivial⟩ ?_
  refine fx_flt rfl rfl (zaa rfl) (does_alloc_flt (fun σ => (za0 rfl ti51 rfl rfl))) ⟨rfl, trivial⟩ ?_
  refine fx_nil ⟨rfl, trivial⟩ (by kernel_rfl) (.inl ⟨rfl, rfl⟩) ?_
  simp only [if_true, Bool.false_eq_true, if_false, List.append_nil, List.cons_append, List.nil_append]
  refine zai (eops_eff rfl (zaa rfl) (zaj rfl ti51 rfl rfl rfl rfl rfl rfl (by decide) (by decide)) (zdd (kw_seq (kw_seq (kw_region (kops_s rfl (kops_s rfl (kops_f zdu rfl (kops_op rfl rfl (zaa rfl) (zap rfl ta33 rfl rfl rfl rfl rfl) ?_)))))))))
  refine kops_opP rfl rfl (zaa rfl) (zbw rfl rfl rfl) (fun h31 => ?_) (fun h31 => ?_)
  all_goals refine kops_nil (zai ?_)
  all_goals (first | refine kw_true rfl ?_ | refine kw_false rfl ?_)
  all_goals (repeat (first | refine kw_seq ?_ | refine kw_skip ?_))
  ·
   rw [if_pos h31] at hr
   refine kw_region (kops_s rfl (kops_nil (zai ?_)))
   refine kw_weak (kwk_nil (d := 8) rfl) ?_
   refine kw_weak (kwk_cut (σ := stE z t (mulE by_ (gti b i)).e) (F' := [(8, .sl [])]) (by simp [stE]) (stE_lo _ _ _) ⟨⟨rfl, lo_up (by repeat' (first | exact Lo.s _ | exact zak | refine zag ?_ ?_ | refine zan ?_ | refine Lo.agg _ ?_ | refine Lo.sl _ ?_ | intro _))⟩, trivial⟩) ?_
   (refine kw_ret ?_; repeat (first | refine zbg ?_ | refine zbh ?_))
   subst hr
   exact ⟨.inr rfl, by simp [cmbL, h31, eL, Frm.get], by simp [cmbL, h31]⟩
  ·
   rw [if_neg h31] at hr
   have h0 : (mulE by_ (gti b i)).e = 0 := Decidable.not_not.1 h31
   rw [h0]
   have hpl : (pre.map eF).length = i := by simp [hp]
   refine kw_draw hmix ?_
   refine kdraw_ex ?_
   refine ex_s rfl (ex_s rfl (ex_s rfl (ex_s rfl (zaz rfl rfl (zaa rfl) (fun _ => (zal rfl ts30 ti51 rfl rfl rfl hxa rfl)) (ex_w ta51 ti51 rfl (zbt rfl rfl (zaa rfl) (look_whole rfl ta51 ti51 rfl rfl rfl rfl rfl) (zaz rfl rfl (zaa rfl) (fun _ => (zam rfl rfl ((fSub_pf (gti a i) (mulE by_ (gti b i)).fr)) (zad rfl (zad rfl zaq)))) (ex_s rfl (ex_s rfl ?_)))))))))
   all_goals refine zdh (W := [0]) rfl rfl (zaa rfl) (zbo rfl rfl (hny _ (by simp <;> omega)) (zad rfl (zad rfl (zad rfl zaq)))) (fun _ h => cons_other h) ?_
   refine zaz rfl rfl (zaa rfl) (fun _ => (zcr rfl ts30 ti51 rfl rfl (by decide) (by decide) rfl rfl rfl (.agg _ (zag (.s _) (zag (.s _) zak))))) ?_
   refine zdh rfl rfl (zaa rfl) (zbm rfl ts30 ti51 rfl (by decide) rfl rfl (by first | rfl | (simp; done) | (simp; omega)) rfl (by first | exact .own _ _ _ rfl rfl _ (by first | rfl | simp) | exact .emp | exact .nil | exact .sl _ (by first | simp; done | intro e he; simp at he; obtain ⟨_, _, rfl⟩ := he; rfl)) (by first | omega | (simp; omega) | (unfold maxLen; simp; omega)) (by first | omega | (simp; omega) | (unfold maxLen; simp; omega))) (fun _ h => zcp h) ?_
   refine ex_s rfl ?_
   refine zcc (by kernel_rfl) ?_
   refine kw_seq (kw_region (kops_s rfl (kops_s rfl (kops_f zdu rfl (kops_op rfl rfl (zaa rfl) (zap rfl ta33 rfl rfl rfl rfl rfl) ?_)))))
   refine kops_opP rfl rfl (zaa rfl) (zbw rfl rfl rfl) (fun h49 => ?_) (fun h49 => ?_)
   all_goals refine kops_nil (zai ?_)
   all_goals (first | refine kw_true rfl ?_ | refine kw_false rfl ?_)
   all_goals (repeat (first | refine kw_seq ?_ | refine zai ?_ | refine kw_skip ?_ | refine zbu ?_))
   ·
    rw [if_pos h49] at hr
    refine kw_region (kops_s rfl (kops_nil (zai ?_)))
    refine kw_weak (kwk_nil (d := 8) rfl) ?_
    refine kw_weak (kwk_cut (σ := stE z t (subE (gti a i) (mulE by_ (gti b i)).fr).e) (F' := [(8, .sl [])]) (by simp [stE]) (stE_lo _ _ _) ⟨⟨rfl, lo_up (by repeat' (first | exact Lo.s _ | exact zak | refine zag ?_ ?_ | refine zan ?_ | refine Lo.agg _ ?_ | refine Lo.sl _ ?_ | intro _))⟩, trivial⟩) ?_
    (refine kw_ret ?_; repeat (first | refine zbg ?_ | refine zbh ?_))
    subst hr
    exact ⟨.inr rfl, by simp [cmbL, h49, eL, Frm.get], by simp [cmbL, h49]⟩
   ·
    rw [if_neg h49, cmb_assoc] at hr
    have h1 : (subE (gti a i) (mulE by_ (gti b i)).fr).e = 0 := Decidable.not_not.1 h49
    rw [h1]
    refine kw_region (kops_op rfl rfl (zaa rfl) (zav rfl rfl rfl (IntWalk.i64_in _ (by omega))) (kops_s rfl (kops_nil (zai ?_))))
    exact ⟨(i + 1, pre ++ [(subE (gti a i) (mulE by_ (gti b i)).fr).fr]), ⟨by show i + 1 ≤ a.length; omega, by simp [hp], hr⟩, by show a.length - (i + 1) < a.length - i; omega, kwk_st [0, 1, 2, 3, 6] rfl rfl rfl rfl (by decide) ⟨⟨_, rfl, tb_ren rfl rfl⟩, ⟨_, rfl, .rowE (zdb t) rfl⟩, ⟨_, rfl, .rowE (bas_lo t) rfl⟩, ⟨_, rfl, .rowE z.lo rfl⟩, ⟨_, rfl, .rowE (by repeat' (first | exact Lo.s _ | exact za2 | refine zax ?_ ?_ | refine zar ?_ | refine Lo.cells ?_ | refine Lo.agg _ ?_ | exact zak | refine zag ?_ ?_ | intro _)) (by rw [List.map_append]; rfl)⟩, trivial⟩ ⟨.ptr 0 0 5 0 0 rfl, .lo _ (lo_Fs _), .lo _ (lo_Fs _), .lo _ (by repeat' (first | exact Lo.s _ | exact zak | refine zag ?_ ?_ | refine zan ?_ | refine Lo.cells ?_ | refine Lo.agg _ ?_ | refine Lo.ref _ ?_ | refine Lo.tup _ ?_ | refine Lo.fn _ _ ?_ | refine Lo.sl _ ?_ | intro _)), .own 6 4 2 _ _ rfl (by simp [hp]), .lo _ (.s _), .lo _ (.s _), trivial⟩⟩
 ·
  have e : i = a.length := by omega
  subst e
  (refine kw_exit ?_; repeat (first | refine zc3 ?_ | refine zb2 ?_ | refine zbq rfl ?_ | refine zbu ?_ | refine zai ?_ | refine kw_seq ?_ | refine kw_skip ?_ | refine kw_block ?_))
  refine kw_weak (kwk_froz (id := 4) rfl) ?_
  refine kw_weak (kwk_sl (d := 9) rfl rfl (by simp [hp])) ?_
  refine kw_region (kops_s rfl (kops_s rfl (kops_nil (zai ?_))))
  refine kw_weak (kwk_cut (σ := stE z t 0) (F' := [(8, .sl (pre.map eF))]) (by simp [stE]) (stE_lo _ _ _) ⟨⟨rfl, lo_up (by repeat' (first | exact Lo.s _ | exact zak | refine zag ?_ ?_ | refine zan ?_ | refine Lo.agg _ ?_ | refine Lo.sl _ ?_ | intro _))⟩, trivial⟩) ?_
  (refine kw_ret ?_; repeat (first | refine zbg ?_ | refine zbh ?_))
  subst hr
  have e2 : zdo by_ (a.drop a.length) (b.drop a.length) = ([], 0) := by rw [List.drop_length]; rfl
  rw [e2]
  exact ⟨.inr rfl, by simp [cmbL, eL, Frm.get], by simp [cmbL]⟩
end K4
end Go.Proofs.Ytllkbjcemecmjaa.Aw
end
