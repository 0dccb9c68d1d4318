/-
  Plain mathematics of the queue: more servers never lose more. No program in sight. Conditions: none.
-/
import Derived.Test.YthlgkomhnhkooaaQVal
namespace Go.Proofs.Ythlgkomhnhkooaa
set_option linter.unusedSimpArgs false
set_option linter.unusedVariables false

theorem gt_big {l : List Fr} {k : Nat} (h : l.length ≤ k) : gt l k = zeroF := by unfold gt; rw [List.getElem?_eq_none h]; rfl
theorem rowS_get {before : List Fr} {st se : Fr} : ∀ {K : Nat} {l : List Fr}, rowS before st se K = some l → ∀ k, k < K → cellS before st se k = some (gt l k)
  | 0, l, h => fun k hk => by omega
  | K + 1, l, h => fun k hk => by
    obtain ⟨r, e1, h⟩ := some_bind h
    obtain ⟨c, e2, h⟩ := some_bind h
    injection h with h
    subst h
    have hl := rowS_len e1
    rcases Nat.lt_or_eq_of_le (Nat.le_of_lt_succ hk) with h1 | h1
    · rw [rowS_get e1 k h1]
      unfold gt
      rw [List.getElem?_append_left (by omega)]
    · subst h1
      rw [e2]
      unfold gt
      rw [List.getElem?_append_right (by omega)]
      simp [hl]
theorem cellS_val {before : List Fr} {st se : Fr} (hb : ∀ a ∈ before, a.ok) (hst : st.ok) (hse : se.ok) {k : Nat} {c : Fr} (h : cellS before st se k = some c) : val c = val (gt before k) * val st + (if k = 0 then 0 else val (gt before (k - 1))) * val se := by
  obtain ⟨m1, e1, h⟩ := some_bind h
  obtain ⟨m2, e2, h⟩ := some_bind h
  have o1 := fmul_ok (at0_ok hb _) hst e1
  have o2 := fmul_ok (at0_ok hb _) hse e2
  rw [val_add o1 o2 h, val_mul (at0_ok hb _) hst e1, val_mul (at0_ok hb _) hse e2, at0_gt]
  congr 2
  by_cases hk : k = 0
  · subst hk
    rw [at0_neg, if_pos rfl, val_zero]
  · obtain ⟨i, rfl⟩ : ∃ i, k = i + 1 := ⟨k - 1, by omega⟩
    rw [at0_gt1, if_neg hk, Nat.add_sub_cancel]
theorem lrow_val {st se : Fr} (hst : st.ok) (hse : se.ok) : ∀ {j : Nat} {l : List Fr}, lrow st se j = some l → ∀ k, val (gt l k) = binR (val st) (val se) j k
  | 0, l, h => fun k => by
    simp [lrow] at h
    subst h
    unfold binR
    by_cases hk : k = 0
    · subst hk; rw [if_pos rfl]; exact val_one
    · rw [if_neg hk, gt_big (by simp; omega)]; exact val_zero
  | j + 1, l, h => fun k => by
    have hl := lrow_len h
    obtain ⟨r, e1, h⟩ := some_bind h
    rcases Nat.lt_or_ge k (j + 2) with hk | hk
    · rw [cellS_val (lrow_ok hst hse e1) hst hse (rowS_get h k hk), lrow_val hst hse e1 k]
      show _ = binR (val st) (val se) j k * val st + (if k = 0 then 0 else binR (val st) (val se) j (k - 1)) * val se
      by_cases hk0 : k = 0
      · subst hk0; rw [if_pos rfl, if_pos rfl]
      · rw [if_neg hk0, if_neg hk0, lrow_val hst hse e1 (k - 1)]
    · rw [gt_big (by omega), binR_big _ _ (by omega)]; exact val_zero

/-! sums of the first elements -/
def dnR (l : List Fr) (k : Nat) : Rat := sumR (fun i => val (gt l i)) k
theorem downS_val {l : List Fr} (hl : ∀ a ∈ l, nn a) : ∀ {k : Nat} {d : Fr}, downS l k = some d → val d = dnR l k
  | 0, d, h => by simp [downS] at h; subst h; exact val_zero
  | k + 1, d, h => by
    obtain ⟨d', e1, h⟩ := some_bind h
    rw [val_add (downS_nn hl e1).1 (gt_nn hl k).1 h, downS_val hl e1]
    rfl
theorem gt_set_self {l : List Fr} {i : Nat} (h : i < l.length) (v : Fr) : gt (l.set i v) i = v := by unfold gt; rw [List.getElem?_set_self h]; rfl
theorem gt_set_ne {l : List Fr} {i m : Nat} (h : i ≠ m) (v : Fr) : gt (l.set i v) m = gt l m := by unfold gt; rw [List.getElem?_set_ne h]
theorem dnR_set {l : List Fr} {i : Nat} (hi : i < l.length) (v : Fr) : ∀ k, dnR (l.set i v) k = dnR l k + (if i < k then val v - val (gt l i) else 0)
  | 0 => by show (0 : Rat) = 0 + _; rw [if_neg (by omega)]; grind
  | k + 1 => by
    show dnR (l.set i v) k + val (gt (l.set i v) k) = (dnR l k + val (gt l k)) + _
    rw [dnR_set hi v k]
    by_cases h : i = k
    · subst h
      rw [gt_set_self hi, if_neg (by omega), if_pos (by omega)]
      grind
    · rw [gt_set_ne h]
      by_cases h2 : i < k
      · rw [if_pos h2, if_pos (by omega)]; grind
      · rw [if_neg h2, if_neg (by omega)]; grind
theorem dnR_put {bk f : Fr} {i : Nat} {row r : List Fr} (hb : bk.ok) (hf : f.ok) (hr : ∀ a ∈ row, a.ok) (hi : i < row.length) (h : putS bk f i row = some r) (k : Nat) : dnR r k = dnR row k + val bk * (if i < k then val f else 0) := by
  obtain ⟨m, e1, h⟩ := some_bind h
  obtain ⟨v, e2, h⟩ := some_bind h
  injection h with h
  subst h
  have om := fmul_ok hb hf e1
  rw [dnR_set hi, val_add (gt_ok hr i) om e2, val_mul hb hf e1]
  by_cases h2 : i < k
  · rw [if_pos h2, if_pos h2]; grind
  · rw [if_neg h2, if_neg h2]; grind
theorem dnR_zeros (n : Nat) : ∀ k, dnR (List.replicate n zeroF) k = 0
  | 0 => rfl
  | k + 1 => by
    show dnR (List.replicate n zeroF) k + val (gt (List.replicate n zeroF) k) = 0
    have : gt (List.replicate n zeroF) k = zeroF := by
      unfold gt
      rw [List.getElem?_replicate]
      split <;> rfl
    rw [dnR_zeros n k, this, val_zero]
    grind
/-- where a customer's state ends up, at most -/
def hR (A NA : Rat) (m cp k t : Nat) : Rat := (if m - t < k then NA else 0) + (if min (m - t + 1) cp < k then A else 0)
theorem rowC_dn {bj : List Fr} {no ar : Fr} {n cp : Nat} (hb : ∀ a ∈ bj, a.ok) (hno : no.ok) (har : ar.ok) (hn : n ≤ cp) : ∀ {t : Nat} {r : List Fr}, rowC bj no ar n cp t = some r → ∀ k, dnR r k = sumR (fun t => val (gt bj t) * hR (val ar) (val no) n cp k t) t
  | 0, r, h => fun k => by
    simp [rowC] at h
    subst h
    exact dnR_zeros _ _
  | t + 1, r, h => fun k => by
    obtain ⟨r0, e0, h⟩ := some_bind h
    obtain ⟨r1, e1, h⟩ := some_bind h
    have g0 := rowC_good hb hno har e0
    have hb1 := gt_ok hb t
    have g1 : r1.length = cp + 1 ∧ ∀ a ∈ r1, a.ok := by
      rcases put0 (i := n - t) hb1 hno g0.2 with ⟨_, a1, a2⟩ | ⟨_, a1⟩
      · rw [a1] at e1; injection e1 with e1; rw [← e1]; exact ⟨by simp [g0.1], a2⟩
      · rw [a1] at e1; cases e1
    rw [dnR_put hb1 har g1.2 (by omega) h, dnR_put hb1 hno g0.2 (by omega) e1, rowC_dn hb hno har hn e0 k]
    show _ = sumR _ t + val (gt bj t) * hR (val ar) (val no) n cp k t
    unfold hR
    grind

/-- the values of the rows of the chain -/
structure RowsV (Q P A NA : Rat) (sv cp : Nat) (rows : List (List Fr)) : Prop where
  dn : ∀ m k, m ≤ cp → dnR (rw' rows m) k = meanR Q P (min m sv) (hR A NA m cp k)
theorem chainS_get {b : List (List Fr)} {no ar : Fr} {sv cp : Nat} : ∀ {n : Nat} {ll : List (List Fr)}, chainS b no ar sv cp n = some ll → ll.length = n ∧ ∀ m, m < n → rowC ((b[min m sv]?).getD []) no ar m cp (min m sv + 1) = some (rw' ll m)
  | 0, ll, h => by simp [chainS] at h; subst h; exact ⟨rfl, fun m hm => by omega⟩
  | n + 1, ll, h => by
    obtain ⟨l0, e0, h⟩ := some_bind h
    obtain ⟨r, e1, h⟩ := some_bind h
    injection h with h
    subst h
    obtain ⟨g1, g2⟩ := chainS_get e0
    refine ⟨by simp [g1], fun m hm => ?_⟩
    rcases Nat.lt_or_eq_of_le (Nat.le_of_lt_succ hm) with h1 | h1
    · rw [g2 m h1]
      unfold rw'
      rw [List.getElem?_append_left (by omega)]
    · subst h1
      rw [e1]
      unfold rw'
      rw [List.getElem?_append_right (by omega)]
      simp [g1]
theorem chainQ_val {ar se st no : Fr} {sv cp : Nat} (hq : QOk ar se sv cp) (hst : fsub oneF se = some st) (hno : fsub oneF ar = some no) {rows b : List (List Fr)} (h : chainQ ar se sv cp = some (rows, b)) : RowsV (val st) (val se) (val ar) (val no) sv cp rows := by
  obtain ⟨b', e1, h⟩ := some_bind h
  obtain ⟨no', e2, h⟩ := some_bind h
  obtain ⟨ll, e3, h⟩ := some_bind h
  injection h with h
  injection h with h1 h2
  subst h1 h2
  rw [hno] at e2
  injection e2 with e2
  subst e2
  refine ⟨fun m k hm => ?_⟩
  have hl : lrow st se (min m sv) = some ((b'[min m sv]?).getD []) := by
    have := leaveQ_some e1 (min m sv) (by omega)
    unfold lrowQ at this
    rw [hst] at this
    exact this
  have ost := fsub_ok oneF_ok hq.os hst
  rw [rowC_dn (lrow_ok ost hq.os hl) (fsub_ok oneF_ok hq.oa hno) hq.oa hm ((chainS_get e3).2 m (by omega)) k]
  unfold meanR
  exact sumR_congr fun t _ => by rw [lrow_val ost hq.os hl t]

section
variable {Q P A NA : Rat}
theorem hR_mono (hA : 0 ≤ A) (hN : 0 ≤ NA) (m cp k t : Nat) : hR A NA m cp k t ≤ hR A NA m cp k (t + 1) := by
  unfold hR
  have e1 : (if m - t < k then NA else 0) ≤ (if m - (t + 1) < k then NA else 0) := by
    by_cases h : m - t < k
    · rw [if_pos h, if_pos (by omega)]; exact Rat.le_refl
    · rw [if_neg h]
      split
      · exact hN
      · exact Rat.le_refl
  have e2 : (if min (m - t + 1) cp < k then A else 0) ≤ (if min (m - (t + 1) + 1) cp < k then A else 0) := by
    by_cases h : min (m - t + 1) cp < k
    · rw [if_pos h, if_pos (by omega)]; exact Rat.le_refl
    · rw [if_neg h]
      split
      · exact hA
      · exact Rat.le_refl
  grind
theorem mean_up (hQ : 0 ≤ Q) (hP : 0 ≤ P) (h1 : Q + P = 1) (hA : 0 ≤ A) (hN : 0 ≤ NA) (m cp k sv : Nat) : meanR Q P (min m sv) (hR A NA m cp k) ≤ meanR Q P (min m (sv + 1)) (hR A NA m cp k) := by
  by_cases h : m ≤ sv
  · rw [show min m sv = m by omega, show min m (sv + 1) = m by omega]; exact Rat.le_refl
  · rw [show min m sv = sv by omega, show min m (sv + 1) = sv + 1 by omega]
    exact meanR_mono hQ hP h1 (fun t _ => hR_mono hA hN m cp k t)
/-- one more customer -/
theorem up_val {sv cp : Nat} {rows : List (List Fr)} (hv : RowsV Q P A NA sv cp rows) {n : Nat} (hn : n < cp) : val (gt (rw' rows n) (n + 1)) = binR Q P (min n sv) 0 * A := by
  have e1 : dnR (rw' rows n) (n + 1 + 1) = dnR (rw' rows n) (n + 1) + val (gt (rw' rows n) (n + 1)) := rfl
  rw [hv.dn n (n + 1 + 1) (by omega), hv.dn n (n + 1) (by omega)] at e1
  have e2 : meanR Q P (min n sv) (hR A NA n cp (n + 1 + 1)) = meanR Q P (min n sv) (hR A NA n cp (n + 1)) + binR Q P (min n sv) 0 * A := by
    have h3 : meanR Q P (min n sv) (hR A NA n cp (n + 1 + 1)) = sumR (fun t => binR Q P (min n sv) t * hR A NA n cp (n + 1) t + (if t = 0 then binR Q P (min n sv) 0 * A else 0)) (min n sv + 1) := by
      refine sumR_congr fun t ht => ?_
      unfold hR
      rw [if_pos (show n - t < n + 1 + 1 by omega), if_pos (show n - t < n + 1 by omega), if_pos (show min (n - t + 1) cp < n + 1 + 1 by omega)]
      by_cases h0 : t = 0
      · subst h0
        rw [if_neg (show ¬ min (n - 0 + 1) cp < n + 1 by omega), if_pos rfl]
        grind
      · rw [if_pos (show min (n - t + 1) cp < n + 1 by omega), if_neg h0]
        grind
    rw [h3, sumR_add]
    congr 1
    rw [sumR_shift]
    have : sumR (fun i => if i + 1 = 0 then binR Q P (min n sv) 0 * A else 0) (min n sv) = 0 := (sumR_congr (g := fun _ => 0) fun t _ => by rw [if_neg (by omega)]).trans (sumR_zero _)
    rw [this, if_pos rfl]
    grind
  grind
theorem bin_up (hQ : 0 ≤ Q) (hP : 0 ≤ P) (h1 : Q + P = 1) (m sv : Nat) : binR Q P (min m (sv + 1)) 0 ≤ binR Q P (min m sv) 0 := by
  by_cases h : m ≤ sv
  · rw [show min m sv = m by omega, show min m (sv + 1) = m by omega]; exact Rat.le_refl
  · rw [show min m sv = sv by omega, show min m (sv + 1) = sv + 1 by omega, binR_zero_succ]
    have e1 := binR_nn hQ hP sv 0
    have e2 : Q ≤ 1 := by grind
    have := Rat.mul_le_mul_of_nonneg_left e2 e1
    grind
end

/-! the weights -/
theorem sumS_val {rows : List (List Fr)} {w : List Fr} {n : Nat} (hr : ∀ m, ∀ a ∈ rw' rows m, nn a) (hw : ∀ a ∈ w, nn a) : ∀ {i : Nat} {s : Fr}, sumS rows w n i = some s → val s = sumR (fun i => dnR (rw' rows (n + 1 + i)) (n + 1) * val (gt w (n + 1 + i))) i
  | 0, s, h => by simp [sumS] at h; subst h; exact val_zero
  | i + 1, s, h => by
    obtain ⟨s', e1, h⟩ := some_bind h
    obtain ⟨d, e2, h⟩ := some_bind h
    obtain ⟨p, e3, h⟩ := some_bind h
    have hd := downS_nn (hr _) e2
    have hp := nn_mul hd (gt_nn hw _) e3
    rw [val_add (sumS_nn hr hw e1).1 hp.1 h, val_mul hd.1 (gt_nn hw _).1 e3, sumS_val hr hw e1, downS_val (hr _) e2]
    rfl
/-- what the weights satisfy -/
theorem weight_val {rows : List (List Fr)} {w : List Fr} {cp n : Nat} (hr : RowsOk rows cp) (hw : ∀ a ∈ w, nn a) (hn : n < cp) {v : Fr} (h : weightS rows w cp n = some v) : val v * val (gt (rw' rows n) (n + 1)) = sumR (fun i => dnR (rw' rows (n + 1 + i)) (n + 1) * val (gt w (n + 1 + i))) (cp - n) ∧ nn v := by
  obtain ⟨s, e1, h⟩ := some_bind h
  have hs := sumS_nn hr.nneg hw e1
  have hg := gt_nn (hr.nneg n) (n + 1)
  have hp := hr.pos n hn
  exact ⟨by rw [val_div hs.1 hg.1 hp h, sumS_val hr.nneg hw e1], nn_div hs hg.1 hp h⟩
theorem le_of_mul {a b x y s t : Rat} (ha : 0 ≤ a) (h1 : a * x = s) (h2 : b * y = t) (hst : s ≤ t) (hyx : y ≤ x) (hy : 0 < y) : a ≤ b := by
  refine Rat.le_of_mul_le_mul_right (c := y) ?_ hy
  have := Rat.mul_le_mul_of_nonneg_left hyx ha
  grind
section
variable {Q P A NA : Rat}
theorem wS_up (hQ : 0 < Q) (hP : 0 ≤ P) (h1 : Q + P = 1) (hA : 0 < A) (hN : 0 ≤ NA) {sv cp : Nat} {rows rows' : List (List Fr)} (hr : RowsOk rows cp) (hr' : RowsOk rows' cp) (hv : RowsV Q P A NA sv cp rows) (hv' : RowsV Q P A NA (sv + 1) cp rows') :
    ∀ {t : Nat} {w w' : List Fr}, t ≤ cp → wS rows cp t = some w → wS rows' cp t = some w' → ∀ m, cp - t ≤ m → val (gt w m) ≤ val (gt w' m)
  | 0, w, w', _, h, h', m, hm => by
    simp [wS] at h h'
    subst h h'
    exact Rat.le_refl
  | t + 1, w, w', ht, h, h', m, hm => by
    obtain ⟨u, e1, h⟩ := some_bind h
    obtain ⟨v, e2, h⟩ := some_bind h
    injection h with h
    subst h
    obtain ⟨u', e1', h'⟩ := some_bind h'
    obtain ⟨v', e2', h'⟩ := some_bind h'
    injection h' with h'
    subst h'
    have gu := wS_good hr (by omega) e1
    have gu' := wS_good hr' (by omega) e1'
    have ih := wS_up hQ hP h1 hA hN hr hr' hv hv' (by omega) e1 e1'
    by_cases hm2 : cp - 1 - t = m
    · subst hm2
      rw [gt_set_self (by rw [gu.1]; omega), gt_set_self (by rw [gu'.1]; omega)]
      have k1 := weight_val hr gu.2.1 (by omega) e2
      have k2 := weight_val hr' gu'.2.1 (by omega) e2'
      rw [up_val hv (by omega)] at k1
      rw [up_val hv' (by omega)] at k2
      have hq0 := Rat.le_of_lt hQ
      refine le_of_mul (val_nn k1.2) k1.1 k2.1 (sumR_le fun i hi => ?_) ?_ (Rat.mul_pos (binR_zero_pos hQ _) hA)
      · have a1 : dnR (rw' rows (cp - 1 - t + 1 + i)) (cp - 1 - t + 1) ≤ dnR (rw' rows' (cp - 1 - t + 1 + i)) (cp - 1 - t + 1) := by
          rw [hv.dn _ _ (by omega), hv'.dn _ _ (by omega)]
          exact mean_up hq0 hP h1 (Rat.le_of_lt hA) hN _ _ _ _
        have a2 := ih (cp - 1 - t + 1 + i) (by omega)
        have a3 := val_nn (gt_nn gu.2.1 (cp - 1 - t + 1 + i))
        have a4 : 0 ≤ dnR (rw' rows' (cp - 1 - t + 1 + i)) (cp - 1 - t + 1) := sumR_nn fun k _ => val_nn (gt_nn (hr'.nneg _) k)
        have b1 := Rat.mul_le_mul_of_nonneg_right a1 a3
        have b2 := Rat.mul_le_mul_of_nonneg_left a2 a4
        grind
      · exact Rat.mul_le_mul_of_nonneg_right (bin_up hq0 hP h1 _ _) (Rat.le_of_lt hA)
    · rw [gt_set_ne hm2, gt_set_ne hm2]
      exact ih m (by omega)
end

/-- what the loss is -/
theorem lossQ_val {ar se st : Fr} {sv cp : Nat} (hq : QOk ar se sv cp) (hst : fsub oneF se = some st) {x : Fr} (h : lossQ ar se sv cp = some x) :
    ∃ rows b w tot, chainQ ar se sv cp = some (rows, b) ∧ wS rows cp cp = some w ∧ totS w (cp + 1) = some tot ∧ val x * val tot = binR (val st) (val se) sv 0 := by
  obtain ⟨⟨r, b⟩, e0, hx⟩ := some_bind h
  have hgood := statQ_good hq e0
  obtain ⟨p, e1, h⟩ := some_bind e0
  obtain ⟨w, e2, h⟩ := some_bind h
  obtain ⟨tot, e3, h⟩ := some_bind h
  obtain ⟨r', e4, h⟩ := some_bind h
  injection h with h
  injection h with h1 h2
  subst h1 h2
  obtain ⟨rows, b⟩ := p
  have hr := chainQ_rows hq e1
  have hw := wS_good hr (Nat.le_refl _) e2
  have ht := totS_pos hr e2 e3
  have hlast : ∀ {i : Nat} {r : List Fr}, i ≤ cp → divS w tot i = some r → gt r cp = oneF := by
    intro i
    induction i with
    | zero => intro r _ h; simp [divS] at h; subst h; exact hw.2.2
    | succ i ih =>
      intro r hi h
      obtain ⟨r0, a1, h⟩ := some_bind h
      obtain ⟨v, a2, h⟩ := some_bind h
      injection h with h
      subst h
      rw [gt_set_ne (by omega)]
      exact ih (by omega) a1
  obtain ⟨r0, a1, a3⟩ := some_bind e4
  obtain ⟨v, a2, a3⟩ := some_bind a3
  injection a3 with a3
  subst a3
  rw [hlast (Nat.le_refl _) a1] at a2
  have hl0 := divS_good hw.2.1 ht.1.1 ht.2 a1
  have hv := val_div oneF_ok ht.1.1 ht.2 a2
  rw [gt_set_self (by rw [hl0.1, hw.1]; omega)] at hx
  have hvo := fdiv_ok oneF_ok ht.1.1 (by have := ht.2; omega) a2
  have hb := leave_lt hq hgood.2.2.2
  refine ⟨rows, b, w, tot, e1, e2, e3, ?_⟩
  have hl : lrow st se sv = some (rw' b sv) := by
    have := leaveQ_some hgood.2.2.2 sv (Nat.le_refl _)
    unfold lrowQ at this
    rw [hst] at this
    exact this
  rw [val_mul hvo hb.2.1 hx, lrow_val (fsub_ok oneF_ok hq.os hst) hq.os hl 0]
  rw [val_one] at hv
  grind
/-- more servers never lose more -/
theorem more_servers {ar se : Fr} {sv cp : Nat} (hq : QOk ar se sv cp) (hq' : QOk ar se (sv + 1) cp) {x x' : Fr} (h : lossQ ar se sv cp = some x) (h' : lossQ ar se (sv + 1) cp = some x') : val x' ≤ val x := by
  have hle : ∃ st, fsub oneF se = some st := by
    obtain ⟨⟨r, b⟩, e0, _⟩ := some_bind h
    have hg := (statQ_good hq e0).2.2.2
    obtain ⟨st, e, _⟩ := some_bind hg
    exact ⟨st, e⟩
  obtain ⟨st, hst⟩ := hle
  obtain ⟨rows, b, w, tot, c1, c2, c3, c4⟩ := lossQ_val hq hst h
  obtain ⟨rows', b', w', tot', c1', c2', c3', c4'⟩ := lossQ_val hq' hst h'
  obtain ⟨no, hno⟩ : ∃ no, fsub oneF ar = some no := by
    obtain ⟨b0, e1, h0⟩ := some_bind c1
    obtain ⟨no, e2, _⟩ := some_bind h0
    exact ⟨no, e2⟩
  have hr := chainQ_rows hq c1
  have hr' := chainQ_rows hq' c1'
  have ost := fsub_ok oneF_ok hq.os hst
  have ono := fsub_ok oneF_ok hq.oa hno
  have pst := fsub_one_pos hq.os hst hq.s2
  have pno := fsub_one_pos hq.oa hno hq.a2
  have hQ := val_pos ost pst
  have hP := Rat.le_of_lt (val_pos hq.os hq.s1)
  have hA := val_pos hq.oa hq.a1
  have hN := Rat.le_of_lt (val_pos ono pno)
  have h1 : val st + val se = 1 := by
    rw [val_sub oneF_ok hq.os hst, val_one]
    grind
  have gw := wS_good hr (Nat.le_refl _) c2
  have gw' := wS_good hr' (Nat.le_refl _) c2'
  have hup := wS_up hQ hP h1 hA hN hr hr' (chainQ_val hq hst hno c1) (chainQ_val hq' hst hno c1') (Nat.le_refl _) c2 c2'
  have ht : val tot ≤ val tot' := by
    rw [downS_val gw.2.1 c3, downS_val gw'.2.1 c3']
    exact sumR_le fun i _ => hup i (by omega)
  have htp := totS_pos hr' c2' c3'
  have hx := val_nn (lossQ_good hq h).1
  rw [binR_zero_succ] at c4'
  have e1 := binR_nn (Rat.le_of_lt hQ) hP sv 0
  have e2 : val st ≤ 1 := by grind
  have e3 := Rat.mul_le_mul_of_nonneg_left e2 e1
  have e4 := Rat.mul_le_mul_of_nonneg_left ht hx
  refine Rat.le_of_mul_le_mul_right (c := val tot') ?_ (val_pos htp.1.1 htp.2)
  grind

end Go.Proofs.Ythlgkomhnhkooaa
