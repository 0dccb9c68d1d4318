/-
  Texts joined: ShC, AwM, ShD, EvE. Conditions: none.
-/
import Derived.Test.YtmoipmnhgdmkpaaGreatJC6
import Derived.Test.YtmoipmnhgdmkpaaGreatJC2
import Derived.Test.YtmoipmnhgdmkpaaGreatJC5
section
namespace Go.Proofs.YtmoipmnhgdmkpaaGreat.Aw
set_option linter.unusedSimpArgs false
set_option linter.unusedVariables false
set_option linter.unusedSectionVars false
open Go.RowKit Go.Proofs
variable {P : Program} [IsP P]

/-- how many people the first n shifts bring to period p -/
def cvP (l : List Sft) (c : List Int) : Nat → Nat → Int
  | 0, _ => 0
  | n + 1, p => cvP l c n p + if inB (gti l n).pd p = true then gti c n else 0
def okC (l : List Sft) (c : List Int) : Prop := c.length = l.length ∧ l.length ≤ 12 ∧ ∀ k, k < l.length → 0 ≤ gti c k ∧ gti c k ≤ 20
theorem cvP_bd {l : List Sft} {c : List Int} (h : okC l c) (p : Nat) : ∀ n, n ≤ l.length → 0 ≤ cvP l c n p ∧ cvP l c n p ≤ 20 * n
  | 0, _ => by simp [cvP]
  | n + 1, hn => by
    have ih := cvP_bd h p n (by omega)
    have h2 := h.2.2 n (by omega)
    unfold cvP
    split <;> omega
def shF (d : List Int) (l : List Sft) (c : List Int) : Nat → Nat → Int
  | 0, _ => -1
  | n + 1, k => if cvP l c l.length k < gti d k then (k : Int) else shF d l c n (k + 1)
def shE (d : List Int) (l : List Sft) (c : List Int) : Int := shF d l c d.length 0
/-- the row of the people, while the periods of shift i are gone through up to the j-th -/
def hasF (l : List Sft) (c : List Int) (i j : Nat) (p : Nat) : Int := cvP l c i p + if inB ((gti l i).pd.take j) p = true then gti c i else 0
def hasL (n : Nat) (l : List Sft) (c : List Int) (i j : Nat) : List Int := (List.range n).map (hasF l c i j)
theorem hasL_get {n : Nat} {l : List Sft} {c : List Int} {i j p : Nat} (h : p < n) : ((hasL n l c i j).map eI)[p]? = some (eI (hasF l c i j p)) := by
  unfold hasL
  rw [List.map_map, List.getElem?_map, List.getElem?_range h]; rfl
theorem inB_nil (p : Int) : inB [] p = false := rfl
theorem inB_iff {l : List Int} {p : Int} : inB l p = true ↔ p ∈ l := by
  unfold inB
  rw [List.any_eq_true]
  constructor
  · rintro ⟨x, h1, h2⟩; rw [decide_eq_true_eq] at h2; exact h2 ▸ h1
  · exact fun h => ⟨p, h, decide_eq_true rfl⟩
theorem take_snoc {α : Type} [Inhabited α] {l : List α} {k : Nat} (h : k < l.length) : l.take (k + 1) = l.take k ++ [gti l k] := by
  rw [List.take_add_one, zdj h]; rfl
theorem inB_step {l : List Int} {j : Nat} (h : j < l.length) (p : Int) : inB (l.take (j + 1)) p = true ↔ inB (l.take j) p = true ∨ gti l j = p := by
  rw [inB_iff, inB_iff, take_snoc h, List.mem_append, List.mem_singleton]
  constructor
  · rintro (h | h); exact .inl h; exact .inr h.symm
  · rintro (h | h); exact .inl h; exact .inr h.symm
/-- the periods of a shift ascend -/
theorem asc {l : List Int} (h : ∀ k, k < l.length → 0 < k → gti l (k - 1) < gti l k) : ∀ b a, a < b → b < l.length → gti l a < gti l b
  | 0, a, hab, hb => by omega
  | b + 1, a, hab, hb => by
    have h1 := h (b + 1) hb (by omega)
    rw [Nat.add_sub_cancel] at h1
    by_cases e : a = b
    · subst e; exact h1
    · have := asc h b a (by omega) (by omega); omega
theorem inB_new {l : List Int} (h : ∀ k, k < l.length → 0 < k → gti l (k - 1) < gti l k) {j : Nat} (hj : j < l.length) : inB (l.take j) (gti l j) = false := by
  rw [Bool.eq_false_iff, Ne, inB_iff]
  intro hm
  obtain ⟨i, hi, he⟩ := List.mem_iff_getElem.1 hm
  have hi2 : i < j := by simp at hi; omega
  have h1 := asc h j i hi2 hj
  have h2 := zdj (l := l) (k := i) (by omega)
  rw [List.getElem_take] at he
  rw [List.getElem?_eq_getElem (by omega)] at h2
  have := Option.some.inj h2
  omega
theorem has_set {n : Nat} {l : List Sft} {c : List Int} {i j p : Nat} (hj : j < (gti l i).pd.length) (hp : gti (gti l i).pd j = (p : Int)) (hpn : p < n) (hnew : inB ((gti l i).pd.take j) p = false) : ((hasL n l c i j).map eI).set p (eI (hasF l c i j p + gti c i)) = (hasL n l c i (j + 1)).map eI := by
  refine List.ext_getElem? fun q => ?_
  rw [List.getElem?_set]
  by_cases hqn : q < n
  · rw [hasL_get hqn]
    split
    · rename_i e
      subst e
      rw [if_pos (by simp [hasL]; exact hqn), hasL_get hqn]
      congr 2
      unfold hasF
      rw [if_neg (by rw [hnew]; simp), if_pos ((inB_step hj p).2 (.inr hp))]
      omega
    · rename_i e
      rw [hasL_get hqn]
      congr 2
      unfold hasF
      congr 1
      by_cases h1 : inB ((gti l i).pd.take j) q = true
      · rw [if_pos h1, if_pos ((inB_step hj q).2 (.inl h1))]
      · rw [if_neg h1, if_neg (fun h2 => by
          rcases (inB_step hj q).1 h2 with h3 | h3
          · exact h1 h3
          · omega)]
  · have e1 : ((hasL n l c i (j + 1)).map eI)[q]? = none := List.getElem?_eq_none (by simp [hasL]; omega)
    have e2 : ((hasL n l c i j).map eI)[q]? = none := List.getElem?_eq_none (by simp [hasL]; omega)
    rw [e1, e2]
    split
    · rename_i e; omega
    · rfl
theorem has_zero (n : Nat) (l : List Sft) (c : List Int) : List.replicate n (eI 0) = (hasL n l c 0 0).map eI := by
  refine List.ext_getElem? fun q => ?_
  by_cases hqn : q < n
  · rw [hasL_get hqn, List.getElem?_replicate, if_pos hqn]; rfl
  · rw [List.getElem?_eq_none (by simp; omega), List.getElem?_eq_none (by simp [hasL]; omega)]
theorem has_next (n : Nat) (l : List Sft) (c : List Int) (i : Nat) : hasL n l c i (gti l i).pd.length = hasL n l c (i + 1) 0 := by
  unfold hasL
  congr 1
  funext p
  unfold hasF
  rw [List.take_length, List.take_zero, inB_nil]
  simp [cvP]
theorem hasF_bd {l : List Sft} {c : List Int} (h : okC l c) {i : Nat} (hi : i < l.length) (j p : Nat) : 0 ≤ hasF l c i j p ∧ hasF l c i j p ≤ 20 * (i + 1) := by
  have h1 := cvP_bd h p i (by omega)
  have h2 := h.2.2 i hi
  unfold hasF
  split <;> omega
theorem hasF_zero (l : List Sft) (c : List Int) (p : Nat) (i : Nat) : hasF l c i 0 p = cvP l c i p := by
  unfold hasF; rw [List.take_zero, inB_nil, if_neg (by simp), Int.add_zero]
set_option maxHeartbeats 2000000 in
theorem short_pf (d : List Int) (l : List Sft) (c : List Int) (hv : zde d l = true) (hc : okC l c) : Pure P 15 [eL eI d, eL eSh l, eL eI c] (eI (shE d l c)) := by
  obtain ⟨⟨q1, q2, q3⟩, qd, ql⟩ := zcz hv
  have hcl := hc.1
  refine zc4 (by rw [IsP.eq (P := P)]; exact Tryz.func15) rfl rfl rfl rfl rfl (by repeat' (first | exact Lo.s _ | exact zaj | refine zae ?_ ?_ | refine zak ?_ | refine Lo.cells ?_ | refine Lo.agg _ ?_ | refine Lo.ref _ ?_ | refine Lo.tup _ ?_ | refine Lo.fn _ _ ?_ | refine Lo.sl _ ?_ | intro _)) (by repeat' (first | exact Lo.s _ | exact zaj | refine zae ?_ ?_ | refine zak ?_ | refine Lo.cells ?_ | refine Lo.agg _ ?_ | refine Lo.ref _ ?_ | refine Lo.tup _ ?_ | refine Lo.fn _ _ ?_ | refine Lo.sl _ ?_ | intro _)) (by simp only [argF]; rfl) ?_
  repeat (first | refine zag ?_ | refine zar ?_ | refine zad ?_ | refine zas ?_ | refine zac ?_)
  refine zaf ?_
  refine zab rfl rfl (zaa rfl) (mv_s (.inr rfl) rfl) ?_
  refine zan ?_
  repeat (first | refine zag ?_ | refine zar ?_ | refine zad ?_ | refine zas ?_ | refine zac ?_)
  refine zaf ?_
  first | refine zab rfl rfl (zaa rfl) (za6 (.inl rfl) rfl) ?_ | refine zab rfl rfl (zaa rfl) (zbg (.inl rfl) rfl) ?_ | refine zab rfl rfl (zaa rfl) (mv_s (.inl rfl) rfl) ?_ | refine zab rfl rfl (zaa rfl) (za7 (.inl rfl) rfl) ?_
  first | refine zab rfl rfl (zaa rfl) (za4 rfl ts22 rfl) ?_ | refine zab rfl rfl (zaa rfl) (za8 rfl ts22 rfl) ?_ | refine zab rfl rfl (zaa rfl) (za2 rfl ts22 rfl) ?_ | refine zab rfl rfl (zaa rfl) (zbc rfl ts22 rfl) ?_ | refine zab rfl rfl (zaa rfl) (za3 rfl ts22 rfl) ?_
  refine zab rfl rfl (zaa rfl) (does_make rfl ts22 ti3 rfl rfl (by decide) rfl rfl rfl rfl (by omega) (by omega) (by omega)) ?_
  first | refine zab rfl rfl (zaa rfl) (za6 (.inr rfl) rfl) ?_ | refine zab rfl rfl (zaa rfl) (zbg (.inr rfl) rfl) ?_ | refine zab rfl rfl (zaa rfl) (mv_s (.inr rfl) rfl) ?_ | refine zab rfl rfl (zaa rfl) (za7 (.inr rfl) rfl) ?_
  refine zan ?_
  repeat (first | refine zag ?_ | refine zar ?_ | refine zad ?_ | refine zas ?_ | refine zac ?_)
  refine zaf ?_
  first | refine zab rfl rfl (zaa rfl) (za6 (.inl rfl) rfl) ?_ | refine zab rfl rfl (zaa rfl) (zbg (.inl rfl) rfl) ?_ | refine zab rfl rfl (zaa rfl) (mv_s (.inl rfl) rfl) ?_ | refine zab rfl rfl (zaa rfl) (za7 (.inl rfl) rfl) ?_
  first | refine zab rfl rfl (zaa rfl) (za4 rfl ts23 rfl) ?_ | refine zab rfl rfl (zaa rfl) (za8 rfl ts23 rfl) ?_ | refine zab rfl rfl (zaa rfl) (za2 rfl ts23 rfl) ?_ | refine zab rfl rfl (zaa rfl) (zbc rfl ts23 rfl) ?_ | refine zab rfl rfl (zaa rfl) (za3 rfl ts23 rfl) ?_
  refine zab rfl rfl (zaa rfl) (mv_s (.inl rfl) rfl) ?_
  refine zan ?_
  repeat (first | refine zag ?_ | refine zar ?_ | refine zad ?_ | refine zas ?_ | refine zac ?_)
  refine zcc (S := Nat) (fun i => [(0, eL eI d), (1, eL eSh l), (2, eL eI c), (7, .own 0 1 d.length), (17, eL eSh l), (18, eI l.length), (19, eI i)]) (fun i => [.row 1 ((hasL d.length l c i 0).map eI)]) (fun i => i ≤ l.length) (fun i => l.length - i) 0 (zck [0] (by decide) ⟨⟨_, rfl, .rowE (by repeat' (first | exact Lo.s _ | exact zaj | exact zbn | refine zae ?_ ?_ | refine zbe ?_ ?_ | refine zak ?_ | refine zbo ?_ | refine Lo.cells ?_ | refine Lo.agg _ ?_ | refine Lo.sl _ ?_ | intro _)) (has_zero d.length l c)⟩, trivial⟩ ⟨.lo _ (by repeat' (first | exact Lo.s _ | exact zaj | refine zae ?_ ?_ | refine zak ?_ | refine Lo.cells ?_ | refine Lo.agg _ ?_ | refine Lo.ref _ ?_ | refine Lo.tup _ ?_ | refine Lo.fn _ _ ?_ | refine Lo.sl _ ?_ | intro _)), .lo _ (by repeat' (first | exact Lo.s _ | exact zaj | refine zae ?_ ?_ | refine zak ?_ | refine Lo.cells ?_ | refine Lo.agg _ ?_ | refine Lo.ref _ ?_ | refine Lo.tup _ ?_ | refine Lo.fn _ _ ?_ | refine Lo.sl _ ?_ | intro _)), .lo _ (by repeat' (first | exact Lo.s _ | exact zaj | refine zae ?_ ?_ | refine zak ?_ | refine Lo.cells ?_ | refine Lo.agg _ ?_ | refine Lo.ref _ ?_ | refine Lo.tup _ ?_ | refine Lo.fn _ _ ?_ | refine Lo.sl _ ?_ | intro _)), .own 0 0 1 _ _ rfl rfl, .lo _ (by repeat' (first | exact Lo.s _ | exact zaj | refine zae ?_ ?_ | refine zak ?_ | refine Lo.cells ?_ | refine Lo.agg _ ?_ | refine Lo.ref _ ?_ | refine Lo.tup _ ?_ | refine Lo.fn _ _ ?_ | refine Lo.sl _ ?_ | intro _)), .lo _ (by repeat' (first | exact Lo.s _ | exact zaj | refine zae ?_ ?_ | refine zak ?_ | refine Lo.cells ?_ | refine Lo.agg _ ?_ | refine Lo.ref _ ?_ | refine Lo.tup _ ?_ | refine Lo.fn _ _ ?_ | refine Lo.sl _ ?_ | intro _)), .lo _ (by repeat' (first | exact Lo.s _ | exact zaj | refine zae ?_ ?_ | refine zak ?_ | refine Lo.cells ?_ | refine Lo.agg _ ?_ | refine Lo.ref _ ?_ | refine Lo.tup _ ?_ | refine Lo.fn _ _ ?_ | refine Lo.sl _ ?_ | intro _)), trivial⟩) (Nat.zero_le _) (fun i hi => ?_)
  repeat (first | refine zag ?_ | refine zar ?_ | refine zad ?_ | refine zas ?_ | refine zac ?_)
  all_goals refine zaf ?_
  all_goals (first | refine zbh rfl rfl (zaa rfl) (zbb rfl rfl rfl) (fun h20 => ?_) (fun h20 => ?_) | refine zbi rfl rfl (zaa rfl) (zbb rfl rfl rfl) (fun h20 => ?_) (fun h20 => ?_))
  all_goals refine zan ?_
  all_goals (repeat (first | refine zag ?_ | refine zar ?_ | refine zad ?_ | refine zas ?_ | refine zac ?_))
  all_goals (first | refine zbp rfl ?_ | refine zbm rfl ?_)
  all_goals (repeat (first | refine zag ?_ | refine zar ?_ | refine zad ?_ | refine zas ?_ | refine zac ?_))
  · have hlt : i < l.length := by omega
    obtain ⟨s, hs⟩ : ∃ s, gti l i = s := ⟨_, rfl⟩
    have hix : (l.map eSh)[i]? = some (eSh s) := by rw [← hs]; exact zb5 hlt
    have hsl := (ql i hlt).2
    rw [hs] at hsl
    refine zaf ?_
    refine zab rfl rfl (zaa rfl) (mv_s (.inl rfl) rfl) ?_
    first | refine zab rfl rfl (zaa rfl) (za1 rfl ts23 ti36 rfl rfl rfl hix rfl) ?_ | refine zab rfl rfl (zaa rfl) (zay rfl ts23 ti36 rfl rfl rfl hix) ?_
    first | refine zab rfl rfl (zaa rfl) (za0 rfl ta36 ti36 rfl rfl) ?_ | refine zab rfl rfl (zaa rfl) (za9 rfl ta36 ti36 rfl rfl rfl rfl rfl) ?_ | refine zab rfl rfl (zaa rfl) (zaz rfl ta36 ti36 rfl (Nat.le_of_ble_eq_true rfl)) ?_ | refine zab rfl rfl (zaa rfl) (zba rfl ta36 ti36 rfl rfl rfl rfl (Nat.le_of_ble_eq_true rfl)) ?_
    refine zab rfl rfl (zaa rfl) (zbr rfl ti36 rfl rfl) ?_
    refine zab rfl rfl (zaa rfl) (mv_s (.inr rfl) rfl) ?_
    refine zb0 rfl (zaa rfl) (zbd rfl ti36 rfl rfl rfl rfl rfl rfl (by decide) (by decide)) ?_
    refine zan ?_
    repeat (first | refine zag ?_ | refine zar ?_ | refine zad ?_ | refine zas ?_ | refine zac ?_)
    refine zca (zcd (id := 1) rfl) ?_
    refine zca (zcy (d := 9) rfl rfl rfl) ?_
    refine zaf ?_
    first | refine zab rfl rfl (zaa rfl) (zal rfl zc0 (by decide) rfl) ?_ | refine zab rfl rfl (zaa rfl) (zai rfl zc0 (by decide) rfl) ?_
    first | refine zab rfl rfl (zaa rfl) (zam rfl ta22 rfl) ?_ | refine zab rfl rfl (zaa rfl) (zap rfl ta22 rfl rfl rfl rfl rfl) ?_
    first | refine zab rfl rfl (zaa rfl) (za4 rfl ts22 rfl) ?_ | refine zab rfl rfl (zaa rfl) (za8 rfl ts22 rfl) ?_ | refine zab rfl rfl (zaa rfl) (za2 rfl ts22 rfl) ?_ | refine zab rfl rfl (zaa rfl) (zbc rfl ts22 rfl) ?_ | refine zab rfl rfl (zaa rfl) (za3 rfl ts22 rfl) ?_
    refine zab rfl rfl (zaa rfl) (mv_s (.inl rfl) rfl) ?_
    refine zan ?_
    repeat (first | refine zag ?_ | refine zar ?_ | refine zad ?_ | refine zas ?_ | refine zac ?_)
    refine zc5 (d := 25) rfl (fun hm3 => ?_)
    unfold maxLen at hm3
    refine zcc (S := Nat) (fun j => [(0, eL eI d), (1, eL eSh l), (2, eL eI c), (7, .own 0 1 d.length), (17, eL eSh l), (18, eI l.length), (19, eI i), (8, eI i), (25, eL eI s.pd), (26, eI s.pd.length), (27, eI j)]) (fun j => [.row 1 ((hasL d.length l c i j).map eI)]) (fun j => j ≤ s.pd.length) (fun j => s.pd.length - j) 0 (zck [0] (by decide) ⟨⟨_, rfl, .rowE (by repeat' (first | exact Lo.s _ | exact zaj | exact zbn | refine zae ?_ ?_ | refine zbe ?_ ?_ | refine zak ?_ | refine zbo ?_ | refine Lo.cells ?_ | refine Lo.agg _ ?_ | refine Lo.sl _ ?_ | intro _)) rfl⟩, trivial⟩ ⟨.lo _ (by repeat' (first | exact Lo.s _ | exact zaj | refine zae ?_ ?_ | refine zak ?_ | refine Lo.cells ?_ | refine Lo.agg _ ?_ | refine Lo.ref _ ?_ | refine Lo.tup _ ?_ | refine Lo.fn _ _ ?_ | refine Lo.sl _ ?_ | intro _)), .lo _ (by repeat' (first | exact Lo.s _ | exact zaj | refine zae ?_ ?_ | refine zak ?_ | refine Lo.cells ?_ | refine Lo.agg _ ?_ | refine Lo.ref _ ?_ | refine Lo.tup _ ?_ | refine Lo.fn _ _ ?_ | refine Lo.sl _ ?_ | intro _)), .lo _ (by repeat' (first | exact Lo.s _ | exact zaj | refine zae ?_ ?_ | refine zak ?_ | refine Lo.cells ?_ | refine Lo.agg _ ?_ | refine Lo.ref _ ?_ | refine Lo.tup _ ?_ | refine Lo.fn _ _ ?_ | refine Lo.sl _ ?_ | intro _)), .own 0 0 1 _ _ rfl rfl, .lo _ (by repeat' (first | exact Lo.s _ | exact zaj | refine zae ?_ ?_ | refine zak ?_ | refine Lo.cells ?_ | refine Lo.agg _ ?_ | refine Lo.ref _ ?_ | refine Lo.tup _ ?_ | refine Lo.fn _ _ ?_ | refine Lo.sl _ ?_ | intro _)), .lo _ (by repeat' (first | exact Lo.s _ | exact zaj | refine zae ?_ ?_ | refine zak ?_ | refine Lo.cells ?_ | refine Lo.agg _ ?_ | refine Lo.ref _ ?_ | refine Lo.tup _ ?_ | refine Lo.fn _ _ ?_ | refine Lo.sl _ ?_ | intro _)), .lo _ (by repeat' (first | exact Lo.s _ | exact zaj | refine zae ?_ ?_ | refine zak ?_ | refine Lo.cells ?_ | refine Lo.agg _ ?_ | refine Lo.ref _ ?_ | refine Lo.tup _ ?_ | refine Lo.fn _ _ ?_ | refine Lo.sl _ ?_ | intro _)), .lo _ (by repeat' (first | exact Lo.s _ | exact zaj | refine zae ?_ ?_ | refine zak ?_ | refine Lo.cells ?_ | refine Lo.agg _ ?_ | refine Lo.ref _ ?_ | refine Lo.tup _ ?_ | refine Lo.fn _ _ ?_ | refine Lo.sl _ ?_ | intro _)), .lo _ (by repeat' (first | exact Lo.s _ | exact zaj | refine zae ?_ ?_ | refine zak ?_ | refine Lo.cells ?_ | refine Lo.agg _ ?_ | refine Lo.ref _ ?_ | refine Lo.tup _ ?_ | refine Lo.fn _ _ ?_ | refine Lo.sl _ ?_ | intro _)), .lo _ (by repeat' (first | exact Lo.s _ | exact zaj | refine zae ?_ ?_ | refine zak ?_ | refine Lo.cells ?_ | refine Lo.agg _ ?_ | refine Lo.ref _ ?_ | refine Lo.tup _ ?_ | refine Lo.fn _ _ ?_ | refine Lo.sl _ ?_ | intro _)), .lo _ (by repeat' (first | exact Lo.s _ | exact zaj | refine zae ?_ ?_ | refine zak ?_ | refine Lo.cells ?_ | refine Lo.agg _ ?_ | refine Lo.ref _ ?_ | refine Lo.tup _ ?_ | refine Lo.fn _ _ ?_ | refine Lo.sl _ ?_ | intro _)), trivial⟩) (Nat.zero_le _) (fun j hj => ?_)
    repeat (first | refine zag ?_ | refine zar ?_ | refine zad ?_ | refine zas ?_ | refine zac ?_)
    all_goals refine zaf ?_
    all_goals (first | refine zbh rfl rfl (zaa rfl) (zbb rfl rfl rfl) (fun h28 => ?_) (fun h28 => ?_) | refine zbi rfl rfl (zaa rfl) (zbb rfl rfl rfl) (fun h28 => ?_) (fun h28 => ?_))
    all_goals refine zan ?_
    all_goals (repeat (first | refine zag ?_ | refine zar ?_ | refine zad ?_ | refine zas ?_ | refine zac ?_))
    all_goals (first | refine zbp rfl ?_ | refine zbm rfl ?_)
    all_goals (repeat (first | refine zag ?_ | refine zar ?_ | refine zad ?_ | refine zas ?_ | refine zac ?_))
    · have hlt2 : j < s.pd.length := by omega
      obtain ⟨g1, g2, g3⟩ := hsl j hlt2
      obtain ⟨p, hp⟩ : ∃ p : Nat, gti s.pd j = (p : Int) := ⟨(gti s.pd j).toNat, by omega⟩
      have hpn : p < d.length := by omega
      have hnew : inB ((gti l i).pd.take j) p = false := by
        rw [hs, ← hp]; exact inB_new (fun k hk h0 => (hsl k hk).2.2 h0) hlt2
      have hget := hasL_get (l := l) (c := c) (i := i) (j := j) hpn
      have hset := has_set (c := c) (by rw [hs]; exact hlt2) (by rw [hs]; exact hp) hpn hnew
      have hbd := hasF_bd hc hlt j p
      have hcb := hc.2.2 i hlt
      refine zaf ?_
      first | refine zab rfl rfl (zaa rfl) (za1 rfl ts22 ti3 rfl rfl rfl (zb5 (by omega)) rfl) ?_ | refine zab rfl rfl (zaa rfl) (zay rfl ts22 ti3 rfl rfl rfl (by omega)) ?_
      first | refine zab rfl rfl (zaa rfl) (zam rfl ta3 rfl) ?_ | refine zab rfl rfl (zaa rfl) (zap rfl ta3 rfl rfl rfl rfl rfl) ?_
      refine zab rfl rfl (zaa rfl) (mv_s (.inr rfl) rfl) ?_
      refine zan ?_
      repeat (first | refine zag ?_ | refine zar ?_ | refine zad ?_ | refine zas ?_ | refine zac ?_)
      refine zch hmix ?_
      refine adraw_lastT rfl (by kernel_rfl) ?_
      refine zco (by kernel_rfl) ?_
      simp only [List.dropLast]
      first | refine zat rfl rfl (zaa rfl) (za6 (.inl rfl) rfl) ?_ | refine zat rfl rfl (zaa rfl) (zbg (.inl rfl) rfl) ?_ | refine zat rfl rfl (zaa rfl) (mv_s (.inl rfl) rfl) ?_ | refine zat rfl rfl (zaa rfl) (za7 (.inl rfl) rfl) ?_
      refine zat rfl rfl (zaa rfl) (mv_s (.inl rfl) rfl) ?_
      first | refine zat rfl rfl (zaa rfl) (za1 rfl ts22 ti3 rfl rfl hp hpn rfl) ?_ | refine zat rfl rfl (zaa rfl) (zay rfl ts22 ti3 rfl rfl hp hpn) ?_
      first | refine zat rfl rfl (zaa rfl) (zam rfl ta3 rfl) ?_ | refine zat rfl rfl (zaa rfl) (zap rfl ta3 rfl rfl rfl hget rfl) ?_
      first | refine zat rfl rfl (zaa rfl) (za6 (.inl rfl) rfl) ?_ | refine zat rfl rfl (zaa rfl) (zbg (.inl rfl) rfl) ?_ | refine zat rfl rfl (zaa rfl) (mv_s (.inl rfl) rfl) ?_ | refine zat rfl rfl (zaa rfl) (za7 (.inl rfl) rfl) ?_
      refine zat rfl rfl (zaa rfl) (mv_s (.inl rfl) rfl) ?_
      first | refine zat rfl rfl (zaa rfl) (za1 rfl ts22 ti3 rfl rfl rfl (zb5 (by omega)) rfl) ?_ | refine zat rfl rfl (zaa rfl) (zay rfl ts22 ti3 rfl rfl rfl (by omega)) ?_
      first | refine zat rfl rfl (zaa rfl) (zam rfl ta3 rfl) ?_ | refine zat rfl rfl (zaa rfl) (zap rfl ta3 rfl rfl rfl rfl rfl) ?_
      refine zat rfl rfl (zaa rfl) (zb2 rfl rfl rfl (IntWalk.i64_in _ (by omega))) ?_
      first | refine zat rfl rfl (zaa rfl) (za1 rfl ts22 ti3 rfl rfl hp hpn rfl) ?_ | refine zat rfl rfl (zaa rfl) (zay rfl ts22 ti3 rfl rfl hp hpn) ?_
      refine qx_nil ?_
      refine zar ?_
      refine zb0 rfl (zaa rfl) (zbd rfl ti3 rfl rfl rfl hget rfl rfl (by decide) (by decide)) ?_
      refine zan ?_
      repeat (first | refine zag ?_ | refine zar ?_ | refine zad ?_ | refine zas ?_ | refine zac ?_)
      refine zaf ?_
      refine zab rfl rfl (zaa rfl) (zb2 rfl rfl rfl (IntWalk.i64_in _ (by omega))) ?_
      refine zab rfl rfl (zaa rfl) (mv_s (.inl rfl) rfl) ?_
      refine zan ?_
      repeat (first | refine zag ?_ | refine zar ?_ | refine zad ?_ | refine zas ?_ | refine zac ?_)
      exact ⟨j + 1, by omega, by omega, zck [0] (by decide) ⟨⟨_, rfl, .rowE (by repeat' (first | exact Lo.s _ | exact zaj | exact zbn | refine zae ?_ ?_ | refine zbe ?_ ?_ | refine zak ?_ | refine zbo ?_ | refine Lo.cells ?_ | refine Lo.agg _ ?_ | refine Lo.sl _ ?_ | intro _)) hset⟩, trivial⟩ ⟨.lo _ (by repeat' (first | exact Lo.s _ | exact zaj | refine zae ?_ ?_ | refine zak ?_ | refine Lo.cells ?_ | refine Lo.agg _ ?_ | refine Lo.ref _ ?_ | refine Lo.tup _ ?_ | refine Lo.fn _ _ ?_ | refine Lo.sl _ ?_ | intro _)), .lo _ (by repeat' (first | exact Lo.s _ | exact zaj | refine zae ?_ ?_ | refine zak ?_ | refine Lo.cells ?_ | refine Lo.agg _ ?_ | refine Lo.ref _ ?_ | refine Lo.tup _ ?_ | refine Lo.fn _ _ ?_ | refine Lo.sl _ ?_ | intro _)), .lo _ (by repeat' (first | exact Lo.s _ | exact zaj | refine zae ?_ ?_ | refine zak ?_ | refine Lo.cells ?_ | refine Lo.agg _ ?_ | refine Lo.ref _ ?_ | refine Lo.tup _ ?_ | refine Lo.fn _ _ ?_ | refine Lo.sl _ ?_ | intro _)), .own 0 0 1 _ _ rfl rfl, .lo _ (by repeat' (first | exact Lo.s _ | exact zaj | refine zae ?_ ?_ | refine zak ?_ | refine Lo.cells ?_ | refine Lo.agg _ ?_ | refine Lo.ref _ ?_ | refine Lo.tup _ ?_ | refine Lo.fn _ _ ?_ | refine Lo.sl _ ?_ | intro _)), .lo _ (by repeat' (first | exact Lo.s _ | exact zaj | refine zae ?_ ?_ | refine zak ?_ | refine Lo.cells ?_ | refine Lo.agg _ ?_ | refine Lo.ref _ ?_ | refine Lo.tup _ ?_ | refine Lo.fn _ _ ?_ | refine Lo.sl _ ?_ | intro _)), .lo _ (by repeat' (first | exact Lo.s _ | exact zaj | refine zae ?_ ?_ | refine zak ?_ | refine Lo.cells ?_ | refine Lo.agg _ ?_ | refine Lo.ref _ ?_ | refine Lo.tup _ ?_ | refine Lo.fn _ _ ?_ | refine Lo.sl _ ?_ | intro _)), .lo _ (by repeat' (first | exact Lo.s _ | exact zaj | refine zae ?_ ?_ | refine zak ?_ | refine Lo.cells ?_ | refine Lo.agg _ ?_ | refine Lo.ref _ ?_ | refine Lo.tup _ ?_ | refine Lo.fn _ _ ?_ | refine Lo.sl _ ?_ | intro _)), .lo _ (by repeat' (first | exact Lo.s _ | exact zaj | refine zae ?_ ?_ | refine zak ?_ | refine Lo.cells ?_ | refine Lo.agg _ ?_ | refine Lo.ref _ ?_ | refine Lo.tup _ ?_ | refine Lo.fn _ _ ?_ | refine Lo.sl _ ?_ | intro _)), .lo _ (by repeat' (first | exact Lo.s _ | exact zaj | refine zae ?_ ?_ | refine zak ?_ | refine Lo.cells ?_ | refine Lo.agg _ ?_ | refine Lo.ref _ ?_ | refine Lo.tup _ ?_ | refine Lo.fn _ _ ?_ | refine Lo.sl _ ?_ | intro _)), .lo _ (by repeat' (first | exact Lo.s _ | exact zaj | refine zae ?_ ?_ | refine zak ?_ | refine Lo.cells ?_ | refine Lo.agg _ ?_ | refine Lo.ref _ ?_ | refine Lo.tup _ ?_ | refine Lo.fn _ _ ?_ | refine Lo.sl _ ?_ | intro _)), trivial⟩⟩
    · have e : j = s.pd.length := by omega
      subst e
      (refine zcl ?_; repeat (first | refine ath_x ?_ | refine zci ?_ | refine zcb rfl ?_ | refine zas ?_ | refine zar ?_ | refine zag ?_ | refine zad ?_ | refine zac ?_))
      refine zaf ?_
      refine zab rfl rfl (zaa rfl) (zb2 rfl rfl rfl (IntWalk.i64_in _ (by omega))) ?_
      refine zab rfl rfl (zaa rfl) (mv_s (.inl rfl) rfl) ?_
      refine zan ?_
      repeat (first | refine zag ?_ | refine zar ?_ | refine zad ?_ | refine zas ?_ | refine zac ?_)
      have hnx := has_next d.length l c i
      rw [hs] at hnx
      exact ⟨i + 1, by omega, by omega, zck [0] (by decide) ⟨⟨_, rfl, .rowE (by repeat' (first | exact Lo.s _ | exact zaj | exact zbn | refine zae ?_ ?_ | refine zbe ?_ ?_ | refine zak ?_ | refine zbo ?_ | refine Lo.cells ?_ | refine Lo.agg _ ?_ | refine Lo.sl _ ?_ | intro _)) (by rw [hnx])⟩, trivial⟩ ⟨.lo _ (by repeat' (first | exact Lo.s _ | exact zaj | refine zae ?_ ?_ | refine zak ?_ | refine Lo.cells ?_ | refine Lo.agg _ ?_ | refine Lo.ref _ ?_ | refine Lo.tup _ ?_ | refine Lo.fn _ _ ?_ | refine Lo.sl _ ?_ | intro _)), .lo _ (by repeat' (first | exact Lo.s _ | exact zaj | refine zae ?_ ?_ | refine zak ?_ | refine Lo.cells ?_ | refine Lo.agg _ ?_ | refine Lo.ref _ ?_ | refine Lo.tup _ ?_ | refine Lo.fn _ _ ?_ | refine Lo.sl _ ?_ | intro _)), .lo _ (by repeat' (first | exact Lo.s _ | exact zaj | refine zae ?_ ?_ | refine zak ?_ | refine Lo.cells ?_ | refine Lo.agg _ ?_ | refine Lo.ref _ ?_ | refine Lo.tup _ ?_ | refine Lo.fn _ _ ?_ | refine Lo.sl _ ?_ | intro _)), .own 0 0 1 _ _ rfl rfl, .lo _ (by repeat' (first | exact Lo.s _ | exact zaj | refine zae ?_ ?_ | refine zak ?_ | refine Lo.cells ?_ | refine Lo.agg _ ?_ | refine Lo.ref _ ?_ | refine Lo.tup _ ?_ | refine Lo.fn _ _ ?_ | refine Lo.sl _ ?_ | intro _)), .lo _ (by repeat' (first | exact Lo.s _ | exact zaj | refine zae ?_ ?_ | refine zak ?_ | refine Lo.cells ?_ | refine Lo.agg _ ?_ | refine Lo.ref _ ?_ | refine Lo.tup _ ?_ | refine Lo.fn _ _ ?_ | refine Lo.sl _ ?_ | intro _)), .lo _ (by repeat' (first | exact Lo.s _ | exact zaj | refine zae ?_ ?_ | refine zak ?_ | refine Lo.cells ?_ | refine Lo.agg _ ?_ | refine Lo.ref _ ?_ | refine Lo.tup _ ?_ | refine Lo.fn _ _ ?_ | refine Lo.sl _ ?_ | intro _)), trivial⟩⟩
  · have e : i = l.length := by omega
    subst e
    have HI : shE d l c = shF d l c d.length 0 := rfl
    generalize shE d l c = R at HI ⊢
    (refine zcl ?_; repeat (first | refine ath_x ?_ | refine zci ?_ | refine zcb rfl ?_ | refine zas ?_ | refine zar ?_ | refine zag ?_ | refine zad ?_ | refine zac ?_))
    refine zaf ?_
    first | refine zab rfl rfl (zaa rfl) (za6 (.inl rfl) rfl) ?_ | refine zab rfl rfl (zaa rfl) (zbg (.inl rfl) rfl) ?_ | refine zab rfl rfl (zaa rfl) (mv_s (.inl rfl) rfl) ?_ | refine zab rfl rfl (zaa rfl) (za7 (.inl rfl) rfl) ?_
    first | refine zab rfl rfl (zaa rfl) (za4 rfl ts22 rfl) ?_ | refine zab rfl rfl (zaa rfl) (za8 rfl ts22 rfl) ?_ | refine zab rfl rfl (zaa rfl) (za2 rfl ts22 rfl) ?_ | refine zab rfl rfl (zaa rfl) (zbc rfl ts22 rfl) ?_ | refine zab rfl rfl (zaa rfl) (za3 rfl ts22 rfl) ?_
    refine zab rfl rfl (zaa rfl) (mv_s (.inl rfl) rfl) ?_
    refine zan ?_
    repeat (first | refine zag ?_ | refine zar ?_ | refine zad ?_ | refine zas ?_ | refine zac ?_)
    refine zcc (S := Nat) (fun k => [(7, .own 0 1 d.length), (43, eL eI d), (44, eI d.length), (45, eI k)]) (fun k => [.row 1 ((hasL d.length l c l.length 0).map eI)]) (fun k => k ≤ d.length ∧ R = shF d l c (d.length - k) k) (fun k => d.length - k) 0 (zck [0] (by decide) ⟨⟨_, rfl, .rowE (by repeat' (first | exact Lo.s _ | exact zaj | exact zbn | refine zae ?_ ?_ | refine zbe ?_ ?_ | refine zak ?_ | refine zbo ?_ | refine Lo.cells ?_ | refine Lo.agg _ ?_ | refine Lo.sl _ ?_ | intro _)) rfl⟩, trivial⟩ ⟨.own 0 0 1 _ _ rfl rfl, .lo _ (by repeat' (first | exact Lo.s _ | exact zaj | refine zae ?_ ?_ | refine zak ?_ | refine Lo.cells ?_ | refine Lo.agg _ ?_ | refine Lo.ref _ ?_ | refine Lo.tup _ ?_ | refine Lo.fn _ _ ?_ | refine Lo.sl _ ?_ | intro _)), .lo _ (by repeat' (first | exact Lo.s _ | exact zaj | refine zae ?_ ?_ | refine zak ?_ | refine Lo.cells ?_ | refine Lo.agg _ ?_ | refine Lo.ref _ ?_ | refine Lo.tup _ ?_ | refine Lo.fn _ _ ?_ | refine Lo.sl _ ?_ | intro _)), .lo _ (by repeat' (first | exact Lo.s _ | exact zaj | refine zae ?_ ?_ | refine zak ?_ | refine Lo.cells ?_ | refine Lo.agg _ ?_ | refine Lo.ref _ ?_ | refine Lo.tup _ ?_ | refine Lo.fn _ _ ?_ | refine Lo.sl _ ?_ | intro _)), trivial⟩) ⟨Nat.zero_le _, HI⟩ (fun k hk => ?_)
    obtain ⟨hk, HI⟩ := hk
    repeat (first | refine zag ?_ | refine zar ?_ | refine zad ?_ | refine zas ?_ | refine zac ?_)
    all_goals refine zaf ?_
    all_goals (first | refine zbh rfl rfl (zaa rfl) (zbb rfl rfl rfl) (fun h46 => ?_) (fun h46 => ?_) | refine zbi rfl rfl (zaa rfl) (zbb rfl rfl rfl) (fun h46 => ?_) (fun h46 => ?_))
    all_goals refine zan ?_
    all_goals (repeat (first | refine zag ?_ | refine zar ?_ | refine zad ?_ | refine zas ?_ | refine zac ?_))
    all_goals (first | refine zbp rfl ?_ | refine zbm rfl ?_)
    all_goals (repeat (first | refine zag ?_ | refine zar ?_ | refine zad ?_ | refine zas ?_ | refine zac ?_))
    · have hlt : k < d.length := by omega
      have hget := hasL_get (l := l) (c := c) (i := l.length) (j := 0) hlt
      rw [hasF_zero] at hget
      rw [show d.length - k = (d.length - (k + 1)) + 1 by omega, shF] at HI
      refine zaf ?_
      refine zab rfl rfl (zaa rfl) (mv_s (.inl rfl) rfl) ?_
      first | refine zab rfl rfl (zaa rfl) (za1 rfl ts22 ti3 rfl rfl rfl (zb5 (by omega)) rfl) ?_ | refine zab rfl rfl (zaa rfl) (zay rfl ts22 ti3 rfl rfl rfl (by omega)) ?_
      first | refine zab rfl rfl (zaa rfl) (zam rfl ta3 rfl) ?_ | refine zab rfl rfl (zaa rfl) (zap rfl ta3 rfl rfl rfl rfl rfl) ?_
      refine zab rfl rfl (zaa rfl) (mv_s (.inr rfl) rfl) ?_
      refine zab rfl rfl (zaa rfl) (mv_s (.inr rfl) rfl) ?_
      refine zan ?_
      repeat (first | refine zag ?_ | refine zar ?_ | refine zad ?_ | refine zas ?_ | refine zac ?_)
      all_goals refine zaf ?_
      all_goals (first | refine zab rfl rfl (zaa rfl) (za6 (.inl rfl) rfl) ?_ | refine zab rfl rfl (zaa rfl) (zbg (.inl rfl) rfl) ?_ | refine zab rfl rfl (zaa rfl) (mv_s (.inl rfl) rfl) ?_ | refine zab rfl rfl (zaa rfl) (za7 (.inl rfl) rfl) ?_)
      all_goals refine zab rfl rfl (zaa rfl) (mv_s (.inl rfl) rfl) ?_
      all_goals (first | refine zab rfl rfl (zaa rfl) (za1 rfl ts22 ti3 rfl rfl rfl hlt rfl) ?_ | refine zab rfl rfl (zaa rfl) (zay rfl ts22 ti3 rfl rfl rfl hlt) ?_)
      all_goals (first | refine zab rfl rfl (zaa rfl) (zam rfl ta3 rfl) ?_ | refine zab rfl rfl (zaa rfl) (zap rfl ta3 rfl rfl rfl hget rfl) ?_)
      all_goals refine zab rfl rfl (zaa rfl) (mv_s (.inl rfl) rfl) ?_
      all_goals (first | refine zbh rfl rfl (zaa rfl) (zbb rfl rfl rfl) (fun h55 => ?_) (fun h55 => ?_) | refine zbi rfl rfl (zaa rfl) (zbb rfl rfl rfl) (fun h55 => ?_) (fun h55 => ?_))
      all_goals refine zan ?_
      all_goals (repeat (first | refine zag ?_ | refine zar ?_ | refine zad ?_ | refine zas ?_ | refine zac ?_))
      all_goals (first | refine zbp rfl ?_ | refine zbm rfl ?_)
      all_goals (repeat (first | refine zag ?_ | refine zar ?_ | refine zad ?_ | refine zas ?_ | refine zac ?_))
      · rw [if_pos (by omega)] at HI
        refine zaf ?_
        refine zab rfl rfl (zaa rfl) (mv_s (.inl rfl) rfl) ?_
        refine zab rfl rfl (zaa rfl) (mv_s (.inr rfl) rfl) ?_
        refine zan ?_
        repeat (first | refine zag ?_ | refine zar ?_ | refine zad ?_ | refine zas ?_ | refine zac ?_)
        (refine zbs ?_; repeat (first | refine zb8 ?_ | refine zb9 ?_))
        exact zcm (.inr rfl) rfl (congrArg eI HI.symm)
      · rw [if_neg (by omega)] at HI
        refine zaf ?_
        refine zab rfl rfl (zaa rfl) (zb2 rfl rfl rfl (IntWalk.i64_in _ (by omega))) ?_
        refine zab rfl rfl (zaa rfl) (mv_s (.inl rfl) rfl) ?_
        refine zan ?_
        repeat (first | refine zag ?_ | refine zar ?_ | refine zad ?_ | refine zas ?_ | refine zac ?_)
        exact ⟨k + 1, ⟨by omega, HI⟩, by omega, zck [0] (by decide) ⟨⟨_, rfl, .rowE (by repeat' (first | exact Lo.s _ | exact zaj | exact zbn | refine zae ?_ ?_ | refine zbe ?_ ?_ | refine zak ?_ | refine zbo ?_ | refine Lo.cells ?_ | refine Lo.agg _ ?_ | refine Lo.sl _ ?_ | intro _)) rfl⟩, trivial⟩ ⟨.own 0 0 1 _ _ rfl rfl, .lo _ (by repeat' (first | exact Lo.s _ | exact zaj | refine zae ?_ ?_ | refine zak ?_ | refine Lo.cells ?_ | refine Lo.agg _ ?_ | refine Lo.ref _ ?_ | refine Lo.tup _ ?_ | refine Lo.fn _ _ ?_ | refine Lo.sl _ ?_ | intro _)), .lo _ (by repeat' (first | exact Lo.s _ | exact zaj | refine zae ?_ ?_ | refine zak ?_ | refine Lo.cells ?_ | refine Lo.agg _ ?_ | refine Lo.ref _ ?_ | refine Lo.tup _ ?_ | refine Lo.fn _ _ ?_ | refine Lo.sl _ ?_ | intro _)), .lo _ (by repeat' (first | exact Lo.s _ | exact zaj | refine zae ?_ ?_ | refine zak ?_ | refine Lo.cells ?_ | refine Lo.agg _ ?_ | refine Lo.ref _ ?_ | refine Lo.tup _ ?_ | refine Lo.fn _ _ ?_ | refine Lo.sl _ ?_ | intro _)), trivial⟩⟩
    · rw [show d.length - k = 0 by omega, shF] at HI
      (refine zcl ?_; repeat (first | refine ath_x ?_ | refine zci ?_ | refine zcb rfl ?_ | refine zas ?_ | refine zar ?_ | refine zag ?_ | refine zad ?_ | refine zac ?_))
      refine zaf ?_
      refine zab rfl rfl (zaa rfl) (mv_s (.inr rfl) rfl) ?_
      refine zan ?_
      repeat (first | refine zag ?_ | refine zar ?_ | refine zad ?_ | refine zas ?_ | refine zac ?_)
      (refine zbs ?_; repeat (first | refine zb8 ?_ | refine zb9 ?_))
      exact zcm (.inr rfl) rfl (congrArg eI HI.symm)
set_option maxHeartbeats 2000000 in
theorem rShort_pf (d : List Int) (l : List Sft) (c : List Int) (hd : d.length ≤ 24) (hc : okC l c) : Pure P 21 [eL eI d, eL eSh l, eL eI c] (eI (shE d l c)) := by
  have hcl := hc.1
  have hl12 := hc.2.1
  have HI : shE d l c = shF d l c d.length 0 := rfl
  generalize shE d l c = R at HI ⊢
  refine zc4 (by rw [IsP.eq (P := P)]; exact Tryz.func21) rfl rfl rfl rfl rfl (by repeat' (first | exact Lo.s _ | exact zaj | refine zae ?_ ?_ | refine zak ?_ | refine Lo.cells ?_ | refine Lo.agg _ ?_ | refine Lo.ref _ ?_ | refine Lo.tup _ ?_ | refine Lo.fn _ _ ?_ | refine Lo.sl _ ?_ | intro _)) (by repeat' (first | exact Lo.s _ | exact zaj | refine zae ?_ ?_ | refine zak ?_ | refine Lo.cells ?_ | refine Lo.agg _ ?_ | refine Lo.ref _ ?_ | refine Lo.tup _ ?_ | refine Lo.fn _ _ ?_ | refine Lo.sl _ ?_ | intro _)) (by simp only [argF]; rfl) ?_
  repeat (first | refine zag ?_ | refine zar ?_ | refine zad ?_ | refine zas ?_ | refine zac ?_)
  refine zaf ?_
  refine zab rfl rfl (zaa rfl) (mv_s (.inr rfl) rfl) ?_
  refine zan ?_
  repeat (first | refine zag ?_ | refine zar ?_ | refine zad ?_ | refine zas ?_ | refine zac ?_)
  refine zaf ?_
  refine zab rfl rfl (zaa rfl) (mv_s (.inr rfl) rfl) ?_
  refine zan ?_
  repeat (first | refine zag ?_ | refine zar ?_ | refine zad ?_ | refine zas ?_ | refine zac ?_)
  refine zcc (S := Nat) (fun k => [(0, eL eI d), (1, eL eSh l), (2, eL eI c), (7, eI k)]) (fun _ => []) (fun k => k ≤ d.length ∧ R = shF d l c (d.length - k) k) (fun k => d.length - k) 0 (zck [] (by decide) trivial ⟨.lo _ (by repeat' (first | exact Lo.s _ | exact zaj | refine zae ?_ ?_ | refine zak ?_ | refine Lo.cells ?_ | refine Lo.agg _ ?_ | refine Lo.ref _ ?_ | refine Lo.tup _ ?_ | refine Lo.fn _ _ ?_ | refine Lo.sl _ ?_ | intro _)), .lo _ (by repeat' (first | exact Lo.s _ | exact zaj | refine zae ?_ ?_ | refine zak ?_ | refine Lo.cells ?_ | refine Lo.agg _ ?_ | refine Lo.ref _ ?_ | refine Lo.tup _ ?_ | refine Lo.fn _ _ ?_ | refine Lo.sl _ ?_ | intro _)), .lo _ (by repeat' (first | exact Lo.s _ | exact zaj | refine zae ?_ ?_ | refine zak ?_ | refine Lo.cells ?_ | refine Lo.agg _ ?_ | refine Lo.ref _ ?_ | refine Lo.tup _ ?_ | refine Lo.fn _ _ ?_ | refine Lo.sl _ ?_ | intro _)), .lo _ (by repeat' (first | exact Lo.s _ | exact zaj | refine zae ?_ ?_ | refine zak ?_ | refine Lo.cells ?_ | refine Lo.agg _ ?_ | refine Lo.ref _ ?_ | refine Lo.tup _ ?_ | refine Lo.fn _ _ ?_ | refine Lo.sl _ ?_ | intro _)), trivial⟩) ⟨Nat.zero_le _, HI⟩ (fun k hk => ?_)
  obtain ⟨hk, HI⟩ := hk
  repeat (first | refine zag ?_ | refine zar ?_ | refine zad ?_ | refine zas ?_ | refine zac ?_)
  all_goals refine zaf ?_
  all_goals refine zab rfl rfl (zaa rfl) (mv_s (.inl rfl) rfl) ?_
  all_goals (first | refine zab rfl rfl (zaa rfl) (za6 (.inl rfl) rfl) ?_ | refine zab rfl rfl (zaa rfl) (zbg (.inl rfl) rfl) ?_ | refine zab rfl rfl (zaa rfl) (mv_s (.inl rfl) rfl) ?_ | refine zab rfl rfl (zaa rfl) (za7 (.inl rfl) rfl) ?_)
  all_goals (first | refine zab rfl rfl (zaa rfl) (za4 rfl ts22 rfl) ?_ | refine zab rfl rfl (zaa rfl) (za8 rfl ts22 rfl) ?_ | refine zab rfl rfl (zaa rfl) (za2 rfl ts22 rfl) ?_ | refine zab rfl rfl (zaa rfl) (zbc rfl ts22 rfl) ?_ | refine zab rfl rfl (zaa rfl) (za3 rfl ts22 rfl) ?_)
  all_goals (first | refine zbh rfl rfl (zaa rfl) (zbb rfl rfl rfl) (fun h13 => ?_) (fun h13 => ?_) | refine zbi rfl rfl (zaa rfl) (zbb rfl rfl rfl) (fun h13 => ?_) (fun h13 => ?_))
  all_goals refine zan ?_
  all_goals (repeat (first | refine zag ?_ | refine zar ?_ | refine zad ?_ | refine zas ?_ | refine zac ?_))
  all_goals (first | refine zbp rfl ?_ | refine zbm rfl ?_)
  all_goals (repeat (first | refine zag ?_ | refine zar ?_ | refine zad ?_ | refine zas ?_ | refine zac ?_))
  · have hlt : k < d.length := by omega
    rw [show d.length - k = (d.length - (k + 1)) + 1 by omega, shF] at HI
    refine zaf ?_
    refine zab rfl rfl (zaa rfl) (mv_s (.inr rfl) rfl) ?_
    refine zan ?_
    repeat (first | refine zag ?_ | refine zar ?_ | refine zad ?_ | refine zas ?_ | refine zac ?_)
    refine zaf ?_
    refine zab rfl rfl (zaa rfl) (mv_s (.inr rfl) rfl) ?_
    refine zan ?_
    repeat (first | refine zag ?_ | refine zar ?_ | refine zad ?_ | refine zas ?_ | refine zac ?_)
    refine zcc (S := Nat) (fun i => [(0, eL eI d), (1, eL eSh l), (2, eL eI c), (7, eI k), (8, eI (cvP l c i k)), (9, eI i)]) (fun _ => []) (fun i => i ≤ l.length) (fun i => l.length - i) 0 (zck [] (by decide) trivial ⟨.lo _ (by repeat' (first | exact Lo.s _ | exact zaj | refine zae ?_ ?_ | refine zak ?_ | refine Lo.cells ?_ | refine Lo.agg _ ?_ | refine Lo.ref _ ?_ | refine Lo.tup _ ?_ | refine Lo.fn _ _ ?_ | refine Lo.sl _ ?_ | intro _)), .lo _ (by repeat' (first | exact Lo.s _ | exact zaj | refine zae ?_ ?_ | refine zak ?_ | refine Lo.cells ?_ | refine Lo.agg _ ?_ | refine Lo.ref _ ?_ | refine Lo.tup _ ?_ | refine Lo.fn _ _ ?_ | refine Lo.sl _ ?_ | intro _)), .lo _ (by repeat' (first | exact Lo.s _ | exact zaj | refine zae ?_ ?_ | refine zak ?_ | refine Lo.cells ?_ | refine Lo.agg _ ?_ | refine Lo.ref _ ?_ | refine Lo.tup _ ?_ | refine Lo.fn _ _ ?_ | refine Lo.sl _ ?_ | intro _)), .lo _ (by repeat' (first | exact Lo.s _ | exact zaj | refine zae ?_ ?_ | refine zak ?_ | refine Lo.cells ?_ | refine Lo.agg _ ?_ | refine Lo.ref _ ?_ | refine Lo.tup _ ?_ | refine Lo.fn _ _ ?_ | refine Lo.sl _ ?_ | intro _)), .lo _ (by repeat' (first | exact Lo.s _ | exact zaj | refine zae ?_ ?_ | refine zak ?_ | refine Lo.cells ?_ | refine Lo.agg _ ?_ | refine Lo.ref _ ?_ | refine Lo.tup _ ?_ | refine Lo.fn _ _ ?_ | refine Lo.sl _ ?_ | intro _)), .lo _ (by repeat' (first | exact Lo.s _ | exact zaj | refine zae ?_ ?_ | refine zak ?_ | refine Lo.cells ?_ | refine Lo.agg _ ?_ | refine Lo.ref _ ?_ | refine Lo.tup _ ?_ | refine Lo.fn _ _ ?_ | refine Lo.sl _ ?_ | intro _)), trivial⟩) (Nat.zero_le _) (fun i hi => ?_)
    repeat (first | refine zag ?_ | refine zar ?_ | refine zad ?_ | refine zas ?_ | refine zac ?_)
    have hbd := cvP_bd hc k i hi
    all_goals refine zaf ?_
    all_goals refine zab rfl rfl (zaa rfl) (mv_s (.inl rfl) rfl) ?_
    all_goals (first | refine zab rfl rfl (zaa rfl) (za6 (.inl rfl) rfl) ?_ | refine zab rfl rfl (zaa rfl) (zbg (.inl rfl) rfl) ?_ | refine zab rfl rfl (zaa rfl) (mv_s (.inl rfl) rfl) ?_ | refine zab rfl rfl (zaa rfl) (za7 (.inl rfl) rfl) ?_)
    all_goals (first | refine zab rfl rfl (zaa rfl) (za4 rfl ts23 rfl) ?_ | refine zab rfl rfl (zaa rfl) (za8 rfl ts23 rfl) ?_ | refine zab rfl rfl (zaa rfl) (za2 rfl ts23 rfl) ?_ | refine zab rfl rfl (zaa rfl) (zbc rfl ts23 rfl) ?_ | refine zab rfl rfl (zaa rfl) (za3 rfl ts23 rfl) ?_)
    all_goals (first | refine zbh rfl rfl (zaa rfl) (zbb rfl rfl rfl) (fun h19 => ?_) (fun h19 => ?_) | refine zbi rfl rfl (zaa rfl) (zbb rfl rfl rfl) (fun h19 => ?_) (fun h19 => ?_))
    all_goals refine zan ?_
    all_goals (repeat (first | refine zag ?_ | refine zar ?_ | refine zad ?_ | refine zas ?_ | refine zac ?_))
    all_goals (first | refine zbp rfl ?_ | refine zbm rfl ?_)
    all_goals (repeat (first | refine zag ?_ | refine zar ?_ | refine zad ?_ | refine zas ?_ | refine zac ?_))
    · have hlt2 : i < l.length := by omega
      have hcb := hc.2.2 i hlt2
      have hnx : cvP l c (i + 1) k = cvP l c i k + if inB (gti l i).pd k = true then gti c i else 0 := rfl
      have hin := in_pf (P := P) (gti l i) k
      all_goals refine zaf ?_
      all_goals (first | refine zab rfl rfl (zaa rfl) (za6 (.inl rfl) rfl) ?_ | refine zab rfl rfl (zaa rfl) (zbg (.inl rfl) rfl) ?_ | refine zab rfl rfl (zaa rfl) (mv_s (.inl rfl) rfl) ?_ | refine zab rfl rfl (zaa rfl) (za7 (.inl rfl) rfl) ?_)
      all_goals refine zab rfl rfl (zaa rfl) (mv_s (.inl rfl) rfl) ?_
      all_goals (first | refine zab rfl rfl (zaa rfl) (za1 rfl ts23 ti36 rfl rfl rfl (zb5 (by omega)) rfl) ?_ | refine zab rfl rfl (zaa rfl) (zay rfl ts23 ti36 rfl rfl rfl (by omega)) ?_)
      all_goals (first | refine zab rfl rfl (zaa rfl) (za0 rfl ta36 ti36 rfl rfl) ?_ | refine zab rfl rfl (zaa rfl) (za9 rfl ta36 ti36 rfl rfl rfl rfl rfl) ?_ | refine zab rfl rfl (zaa rfl) (zaz rfl ta36 ti36 rfl (Nat.le_of_ble_eq_true rfl)) ?_ | refine zab rfl rfl (zaa rfl) (zba rfl ta36 ti36 rfl rfl rfl rfl (Nat.le_of_ble_eq_true rfl)) ?_)
      all_goals refine zab rfl rfl (zaa rfl) (mv_s (.inl rfl) rfl) ?_
      all_goals (first | refine zbh rfl rfl (zaa rfl) (za5 rfl rfl (hin) (zau rfl (zau rfl zbj))) (fun h27 => ?_) (fun h27 => ?_) | refine zbi rfl rfl (zaa rfl) (za5 rfl rfl (hin) (zau rfl (zau rfl zbj))) (fun h27 => ?_) (fun h27 => ?_))
      all_goals refine zan ?_
      all_goals (repeat (first | refine zag ?_ | refine zar ?_ | refine zad ?_ | refine zas ?_ | refine zac ?_))
      all_goals (first | refine zbp rfl ?_ | refine zbm rfl ?_)
      all_goals (repeat (first | refine zag ?_ | refine zar ?_ | refine zad ?_ | refine zas ?_ | refine zac ?_))
      · rw [if_pos h27] at hnx
        refine zaf ?_
        refine zab rfl rfl (zaa rfl) (mv_s (.inl rfl) rfl) ?_
        first | refine zab rfl rfl (zaa rfl) (za6 (.inl rfl) rfl) ?_ | refine zab rfl rfl (zaa rfl) (zbg (.inl rfl) rfl) ?_ | refine zab rfl rfl (zaa rfl) (mv_s (.inl rfl) rfl) ?_ | refine zab rfl rfl (zaa rfl) (za7 (.inl rfl) rfl) ?_
        refine zab rfl rfl (zaa rfl) (mv_s (.inl rfl) rfl) ?_
        first | refine zab rfl rfl (zaa rfl) (za1 rfl ts22 ti3 rfl rfl rfl (zb5 (by omega)) rfl) ?_ | refine zab rfl rfl (zaa rfl) (zay rfl ts22 ti3 rfl rfl rfl (by omega)) ?_
        first | refine zab rfl rfl (zaa rfl) (zam rfl ta3 rfl) ?_ | refine zab rfl rfl (zaa rfl) (zap rfl ta3 rfl rfl rfl rfl rfl) ?_
        refine zab rfl rfl (zaa rfl) (zb2 rfl rfl rfl (IntWalk.i64_in _ (by omega))) ?_
        refine zab rfl rfl (zaa rfl) (mv_s (.inr rfl) rfl) ?_
        refine zan ?_
        repeat (first | refine zag ?_ | refine zar ?_ | refine zad ?_ | refine zas ?_ | refine zac ?_)
        refine zaf ?_
        refine zab rfl rfl (zaa rfl) (mv_s (.inl rfl) rfl) ?_
        refine zab rfl rfl (zaa rfl) (zb2 rfl rfl rfl (IntWalk.i64_in _ (by omega))) ?_
        refine zab rfl rfl (zaa rfl) (mv_s (.inr rfl) rfl) ?_
        refine zan ?_
        repeat (first | refine zag ?_ | refine zar ?_ | refine zad ?_ | refine zas ?_ | refine zac ?_)
        rw [← hnx]
        exact ⟨i + 1, by omega, by omega, zck [] (by decide) trivial ⟨.lo _ (by repeat' (first | exact Lo.s _ | exact zaj | refine zae ?_ ?_ | refine zak ?_ | refine Lo.cells ?_ | refine Lo.agg _ ?_ | refine Lo.ref _ ?_ | refine Lo.tup _ ?_ | refine Lo.fn _ _ ?_ | refine Lo.sl _ ?_ | intro _)), .lo _ (by repeat' (first | exact Lo.s _ | exact zaj | refine zae ?_ ?_ | refine zak ?_ | refine Lo.cells ?_ | refine Lo.agg _ ?_ | refine Lo.ref _ ?_ | refine Lo.tup _ ?_ | refine Lo.fn _ _ ?_ | refine Lo.sl _ ?_ | intro _)), .lo _ (by repeat' (first | exact Lo.s _ | exact zaj | refine zae ?_ ?_ | refine zak ?_ | refine Lo.cells ?_ | refine Lo.agg _ ?_ | refine Lo.ref _ ?_ | refine Lo.tup _ ?_ | refine Lo.fn _ _ ?_ | refine Lo.sl _ ?_ | intro _)), .lo _ (by repeat' (first | exact Lo.s _ | exact zaj | refine zae ?_ ?_ | refine zak ?_ | refine Lo.cells ?_ | refine Lo.agg _ ?_ | refine Lo.ref _ ?_ | refine Lo.tup _ ?_ | refine Lo.fn _ _ ?_ | refine Lo.sl _ ?_ | intro _)), .lo _ (by repeat' (first | exact Lo.s _ | exact zaj | refine zae ?_ ?_ | refine zak ?_ | refine Lo.cells ?_ | refine Lo.agg _ ?_ | refine Lo.ref _ ?_ | refine Lo.tup _ ?_ | refine Lo.fn _ _ ?_ | refine Lo.sl _ ?_ | intro _)), .lo _ (by repeat' (first | exact Lo.s _ | exact zaj | refine zae ?_ ?_ | refine zak ?_ | refine Lo.cells ?_ | refine Lo.agg _ ?_ | refine Lo.ref _ ?_ | refine Lo.tup _ ?_ | refine Lo.fn _ _ ?_ | refine Lo.sl _ ?_ | intro _)), trivial⟩⟩
      · rw [if_neg (by rw [h27]; simp), Int.add_zero] at hnx
        refine zaf ?_
        refine zab rfl rfl (zaa rfl) (mv_s (.inl rfl) rfl) ?_
        refine zab rfl rfl (zaa rfl) (zb2 rfl rfl rfl (IntWalk.i64_in _ (by omega))) ?_
        refine zab rfl rfl (zaa rfl) (mv_s (.inr rfl) rfl) ?_
        refine zan ?_
        repeat (first | refine zag ?_ | refine zar ?_ | refine zad ?_ | refine zas ?_ | refine zac ?_)
        rw [← hnx]
        exact ⟨i + 1, by omega, by omega, zck [] (by decide) trivial ⟨.lo _ (by repeat' (first | exact Lo.s _ | exact zaj | refine zae ?_ ?_ | refine zak ?_ | refine Lo.cells ?_ | refine Lo.agg _ ?_ | refine Lo.ref _ ?_ | refine Lo.tup _ ?_ | refine Lo.fn _ _ ?_ | refine Lo.sl _ ?_ | intro _)), .lo _ (by repeat' (first | exact Lo.s _ | exact zaj | refine zae ?_ ?_ | refine zak ?_ | refine Lo.cells ?_ | refine Lo.agg _ ?_ | refine Lo.ref _ ?_ | refine Lo.tup _ ?_ | refine Lo.fn _ _ ?_ | refine Lo.sl _ ?_ | intro _)), .lo _ (by repeat' (first | exact Lo.s _ | exact zaj | refine zae ?_ ?_ | refine zak ?_ | refine Lo.cells ?_ | refine Lo.agg _ ?_ | refine Lo.ref _ ?_ | refine Lo.tup _ ?_ | refine Lo.fn _ _ ?_ | refine Lo.sl _ ?_ | intro _)), .lo _ (by repeat' (first | exact Lo.s _ | exact zaj | refine zae ?_ ?_ | refine zak ?_ | refine Lo.cells ?_ | refine Lo.agg _ ?_ | refine Lo.ref _ ?_ | refine Lo.tup _ ?_ | refine Lo.fn _ _ ?_ | refine Lo.sl _ ?_ | intro _)), .lo _ (by repeat' (first | exact Lo.s _ | exact zaj | refine zae ?_ ?_ | refine zak ?_ | refine Lo.cells ?_ | refine Lo.agg _ ?_ | refine Lo.ref _ ?_ | refine Lo.tup _ ?_ | refine Lo.fn _ _ ?_ | refine Lo.sl _ ?_ | intro _)), .lo _ (by repeat' (first | exact Lo.s _ | exact zaj | refine zae ?_ ?_ | refine zak ?_ | refine Lo.cells ?_ | refine Lo.agg _ ?_ | refine Lo.ref _ ?_ | refine Lo.tup _ ?_ | refine Lo.fn _ _ ?_ | refine Lo.sl _ ?_ | intro _)), trivial⟩⟩
    · have e : i = l.length := by omega
      subst e
      (refine zcl ?_; repeat (first | refine ath_x ?_ | refine zci ?_ | refine zcb rfl ?_ | refine zas ?_ | refine zar ?_ | refine zag ?_ | refine zad ?_ | refine zac ?_))
      all_goals refine zaf ?_
      all_goals refine zab rfl rfl (zaa rfl) (mv_s (.inl rfl) rfl) ?_
      all_goals (first | refine zab rfl rfl (zaa rfl) (za6 (.inl rfl) rfl) ?_ | refine zab rfl rfl (zaa rfl) (zbg (.inl rfl) rfl) ?_ | refine zab rfl rfl (zaa rfl) (mv_s (.inl rfl) rfl) ?_ | refine zab rfl rfl (zaa rfl) (za7 (.inl rfl) rfl) ?_)
      all_goals refine zab rfl rfl (zaa rfl) (mv_s (.inl rfl) rfl) ?_
      all_goals (first | refine zab rfl rfl (zaa rfl) (za1 rfl ts22 ti3 rfl rfl rfl (zb5 (by omega)) rfl) ?_ | refine zab rfl rfl (zaa rfl) (zay rfl ts22 ti3 rfl rfl rfl (by omega)) ?_)
      all_goals (first | refine zab rfl rfl (zaa rfl) (zam rfl ta3 rfl) ?_ | refine zab rfl rfl (zaa rfl) (zap rfl ta3 rfl rfl rfl rfl rfl) ?_)
      all_goals (first | refine zbh rfl rfl (zaa rfl) (zbb rfl rfl rfl) (fun h39 => ?_) (fun h39 => ?_) | refine zbi rfl rfl (zaa rfl) (zbb rfl rfl rfl) (fun h39 => ?_) (fun h39 => ?_))
      all_goals refine zan ?_
      all_goals (repeat (first | refine zag ?_ | refine zar ?_ | refine zad ?_ | refine zas ?_ | refine zac ?_))
      all_goals (first | refine zbp rfl ?_ | refine zbm rfl ?_)
      all_goals (repeat (first | refine zag ?_ | refine zar ?_ | refine zad ?_ | refine zas ?_ | refine zac ?_))
      · rw [if_pos (by omega)] at HI
        refine zaf ?_
        refine zab rfl rfl (zaa rfl) (mv_s (.inl rfl) rfl) ?_
        refine zab rfl rfl (zaa rfl) (mv_s (.inr rfl) rfl) ?_
        refine zan ?_
        repeat (first | refine zag ?_ | refine zar ?_ | refine zad ?_ | refine zas ?_ | refine zac ?_)
        (refine zbs ?_; repeat (first | refine zb8 ?_ | refine zb9 ?_))
        exact zcm (.inr rfl) rfl (congrArg eI HI.symm)
      · rw [if_neg (by omega)] at HI
        refine zaf ?_
        refine zab rfl rfl (zaa rfl) (mv_s (.inl rfl) rfl) ?_
        refine zab rfl rfl (zaa rfl) (zb2 rfl rfl rfl (IntWalk.i64_in _ (by omega))) ?_
        refine zab rfl rfl (zaa rfl) (mv_s (.inr rfl) rfl) ?_
        refine zan ?_
        repeat (first | refine zag ?_ | refine zar ?_ | refine zad ?_ | refine zas ?_ | refine zac ?_)
        exact ⟨k + 1, ⟨by omega, HI⟩, by omega, zck [] (by decide) trivial ⟨.lo _ (by repeat' (first | exact Lo.s _ | exact zaj | refine zae ?_ ?_ | refine zak ?_ | refine Lo.cells ?_ | refine Lo.agg _ ?_ | refine Lo.ref _ ?_ | refine Lo.tup _ ?_ | refine Lo.fn _ _ ?_ | refine Lo.sl _ ?_ | intro _)), .lo _ (by repeat' (first | exact Lo.s _ | exact zaj | refine zae ?_ ?_ | refine zak ?_ | refine Lo.cells ?_ | refine Lo.agg _ ?_ | refine Lo.ref _ ?_ | refine Lo.tup _ ?_ | refine Lo.fn _ _ ?_ | refine Lo.sl _ ?_ | intro _)), .lo _ (by repeat' (first | exact Lo.s _ | exact zaj | refine zae ?_ ?_ | refine zak ?_ | refine Lo.cells ?_ | refine Lo.agg _ ?_ | refine Lo.ref _ ?_ | refine Lo.tup _ ?_ | refine Lo.fn _ _ ?_ | refine Lo.sl _ ?_ | intro _)), .lo _ (by repeat' (first | exact Lo.s _ | exact zaj | refine zae ?_ ?_ | refine zak ?_ | refine Lo.cells ?_ | refine Lo.agg _ ?_ | refine Lo.ref _ ?_ | refine Lo.tup _ ?_ | refine Lo.fn _ _ ?_ | refine Lo.sl _ ?_ | intro _)), trivial⟩⟩
  · rw [show d.length - k = 0 by omega, shF] at HI
    (refine zcl ?_; repeat (first | refine ath_x ?_ | refine zci ?_ | refine zcb rfl ?_ | refine zas ?_ | refine zar ?_ | refine zag ?_ | refine zad ?_ | refine zac ?_))
    refine zaf ?_
    refine zab rfl rfl (zaa rfl) (mv_s (.inr rfl) rfl) ?_
    refine zan ?_
    repeat (first | refine zag ?_ | refine zar ?_ | refine zad ?_ | refine zas ?_ | refine zac ?_)
    (refine zbs ?_; repeat (first | refine zb8 ?_ | refine zb9 ?_))
    exact zcm (.inr rfl) rfl (congrArg eI HI.symm)
end Go.Proofs.YtmoipmnhgdmkpaaGreat.Aw
end
section
namespace Go.Proofs.YtmoipmnhgdmkpaaGreat.Aw
set_option linter.unusedSimpArgs false
set_option linter.unusedVariables false
open Go.RowKit
def RnL (ρ : List Nat) (l l' : List AV) : Prop := l.length = l'.length ∧ ∀ (j : Nat) x y, l[j]? = some x → l'[j]? = some y → Rn ρ x y
theorem RnL.nil {ρ : List Nat} : RnL ρ [] [] := ⟨rfl, by simp⟩
theorem RnL.cons {ρ : List Nat} {x y : AV} {l l' : List AV} (h : Rn ρ x y) (t : RnL ρ l l') : RnL ρ (x :: l) (y :: l') := by
  refine ⟨by simp [t.1], fun j a b ha hb => ?_⟩
  cases j with
  | zero => simp at ha hb; subst ha hb; exact h
  | succ j => exact t.2 j a b (by simpa using ha) (by simpa using hb)
/-- a struct of the call's own that names rows of the call's own -/
theorem obRn_agg {ρ : List Nat} {sz : Nat} {cs cs' : List AV} (h : RnL ρ cs cs') : ObRn ρ (.row sz [.agg cs]) (.row sz [.agg cs']) := .rowR sz _ _ (.agg cs cs' h.1 h.2) h.2 h.1
section
variable {N : Nat} {F F' : Frm} {σ σ' : List Ob}
/-- a row is read in another way -/
theorem reread_rel {G : Cx} {id sz : Nat} {cs cs' : List AV} (hr : Rel G σ) (hs : σ[id]? = some (.row sz cs)) (h0 : cs = [] → cs' = []) (h : ∀ b f, RowAt G b sz cs f → RowAt G b sz cs' f) : Rel G (σ.set id (.row sz cs')) := by
  have hid : id < σ.length := (List.getElem?_eq_some_iff.1 hs).1
  refine ⟨hr.below, hr.le, hr.st, fun i ob hob => ?_, fun i j b hi hj hm hm' => ?_, fun i hi => hr.fresh i (by simpa using hi)⟩
  · by_cases hi : id = i
    · subst hi
      rw [List.getElem?_set_self hid] at hob
      cases hob
      have h1 := hr.obs id _ hs
      simp only [ObOk] at h1 ⊢
      cases hx : G.mu id with
      | none => rw [hx] at h1; exact h1
      | some x =>
        rw [hx] at h1
        cases x with
        | none => exact h0 h1
        | some b => exact ⟨h b _ h1.1, h1.2⟩
    · rw [List.getElem?_set_ne hi] at hob; exact hr.obs i ob hob
  · have old : ∀ i, alive (σ.set id (.row sz cs')) i → alive σ i := by
      rintro i ⟨sz1, cs1, hi⟩
      by_cases h2 : id = i
      · subst h2; exact ⟨sz, cs, hs⟩
      · rw [List.getElem?_set_ne h2] at hi; exact ⟨sz1, cs1, hi⟩
    exact hr.inj i j b (old i hi) (old j hj) hm hm'
/-- nil in a struct of the call's own, as an empty row of the call's own -/
theorem wk_ownC {id sz sz2 : Nat} {e e' : AV} {pre post : List AV} (hs : σ[id]? = some (.row sz [e])) (h1 : e.cells = pre ++ .s (.slice none 0 0) :: post) (h2 : e'.cells = pre ++ .own σ.length sz2 0 :: post) :
    Weak N F σ F (σ.set id (.row sz [e']) ++ [.row sz2 []]) := fun G a h => by
  have he := nil_ext h.rel
  have hr := nil_rel h.rel sz2
  have hid : id < σ.length := (List.getElem?_eq_some_iff.1 hs).1
  refine ⟨G.new σ.length G.w none, rfl, he.step, ?_, h.fr.ext he, h.df, h.nt⟩
  have hset : σ.set id (Ob.row sz [e']) ++ [Ob.row sz2 []] = (σ ++ [Ob.row sz2 []]).set id (Ob.row sz [e']) := by rw [List.set_append_left _ _ hid]
  rw [hset]
  refine reread_rel hr (by rw [List.getElem?_append_left hid]; exact hs) (fun h => by cases h) ?_
  rintro b f ⟨cur, t, fr, g1, g2, g3, g4⟩
  refine ⟨cur, t, fr, g1, g2, g3, fun k y hy => ?_⟩
  cases k with
  | succ k => simp at hy
  | zero =>
    simp at hy
    subst hy
    obtain ⟨k1, k2, k3⟩ := g4 0 e rfl
    rw [h1] at k1 k2 k3
    rw [h2]
    refine ⟨by simpa using k1, fun c hc => ?_, fun j c hc => ?_⟩
    · simp only [List.mem_append, List.mem_cons] at hc
      rcases hc with hc | rfl | hc
      · exact k2 c (by simp [hc])
      · rfl
      · exact k2 c (by simp [hc])
    · by_cases hj : j = pre.length
      · subst hj
        simp at hc
        subst hc
        obtain ⟨v, h6, h7⟩ := k3 pre.length (.s (.slice none 0 0)) (by simp)
        refine ⟨v, h6, ?_⟩
        cases h7
        exact .own0 σ.length sz2 none (fun a ha => by cases ha) (by simp [Cx.new])
      · have e : (pre ++ AV.s (.slice none 0 0) :: post)[j]? = some c := by
          rw [← hc]
          by_cases hlt : j < pre.length
          · rw [List.getElem?_append_left hlt, List.getElem?_append_left hlt]
          · rw [List.getElem?_append_right (by omega), List.getElem?_append_right (by omega)]
            obtain ⟨i, hi⟩ : ∃ i, j - pre.length = i + 1 := ⟨j - pre.length - 1, by omega⟩
            rw [hi]; rfl
        exact k3 j c e
end
section
variable {P : Program} {o : Oper} {F : Frm} {σ : List Ob}
/-- a new row that is finished at once -/
theorem does_fin {sz n : Nat} {l : List AV} (h : Does P o F [] (.own 0 sz n) [.row sz l]) (hn : n = l.length) (hop0 : ∀ y ∈ o.op.operands, Lo 0 (F.eval y)) (hlo : Lo 0 (.sl l)) : Does P o F σ (.sl l) σ := by
  intro G a next Q hr hop hk
  obtain ⟨G0, hG0⟩ : ∃ G0 : Cx, G0 = { base := G.w.heap.size, w0 := G.w, w := G.w, mu := fun _ => none, St := G.St } := ⟨_, rfl⟩
  have hr0 : Rel G0 [] := by
    subst hG0
    exact ⟨Below.refl _ _, Nat.le_refl _, hr.st, fun id ob h => by simp at h, fun i j b hi _ _ _ => by obtain ⟨_, _, h⟩ := hi; simp at h, fun _ _ => rfl⟩
  have hw : G.w = G0.w := by subst hG0; rfl
  rw [hw]
  refine h G0 a next Q hr0 (fun y hy => (hop y hy).low (hop0 y hy) (by subst hG0; exact fun _ _ h => h) (by subst hG0; exact fun _ _ _ => rfl) (fun id y h => by omega) (fun h => by omega)) (fun v G1 he hr1 hrep => ?_)
  obtain ⟨he2, hr2⟩ := froz_ok hr1 (id := 0) (sz := sz) (cs := l) rfl
  have hrep2 := rep_fz hr2 (id := 0) (sz := sz) (cs := l) rfl hn (hrep.ext he2)
  have hb0 : G1.base = G.w.heap.size := by rw [he.base]; subst hG0; rfl
  have hw0 : (G1.froz 0).w0 = G.w := by show G1.w0 = _; rw [he.w0]; subst hG0; rfl
  have hbel : Below G.w.heap.size G.w (G1.froz 0).w := by have := hr2.below; rwa [show (G1.froz 0).base = G.w.heap.size from hb0, hw0] at this
  have hSt : G0.St = G.St := by subst hG0; rfl
  obtain ⟨h4, h5⟩ := after_call (G1 := G1.froz 0) hr rfl hbel (fun b o h => he2.st _ _ (he.st _ _ (by rw [hSt]; exact h))) (fun b o h => by
    rcases he2.stN b o h with h1 | h1
    · rcases he.stN b o h1 with h2 | h2
      · rw [hSt] at h2; exact .inl h2
      · right; have e : G0.base = G.w.heap.size := by subst hG0; rfl
        omega
    · right; omega) hr2.st
  exact hk v { G with w := (G1.froz 0).w, St := (G1.froz 0).St } h4 h5 (hrep2.low hlo (fun _ _ h => h) (fun _ _ _ => rfl) (fun id y h => by omega) (fun h => by omega))
theorem lit1_sF {t e : TypeId} {y : Operand} {z : Value} {bt : Nat} {v : Value} (ho : o.op = .buildSlice t 1 #[(0, y)]) (ht : zbu P t = some e) (hi : zb3 P e = some (some z, 1, bt))
    (h1 : (ofValue z).cells.all AV.one = true) (hn : (ofValue z).cells.length = 1) (hy : F.eval y = .s v) (hx : (AV.s v).one = true) : Does P o F σ (.sl [.s v]) σ :=
  does_fin (lit1_s ho ht hi h1 hn hy hx) rfl (fun u hu => by simp [ho, Op.operands] at hu; subst hu; rw [hy]; exact .s _) (.sl _ (zae (.s _) zaj))
theorem lit1_slF {t e : TypeId} {y : Operand} {z : Value} {bt : Nat} {l : List AV} (ho : o.op = .buildSlice t 1 #[(0, y)]) (ht : zbu P t = some e) (hi : zb3 P e = some (some z, 1, bt))
    (h1 : (ofValue z).cells.all AV.one = true) (hn : (ofValue z).cells.length = 1) (hy : F.eval y = .sl l) (hx : (AV.sl l).one = true) (hl : Lo 0 (.sl l)) : Does P o F σ (.sl [.sl l]) σ :=
  does_fin (lit1_sl ho ht hi h1 hn hy hx) rfl (fun u hu => by simp [ho, Op.operands] at hu; subst hu; rw [hy]; exact hl) (.sl _ (zae hl zaj))
theorem zdl {t e : TypeId} {y : Operand} {z : Value} {n bt : Nat} {cs : List AV} (ho : o.op = .buildSlice t 1 #[(0, y)]) (ht : zbu P t = some e) (hi : zb3 P e = some (some z, n, bt))
    (h1 : (ofValue z).cells.all AV.one = true) (hn : (ofValue z).cells.length = n) (h2 : 2 ≤ n) (hsm : n ≤ 16777216) (hy : F.eval y = .agg cs) (hx : cs.all AV.one = true) (hl : cs.length = n) (hlo : Lo 0 (.agg cs)) : Does P o F σ (.sl [.agg cs]) σ :=
  does_fin (does_litA ho ht hi h1 hn h2 hsm hy hx hl) rfl (fun u hu => by simp [ho, Op.operands] at hu; subst hu; rw [hy]; exact hlo) (.sl _ (zae hlo zaj))
end
section
variable {P : Program} {F : Frm} {σ : List Ob}
end
end Go.Proofs.YtmoipmnhgdmkpaaGreat.Aw
end
section
namespace Go.Proofs.YtmoipmnhgdmkpaaGreat.Aw
set_option linter.unusedSimpArgs false
set_option linter.unusedVariables false
set_option linter.unusedSectionVars false
open Go.RowKit Go.Proofs
variable {P : Program} [IsP P]

def mostL (l : List Sft) : List Int := l.map Sft.most
theorem mostL_len (l : List Sft) : (mostL l).length = l.length := by simp [mostL]
theorem mostL_gti {l : List Sft} {k : Nat} (h : k < l.length) : gti (mostL l) k = (gti l k).most := by
  have h1 : (mostL l)[k]? = some (gti l k).most := by
    unfold mostL
    rw [List.getElem?_map, zdj h]; rfl
  unfold gti at *
  rw [h1]; rfl
set_option maxHeartbeats 1000000 in
theorem most_pf (l : List Sft) (hl : l.length ≤ 12) : Pure P 25 [eL eSh l] (eL eI (mostL l)) := by
  refine zc4 (by rw [IsP.eq (P := P)]; exact Tryz.func25) rfl rfl rfl rfl rfl (by repeat' (first | exact Lo.s _ | exact zaj | refine zae ?_ ?_ | refine zak ?_ | refine Lo.cells ?_ | refine Lo.agg _ ?_ | refine Lo.ref _ ?_ | refine Lo.tup _ ?_ | refine Lo.fn _ _ ?_ | refine Lo.sl _ ?_ | intro _)) (by repeat' (first | exact Lo.s _ | exact zaj | refine zae ?_ ?_ | refine zak ?_ | refine Lo.cells ?_ | refine Lo.agg _ ?_ | refine Lo.ref _ ?_ | refine Lo.tup _ ?_ | refine Lo.fn _ _ ?_ | refine Lo.sl _ ?_ | intro _)) (by simp only [argF]; rfl) ?_
  repeat (first | refine zag ?_ | refine zar ?_ | refine zad ?_ | refine zas ?_ | refine zac ?_)
  refine zaf ?_
  first | refine zab rfl rfl (zaa rfl) (za6 (.inr rfl) rfl) ?_ | refine zab rfl rfl (zaa rfl) (zbg (.inr rfl) rfl) ?_ | refine zab rfl rfl (zaa rfl) (mv_s (.inr rfl) rfl) ?_ | refine zab rfl rfl (zaa rfl) (za7 (.inr rfl) rfl) ?_
  refine zan ?_
  repeat (first | refine zag ?_ | refine zar ?_ | refine zad ?_ | refine zas ?_ | refine zac ?_)
  refine zaf ?_
  refine zab rfl rfl (zaa rfl) (does_lit0 rfl rfl ts22 ti3) ?_
  first | refine zab rfl rfl (zaa rfl) (za6 (.inr rfl) rfl) ?_ | refine zab rfl rfl (zaa rfl) (zbg (.inr rfl) rfl) ?_ | refine zab rfl rfl (zaa rfl) (mv_s (.inr rfl) rfl) ?_ | refine zab rfl rfl (zaa rfl) (za7 (.inr rfl) rfl) ?_
  refine zan ?_
  repeat (first | refine zag ?_ | refine zar ?_ | refine zad ?_ | refine zas ?_ | refine zac ?_)
  refine zaf ?_
  first | refine zab rfl rfl (zaa rfl) (za6 (.inl rfl) rfl) ?_ | refine zab rfl rfl (zaa rfl) (zbg (.inl rfl) rfl) ?_ | refine zab rfl rfl (zaa rfl) (mv_s (.inl rfl) rfl) ?_ | refine zab rfl rfl (zaa rfl) (za7 (.inl rfl) rfl) ?_
  first | refine zab rfl rfl (zaa rfl) (za4 rfl ts23 rfl) ?_ | refine zab rfl rfl (zaa rfl) (za8 rfl ts23 rfl) ?_ | refine zab rfl rfl (zaa rfl) (za2 rfl ts23 rfl) ?_ | refine zab rfl rfl (zaa rfl) (zbc rfl ts23 rfl) ?_ | refine zab rfl rfl (zaa rfl) (za3 rfl ts23 rfl) ?_
  refine zab rfl rfl (zaa rfl) (mv_s (.inl rfl) rfl) ?_
  refine zan ?_
  repeat (first | refine zag ?_ | refine zar ?_ | refine zad ?_ | refine zas ?_ | refine zac ?_)
  refine zca (wk_own (d := 3) 1 rfl (.inl rfl)) ?_
  refine zcc (S := Nat) (fun k => [(7, eL eSh l), (8, eI l.length), (9, eI k), (3, .own 0 1 k)]) (fun k => [.row 1 (((mostL l).take k).map eI)]) (fun k => k ≤ l.length) (fun k => l.length - k) 0 (zck [0] (by decide) ⟨⟨_, rfl, .rowE (by repeat' (first | exact Lo.s _ | exact zaj | exact zbn | refine zae ?_ ?_ | refine zbe ?_ ?_ | refine zak ?_ | refine zbo ?_ | refine Lo.cells ?_ | refine Lo.agg _ ?_ | refine Lo.sl _ ?_ | intro _)) rfl⟩, trivial⟩ ⟨.lo _ (by repeat' (first | exact Lo.s _ | exact zaj | refine zae ?_ ?_ | refine zak ?_ | refine Lo.cells ?_ | refine Lo.agg _ ?_ | refine Lo.ref _ ?_ | refine Lo.tup _ ?_ | refine Lo.fn _ _ ?_ | refine Lo.sl _ ?_ | intro _)), .lo _ (by repeat' (first | exact Lo.s _ | exact zaj | refine zae ?_ ?_ | refine zak ?_ | refine Lo.cells ?_ | refine Lo.agg _ ?_ | refine Lo.ref _ ?_ | refine Lo.tup _ ?_ | refine Lo.fn _ _ ?_ | refine Lo.sl _ ?_ | intro _)), .lo _ (by repeat' (first | exact Lo.s _ | exact zaj | refine zae ?_ ?_ | refine zak ?_ | refine Lo.cells ?_ | refine Lo.agg _ ?_ | refine Lo.ref _ ?_ | refine Lo.tup _ ?_ | refine Lo.fn _ _ ?_ | refine Lo.sl _ ?_ | intro _)), .own 0 0 1 _ _ rfl rfl, trivial⟩) (Nat.zero_le _) (fun k hk => ?_)
  have hcl := mostL_len l
  repeat (first | refine zag ?_ | refine zar ?_ | refine zad ?_ | refine zas ?_ | refine zac ?_)
  all_goals refine zaf ?_
  all_goals (first | refine zbh rfl rfl (zaa rfl) (zbb rfl rfl rfl) (fun h10 => ?_) (fun h10 => ?_) | refine zbi rfl rfl (zaa rfl) (zbb rfl rfl rfl) (fun h10 => ?_) (fun h10 => ?_))
  all_goals refine zan ?_
  all_goals (repeat (first | refine zag ?_ | refine zar ?_ | refine zad ?_ | refine zas ?_ | refine zac ?_))
  all_goals (first | refine zbp rfl ?_ | refine zbm rfl ?_)
  all_goals (repeat (first | refine zag ?_ | refine zar ?_ | refine zad ?_ | refine zas ?_ | refine zac ?_))
  · have hlt : k < l.length := by omega
    have htk : (((mostL l).take k).map eI).length = k := by simp; omega
    have hrow : ((mostL l).take (k + 1)).map eI = ((mostL l).take k).map eI ++ [eI (gti l k).most] := by
      rw [take_snoc (by omega), List.map_append, mostL_gti hlt]; rfl
    refine zaf ?_
    first | refine zab rfl rfl (zaa rfl) (za1 rfl ts23 ti36 rfl rfl rfl (zb5 (by omega)) rfl) ?_ | refine zab rfl rfl (zaa rfl) (zay rfl ts23 ti36 rfl rfl rfl (by omega)) ?_
    first | refine zab rfl rfl (zaa rfl) (za0 rfl ta36 ti36 rfl rfl) ?_ | refine zab rfl rfl (zaa rfl) (za9 rfl ta36 ti36 rfl rfl rfl rfl rfl) ?_ | refine zab rfl rfl (zaa rfl) (zaz rfl ta36 ti36 rfl (Nat.le_of_ble_eq_true rfl)) ?_ | refine zab rfl rfl (zaa rfl) (zba rfl ta36 ti36 rfl rfl rfl rfl (Nat.le_of_ble_eq_true rfl)) ?_
    refine zab rfl rfl (zaa rfl) (zbr rfl ti36 rfl rfl) ?_
    refine zb0 rfl (zaa rfl) (zbd rfl ti36 rfl rfl rfl rfl rfl rfl (by decide) (by decide)) ?_
    refine zan ?_
    repeat (first | refine zag ?_ | refine zar ?_ | refine zad ?_ | refine zas ?_ | refine zac ?_)
    refine zca (zcd (id := 1) rfl) ?_
    refine zca (zcy (d := 5) rfl rfl rfl) ?_
    refine zaf ?_
    first | refine zab rfl rfl (zaa rfl) (za6 (.inl rfl) rfl) ?_ | refine zab rfl rfl (zaa rfl) (zbg (.inl rfl) rfl) ?_ | refine zab rfl rfl (zaa rfl) (mv_s (.inl rfl) rfl) ?_ | refine zab rfl rfl (zaa rfl) (za7 (.inl rfl) rfl) ?_
    first | refine zab rfl rfl (zaa rfl) (zal rfl tf36_2 (by decide) rfl) ?_ | refine zab rfl rfl (zaa rfl) (zai rfl tf36_2 (by decide) rfl) ?_
    first | refine zab rfl rfl (zaa rfl) (zam rfl ta3 rfl) ?_ | refine zab rfl rfl (zaa rfl) (zap rfl ta3 rfl rfl rfl rfl rfl) ?_
    first | refine zab rfl rfl (zaa rfl) (lit1_sF rfl ts22 ti3 rfl rfl rfl rfl) ?_ | refine zab rfl rfl (zaa rfl) (lit1_slF rfl ts22 ti3 rfl rfl rfl rfl (by repeat' (first | exact Lo.s _ | exact zaj | refine zae ?_ ?_ | refine zak ?_ | refine Lo.cells ?_ | refine Lo.agg _ ?_ | refine Lo.ref _ ?_ | refine Lo.tup _ ?_ | refine Lo.fn _ _ ?_ | refine Lo.sl _ ?_ | intro _))) ?_ | refine zab rfl rfl (zaa rfl) (zdl rfl ts22 ti3 rfl rfl (by decide) (by decide) rfl rfl rfl (by repeat' (first | exact Lo.s _ | exact zaj | refine zae ?_ ?_ | refine zak ?_ | refine Lo.cells ?_ | refine Lo.agg _ ?_ | refine Lo.ref _ ?_ | refine Lo.tup _ ?_ | refine Lo.fn _ _ ?_ | refine Lo.sl _ ?_ | intro _))) ?_
    first | refine zab rfl rfl (zaa rfl) (zcx rfl ts22 ti3 rfl (by decide) rfl rfl (by first | rfl | (simp; done) | (simp; omega)) rfl (by first | exact .own _ _ _ rfl rfl _ (by first | rfl | simp) | exact .emp | exact .nil | exact .sl _ (by first | simp; done | intro e he; simp at he; obtain ⟨_, _, rfl⟩ := he; rfl)) (by first | omega | (simp; omega) | (unfold maxLen; simp; omega)) (by first | omega | (simp; omega) | (unfold maxLen; simp; omega))) ?_ | refine zab rfl rfl (zaa rfl) (zb1 rfl ts22 ti3 rfl (by decide) rfl (.inl rfl) rfl (by first | exact .own _ _ _ rfl rfl _ (by first | rfl | simp) | exact .emp | exact .nil | exact .sl _ (by first | simp; done | intro e he; simp at he; obtain ⟨_, _, rfl⟩ := he; rfl)) (by first | omega | (simp; omega) | (unfold maxLen; simp; omega)) (by first | omega | (simp; omega) | (unfold maxLen; simp; omega))) ?_ | refine zab rfl rfl (zaa rfl) (zb1 rfl ts22 ti3 rfl (by decide) rfl (.inr rfl) rfl (by first | exact .own _ _ _ rfl rfl _ (by first | rfl | simp) | exact .emp | exact .nil | exact .sl _ (by first | simp; done | intro e he; simp at he; obtain ⟨_, _, rfl⟩ := he; rfl)) (by first | omega | (simp; omega) | (unfold maxLen; simp; omega)) (by first | omega | (simp; omega) | (unfold maxLen; simp; omega))) ?_
    first | refine zab rfl rfl (zaa rfl) (za6 (.inr rfl) rfl) ?_ | refine zab rfl rfl (zaa rfl) (zbg (.inr rfl) rfl) ?_ | refine zab rfl rfl (zaa rfl) (mv_s (.inr rfl) rfl) ?_ | refine zab rfl rfl (zaa rfl) (za7 (.inr rfl) rfl) ?_
    refine zan ?_
    repeat (first | refine zag ?_ | refine zar ?_ | refine zad ?_ | refine zas ?_ | refine zac ?_)
    refine zaf ?_
    refine zab rfl rfl (zaa rfl) (zb2 rfl rfl rfl (IntWalk.i64_in _ (by omega))) ?_
    refine zab rfl rfl (zaa rfl) (mv_s (.inl rfl) rfl) ?_
    refine zan ?_
    repeat (first | refine zag ?_ | refine zar ?_ | refine zad ?_ | refine zas ?_ | refine zac ?_)
    exact ⟨k + 1, by omega, by omega, zck [2] (by decide) ⟨⟨_, rfl, .rowE (by repeat' (first | exact Lo.s _ | exact zaj | exact zbn | refine zae ?_ ?_ | refine zbe ?_ ?_ | refine zak ?_ | refine zbo ?_ | refine Lo.cells ?_ | refine Lo.agg _ ?_ | refine Lo.sl _ ?_ | intro _)) (Eq.trans (b := ((mostL l).take k).map eI ++ [eI (gti l k).most]) rfl hrow.symm)⟩, trivial⟩ ⟨.lo _ (by repeat' (first | exact Lo.s _ | exact zaj | refine zae ?_ ?_ | refine zak ?_ | refine Lo.cells ?_ | refine Lo.agg _ ?_ | refine Lo.ref _ ?_ | refine Lo.tup _ ?_ | refine Lo.fn _ _ ?_ | refine Lo.sl _ ?_ | intro _)), .lo _ (by repeat' (first | exact Lo.s _ | exact zaj | refine zae ?_ ?_ | refine zak ?_ | refine Lo.cells ?_ | refine Lo.agg _ ?_ | refine Lo.ref _ ?_ | refine Lo.tup _ ?_ | refine Lo.fn _ _ ?_ | refine Lo.sl _ ?_ | intro _)), .lo _ (by repeat' (first | exact Lo.s _ | exact zaj | refine zae ?_ ?_ | refine zak ?_ | refine Lo.cells ?_ | refine Lo.agg _ ?_ | refine Lo.ref _ ?_ | refine Lo.tup _ ?_ | refine Lo.fn _ _ ?_ | refine Lo.sl _ ?_ | intro _)), .own 2 0 1 _ _ rfl (by simp; omega), trivial⟩⟩
  · (refine zcl ?_; repeat (first | refine ath_x ?_ | refine zci ?_ | refine zcb rfl ?_ | refine zas ?_ | refine zar ?_ | refine zag ?_ | refine zad ?_ | refine zac ?_))
    refine zaf ?_
    first | refine zab rfl rfl (zaa rfl) (za6 (.inl rfl) rfl) ?_ | refine zab rfl rfl (zaa rfl) (zbg (.inl rfl) rfl) ?_ | refine zab rfl rfl (zaa rfl) (mv_s (.inl rfl) rfl) ?_ | refine zab rfl rfl (zaa rfl) (za7 (.inl rfl) rfl) ?_
    first | refine zab rfl rfl (zaa rfl) (za6 (.inr rfl) rfl) ?_ | refine zab rfl rfl (zaa rfl) (zbg (.inr rfl) rfl) ?_ | refine zab rfl rfl (zaa rfl) (mv_s (.inr rfl) rfl) ?_ | refine zab rfl rfl (zaa rfl) (za7 (.inr rfl) rfl) ?_
    refine zan ?_
    repeat (first | refine zag ?_ | refine zar ?_ | refine zad ?_ | refine zas ?_ | refine zac ?_)
    (refine zbs ?_; repeat (first | refine zb8 ?_ | refine zb9 ?_))
    have e : (mostL l).take k = mostL l := List.take_of_length_le (by omega)
    refine post1f (.inr rfl) rfl ?_
    rw [e]
    exact .own _ _ _ _ _ rfl rfl (by simp; omega)
set_option maxHeartbeats 1000000 in
theorem greatest_pf (l : List Sft) (hl : l.length ≤ 12) : Pure P 24 [eL eSh l] (eL eI (mostL l)) := by
  refine zc4 (by rw [IsP.eq (P := P)]; exact Tryz.func24) rfl rfl rfl rfl rfl (by repeat' (first | exact Lo.s _ | exact zaj | refine zae ?_ ?_ | refine zak ?_ | refine Lo.cells ?_ | refine Lo.agg _ ?_ | refine Lo.ref _ ?_ | refine Lo.tup _ ?_ | refine Lo.fn _ _ ?_ | refine Lo.sl _ ?_ | intro _)) (by repeat' (first | exact Lo.s _ | exact zaj | refine zae ?_ ?_ | refine zak ?_ | refine Lo.cells ?_ | refine Lo.agg _ ?_ | refine Lo.ref _ ?_ | refine Lo.tup _ ?_ | refine Lo.fn _ _ ?_ | refine Lo.sl _ ?_ | intro _)) (by simp only [argF]; rfl) ?_
  repeat (first | refine zag ?_ | refine zar ?_ | refine zad ?_ | refine zas ?_ | refine zac ?_)
  refine zaf ?_
  first | refine zab rfl rfl (zaa rfl) (za6 (.inr rfl) rfl) ?_ | refine zab rfl rfl (zaa rfl) (zbg (.inr rfl) rfl) ?_ | refine zab rfl rfl (zaa rfl) (mv_s (.inr rfl) rfl) ?_ | refine zab rfl rfl (zaa rfl) (za7 (.inr rfl) rfl) ?_
  refine zan ?_
  repeat (first | refine zag ?_ | refine zar ?_ | refine zad ?_ | refine zas ?_ | refine zac ?_)
  refine zaf ?_
  first | refine zab rfl rfl (zaa rfl) (za6 (.inr rfl) rfl) ?_ | refine zab rfl rfl (zaa rfl) (zbg (.inr rfl) rfl) ?_ | refine zab rfl rfl (zaa rfl) (mv_s (.inr rfl) rfl) ?_ | refine zab rfl rfl (zaa rfl) (za7 (.inr rfl) rfl) ?_
  refine zan ?_
  repeat (first | refine zag ?_ | refine zar ?_ | refine zad ?_ | refine zas ?_ | refine zac ?_)
  refine zaf ?_
  refine zab rfl rfl (zaa rfl) (mv_s (.inr rfl) rfl) ?_
  refine zan ?_
  repeat (first | refine zag ?_ | refine zar ?_ | refine zad ?_ | refine zas ?_ | refine zac ?_)
  refine zca (wk_own (d := 3) 1 rfl (.inr rfl)) ?_
  refine zcc (S := Nat) (fun k => [(0, eL eSh l), (4, eI k), (3, .own 0 1 k)]) (fun k => [.row 1 (((mostL l).take k).map eI)]) (fun k => k ≤ l.length) (fun k => l.length - k) 0 (zck [0] (by decide) ⟨⟨_, rfl, .rowE (by repeat' (first | exact Lo.s _ | exact zaj | exact zbn | refine zae ?_ ?_ | refine zbe ?_ ?_ | refine zak ?_ | refine zbo ?_ | refine Lo.cells ?_ | refine Lo.agg _ ?_ | refine Lo.sl _ ?_ | intro _)) rfl⟩, trivial⟩ ⟨.lo _ (by repeat' (first | exact Lo.s _ | exact zaj | refine zae ?_ ?_ | refine zak ?_ | refine Lo.cells ?_ | refine Lo.agg _ ?_ | refine Lo.ref _ ?_ | refine Lo.tup _ ?_ | refine Lo.fn _ _ ?_ | refine Lo.sl _ ?_ | intro _)), .lo _ (by repeat' (first | exact Lo.s _ | exact zaj | refine zae ?_ ?_ | refine zak ?_ | refine Lo.cells ?_ | refine Lo.agg _ ?_ | refine Lo.ref _ ?_ | refine Lo.tup _ ?_ | refine Lo.fn _ _ ?_ | refine Lo.sl _ ?_ | intro _)), .own 0 0 1 _ _ rfl rfl, trivial⟩) (Nat.zero_le _) (fun k hk => ?_)
  have hcl := mostL_len l
  repeat (first | refine zag ?_ | refine zar ?_ | refine zad ?_ | refine zas ?_ | refine zac ?_)
  all_goals refine zaf ?_
  all_goals refine zab rfl rfl (zaa rfl) (mv_s (.inl rfl) rfl) ?_
  all_goals (first | refine zab rfl rfl (zaa rfl) (za6 (.inl rfl) rfl) ?_ | refine zab rfl rfl (zaa rfl) (zbg (.inl rfl) rfl) ?_ | refine zab rfl rfl (zaa rfl) (mv_s (.inl rfl) rfl) ?_ | refine zab rfl rfl (zaa rfl) (za7 (.inl rfl) rfl) ?_)
  all_goals (first | refine zab rfl rfl (zaa rfl) (za4 rfl ts23 rfl) ?_ | refine zab rfl rfl (zaa rfl) (za8 rfl ts23 rfl) ?_ | refine zab rfl rfl (zaa rfl) (za2 rfl ts23 rfl) ?_ | refine zab rfl rfl (zaa rfl) (zbc rfl ts23 rfl) ?_ | refine zab rfl rfl (zaa rfl) (za3 rfl ts23 rfl) ?_)
  all_goals (first | refine zbh rfl rfl (zaa rfl) (zbb rfl rfl rfl) (fun h8 => ?_) (fun h8 => ?_) | refine zbi rfl rfl (zaa rfl) (zbb rfl rfl rfl) (fun h8 => ?_) (fun h8 => ?_))
  all_goals refine zan ?_
  all_goals (repeat (first | refine zag ?_ | refine zar ?_ | refine zad ?_ | refine zas ?_ | refine zac ?_))
  all_goals (first | refine zbp rfl ?_ | refine zbm rfl ?_)
  all_goals (repeat (first | refine zag ?_ | refine zar ?_ | refine zad ?_ | refine zas ?_ | refine zac ?_))
  · have hlt : k < l.length := by omega
    have htk : (((mostL l).take k).map eI).length = k := by simp; omega
    have hrow : ((mostL l).take (k + 1)).map eI = ((mostL l).take k).map eI ++ [eI (gti l k).most] := by
      rw [take_snoc (by omega), List.map_append, mostL_gti hlt]; rfl
    refine zaf ?_
    first | refine zab rfl rfl (zaa rfl) (za6 (.inl rfl) rfl) ?_ | refine zab rfl rfl (zaa rfl) (zbg (.inl rfl) rfl) ?_ | refine zab rfl rfl (zaa rfl) (mv_s (.inl rfl) rfl) ?_ | refine zab rfl rfl (zaa rfl) (za7 (.inl rfl) rfl) ?_
    first | refine zab rfl rfl (zaa rfl) (za6 (.inl rfl) rfl) ?_ | refine zab rfl rfl (zaa rfl) (zbg (.inl rfl) rfl) ?_ | refine zab rfl rfl (zaa rfl) (mv_s (.inl rfl) rfl) ?_ | refine zab rfl rfl (zaa rfl) (za7 (.inl rfl) rfl) ?_
    refine zab rfl rfl (zaa rfl) (mv_s (.inl rfl) rfl) ?_
    first | refine zab rfl rfl (zaa rfl) (za1 rfl ts23 ti36 rfl rfl rfl (zb5 (by omega)) rfl) ?_ | refine zab rfl rfl (zaa rfl) (zay rfl ts23 ti36 rfl rfl rfl (by omega)) ?_
    first | refine zab rfl rfl (zaa rfl) (zal rfl tf36_2 (by decide) rfl) ?_ | refine zab rfl rfl (zaa rfl) (zai rfl tf36_2 (by decide) rfl) ?_
    first | refine zab rfl rfl (zaa rfl) (zam rfl ta3 rfl) ?_ | refine zab rfl rfl (zaa rfl) (zap rfl ta3 rfl rfl rfl rfl rfl) ?_
    first | refine zab rfl rfl (zaa rfl) (lit1_sF rfl ts22 ti3 rfl rfl rfl rfl) ?_ | refine zab rfl rfl (zaa rfl) (lit1_slF rfl ts22 ti3 rfl rfl rfl rfl (by repeat' (first | exact Lo.s _ | exact zaj | refine zae ?_ ?_ | refine zak ?_ | refine Lo.cells ?_ | refine Lo.agg _ ?_ | refine Lo.ref _ ?_ | refine Lo.tup _ ?_ | refine Lo.fn _ _ ?_ | refine Lo.sl _ ?_ | intro _))) ?_ | refine zab rfl rfl (zaa rfl) (zdl rfl ts22 ti3 rfl rfl (by decide) (by decide) rfl rfl rfl (by repeat' (first | exact Lo.s _ | exact zaj | refine zae ?_ ?_ | refine zak ?_ | refine Lo.cells ?_ | refine Lo.agg _ ?_ | refine Lo.ref _ ?_ | refine Lo.tup _ ?_ | refine Lo.fn _ _ ?_ | refine Lo.sl _ ?_ | intro _))) ?_
    first | refine zab rfl rfl (zaa rfl) (zcx rfl ts22 ti3 rfl (by decide) rfl rfl (by first | rfl | (simp; done) | (simp; omega)) rfl (by first | exact .own _ _ _ rfl rfl _ (by first | rfl | simp) | exact .emp | exact .nil | exact .sl _ (by first | simp; done | intro e he; simp at he; obtain ⟨_, _, rfl⟩ := he; rfl)) (by first | omega | (simp; omega) | (unfold maxLen; simp; omega)) (by first | omega | (simp; omega) | (unfold maxLen; simp; omega))) ?_ | refine zab rfl rfl (zaa rfl) (zb1 rfl ts22 ti3 rfl (by decide) rfl (.inl rfl) rfl (by first | exact .own _ _ _ rfl rfl _ (by first | rfl | simp) | exact .emp | exact .nil | exact .sl _ (by first | simp; done | intro e he; simp at he; obtain ⟨_, _, rfl⟩ := he; rfl)) (by first | omega | (simp; omega) | (unfold maxLen; simp; omega)) (by first | omega | (simp; omega) | (unfold maxLen; simp; omega))) ?_ | refine zab rfl rfl (zaa rfl) (zb1 rfl ts22 ti3 rfl (by decide) rfl (.inr rfl) rfl (by first | exact .own _ _ _ rfl rfl _ (by first | rfl | simp) | exact .emp | exact .nil | exact .sl _ (by first | simp; done | intro e he; simp at he; obtain ⟨_, _, rfl⟩ := he; rfl)) (by first | omega | (simp; omega) | (unfold maxLen; simp; omega)) (by first | omega | (simp; omega) | (unfold maxLen; simp; omega))) ?_
    first | refine zab rfl rfl (zaa rfl) (za6 (.inr rfl) rfl) ?_ | refine zab rfl rfl (zaa rfl) (zbg (.inr rfl) rfl) ?_ | refine zab rfl rfl (zaa rfl) (mv_s (.inr rfl) rfl) ?_ | refine zab rfl rfl (zaa rfl) (za7 (.inr rfl) rfl) ?_
    refine zan ?_
    repeat (first | refine zag ?_ | refine zar ?_ | refine zad ?_ | refine zas ?_ | refine zac ?_)
    refine zaf ?_
    refine zab rfl rfl (zaa rfl) (mv_s (.inl rfl) rfl) ?_
    refine zab rfl rfl (zaa rfl) (zb2 rfl rfl rfl (IntWalk.i64_in _ (by omega))) ?_
    refine zab rfl rfl (zaa rfl) (mv_s (.inr rfl) rfl) ?_
    refine zan ?_
    repeat (first | refine zag ?_ | refine zar ?_ | refine zad ?_ | refine zas ?_ | refine zac ?_)
    exact ⟨k + 1, by omega, by omega, zck [1] (by decide) ⟨⟨_, rfl, .rowE (by repeat' (first | exact Lo.s _ | exact zaj | exact zbn | refine zae ?_ ?_ | refine zbe ?_ ?_ | refine zak ?_ | refine zbo ?_ | refine Lo.cells ?_ | refine Lo.agg _ ?_ | refine Lo.sl _ ?_ | intro _)) (Eq.trans (b := ((mostL l).take k).map eI ++ [eI (gti l k).most]) rfl hrow.symm)⟩, trivial⟩ ⟨.lo _ (by repeat' (first | exact Lo.s _ | exact zaj | refine zae ?_ ?_ | refine zak ?_ | refine Lo.cells ?_ | refine Lo.agg _ ?_ | refine Lo.ref _ ?_ | refine Lo.tup _ ?_ | refine Lo.fn _ _ ?_ | refine Lo.sl _ ?_ | intro _)), .lo _ (by repeat' (first | exact Lo.s _ | exact zaj | refine zae ?_ ?_ | refine zak ?_ | refine Lo.cells ?_ | refine Lo.agg _ ?_ | refine Lo.ref _ ?_ | refine Lo.tup _ ?_ | refine Lo.fn _ _ ?_ | refine Lo.sl _ ?_ | intro _)), .own 1 0 1 _ _ rfl (by simp; omega), trivial⟩⟩
  · (refine zcl ?_; repeat (first | refine ath_x ?_ | refine zci ?_ | refine zcb rfl ?_ | refine zas ?_ | refine zar ?_ | refine zag ?_ | refine zad ?_ | refine zac ?_))
    refine zaf ?_
    first | refine zab rfl rfl (zaa rfl) (za6 (.inl rfl) rfl) ?_ | refine zab rfl rfl (zaa rfl) (zbg (.inl rfl) rfl) ?_ | refine zab rfl rfl (zaa rfl) (mv_s (.inl rfl) rfl) ?_ | refine zab rfl rfl (zaa rfl) (za7 (.inl rfl) rfl) ?_
    first | refine zab rfl rfl (zaa rfl) (za6 (.inr rfl) rfl) ?_ | refine zab rfl rfl (zaa rfl) (zbg (.inr rfl) rfl) ?_ | refine zab rfl rfl (zaa rfl) (mv_s (.inr rfl) rfl) ?_ | refine zab rfl rfl (zaa rfl) (za7 (.inr rfl) rfl) ?_
    refine zan ?_
    repeat (first | refine zag ?_ | refine zar ?_ | refine zad ?_ | refine zas ?_ | refine zac ?_)
    (refine zbs ?_; repeat (first | refine zb8 ?_ | refine zb9 ?_))
    have e : (mostL l).take k = mostL l := List.take_of_length_le (by omega)
    refine post1f (.inr rfl) rfl ?_
    rw [e]
    exact .own _ _ _ _ _ rfl rfl (by simp; omega)
theorem okC_of {d : List Int} {l : List Sft} {c : List Int} (hv : zde d l = true) (hc : cntB l c = true) : okC l c := by
  obtain ⟨⟨_, _, q3⟩, _, ql⟩ := zcz hv
  obtain ⟨h1, h2⟩ := cntB_iff hc
  exact ⟨h1, q3, fun k hk => by have := h2 k hk; have := (ql k hk).1; omega⟩
structure Pln where
  c : List Int
  cost : Int
def ePl (p : Pln) : AV := .agg [eL eI p.c, eI p.cost]
/-- the cost of counts -/
def prcP (l : List Sft) (c : List Int) : Nat → Int
  | 0 => 0
  | n + 1 => prcP l c n + (gti l n).cost * gti c n
theorem mul_bd {a b : Int} (h1 : 0 ≤ a) (h2 : a ≤ 1000) (h3 : 0 ≤ b) (h4 : b ≤ 20) : 0 ≤ a * b ∧ a * b ≤ 20000 :=
  ⟨Int.mul_nonneg h1 h3, by have := Int.mul_le_mul h2 h4 h3 (by omega : (0 : Int) ≤ 1000); omega⟩
theorem prcP_bd {d : List Int} {l : List Sft} {c : List Int} (hv : zde d l = true) (h : okC l c) : ∀ n, n ≤ l.length → 0 ≤ prcP l c n ∧ prcP l c n ≤ 20000 * n
  | 0, _ => by simp [prcP]
  | n + 1, hn => by
    have ih := prcP_bd hv h n (by omega)
    have h2 := h.2.2 n (by omega)
    have h3 := ((zcz hv).2.2 n (by omega)).1
    have := mul_bd h3.2.1 h3.2.2.1 h2.1 h2.2
    unfold prcP
    omega
set_option maxHeartbeats 1000000 in
theorem price_pf (d : List Int) (l : List Sft) (c : List Int) (hv : zde d l = true) (hc : okC l c) : Pure P 16 [eL eSh l, eL eI c] (eI (prcP l c l.length)) := by
  obtain ⟨⟨q1, q2, q3⟩, qd, ql⟩ := zcz hv
  have hcl := hc.1
  refine zc4 (by rw [IsP.eq (P := P)]; exact Tryz.func16) rfl rfl rfl rfl rfl (by repeat' (first | exact Lo.s _ | exact zaj | refine zae ?_ ?_ | refine zak ?_ | refine Lo.cells ?_ | refine Lo.agg _ ?_ | refine Lo.ref _ ?_ | refine Lo.tup _ ?_ | refine Lo.fn _ _ ?_ | refine Lo.sl _ ?_ | intro _)) (by repeat' (first | exact Lo.s _ | exact zaj | refine zae ?_ ?_ | refine zak ?_ | refine Lo.cells ?_ | refine Lo.agg _ ?_ | refine Lo.ref _ ?_ | refine Lo.tup _ ?_ | refine Lo.fn _ _ ?_ | refine Lo.sl _ ?_ | intro _)) (by simp only [argF]; rfl) ?_
  repeat (first | refine zag ?_ | refine zar ?_ | refine zad ?_ | refine zas ?_ | refine zac ?_)
  refine zaf ?_
  refine zab rfl rfl (zaa rfl) (mv_s (.inr rfl) rfl) ?_
  refine zan ?_
  repeat (first | refine zag ?_ | refine zar ?_ | refine zad ?_ | refine zas ?_ | refine zac ?_)
  refine zaf ?_
  refine zab rfl rfl (zaa rfl) (mv_s (.inr rfl) rfl) ?_
  refine zan ?_
  repeat (first | refine zag ?_ | refine zar ?_ | refine zad ?_ | refine zas ?_ | refine zac ?_)
  refine zaf ?_
  first | refine zab rfl rfl (zaa rfl) (za6 (.inl rfl) rfl) ?_ | refine zab rfl rfl (zaa rfl) (zbg (.inl rfl) rfl) ?_ | refine zab rfl rfl (zaa rfl) (mv_s (.inl rfl) rfl) ?_ | refine zab rfl rfl (zaa rfl) (za7 (.inl rfl) rfl) ?_
  first | refine zab rfl rfl (zaa rfl) (za4 rfl ts23 rfl) ?_ | refine zab rfl rfl (zaa rfl) (za8 rfl ts23 rfl) ?_ | refine zab rfl rfl (zaa rfl) (za2 rfl ts23 rfl) ?_ | refine zab rfl rfl (zaa rfl) (zbc rfl ts23 rfl) ?_ | refine zab rfl rfl (zaa rfl) (za3 rfl ts23 rfl) ?_
  refine zab rfl rfl (zaa rfl) (mv_s (.inl rfl) rfl) ?_
  refine zan ?_
  repeat (first | refine zag ?_ | refine zar ?_ | refine zad ?_ | refine zas ?_ | refine zac ?_)
  refine zcc (S := Nat) (fun k => [(1, eL eI c), (8, eL eSh l), (9, eI l.length), (10, eI k), (5, eI (prcP l c k))]) (fun _ => []) (fun k => k ≤ l.length) (fun k => l.length - k) 0 (zck [] (by decide) trivial ⟨.lo _ (by repeat' (first | exact Lo.s _ | exact zaj | refine zae ?_ ?_ | refine zak ?_ | refine Lo.cells ?_ | refine Lo.agg _ ?_ | refine Lo.ref _ ?_ | refine Lo.tup _ ?_ | refine Lo.fn _ _ ?_ | refine Lo.sl _ ?_ | intro _)), .lo _ (by repeat' (first | exact Lo.s _ | exact zaj | refine zae ?_ ?_ | refine zak ?_ | refine Lo.cells ?_ | refine Lo.agg _ ?_ | refine Lo.ref _ ?_ | refine Lo.tup _ ?_ | refine Lo.fn _ _ ?_ | refine Lo.sl _ ?_ | intro _)), .lo _ (by repeat' (first | exact Lo.s _ | exact zaj | refine zae ?_ ?_ | refine zak ?_ | refine Lo.cells ?_ | refine Lo.agg _ ?_ | refine Lo.ref _ ?_ | refine Lo.tup _ ?_ | refine Lo.fn _ _ ?_ | refine Lo.sl _ ?_ | intro _)), .lo _ (by repeat' (first | exact Lo.s _ | exact zaj | refine zae ?_ ?_ | refine zak ?_ | refine Lo.cells ?_ | refine Lo.agg _ ?_ | refine Lo.ref _ ?_ | refine Lo.tup _ ?_ | refine Lo.fn _ _ ?_ | refine Lo.sl _ ?_ | intro _)), .lo _ (by repeat' (first | exact Lo.s _ | exact zaj | refine zae ?_ ?_ | refine zak ?_ | refine Lo.cells ?_ | refine Lo.agg _ ?_ | refine Lo.ref _ ?_ | refine Lo.tup _ ?_ | refine Lo.fn _ _ ?_ | refine Lo.sl _ ?_ | intro _)), trivial⟩) (Nat.zero_le _) (fun k hk => ?_)
  repeat (first | refine zag ?_ | refine zar ?_ | refine zad ?_ | refine zas ?_ | refine zac ?_)
  have hbd := prcP_bd hv hc k hk
  all_goals refine zaf ?_
  all_goals (first | refine zbh rfl rfl (zaa rfl) (zbb rfl rfl rfl) (fun h11 => ?_) (fun h11 => ?_) | refine zbi rfl rfl (zaa rfl) (zbb rfl rfl rfl) (fun h11 => ?_) (fun h11 => ?_))
  all_goals refine zan ?_
  all_goals (repeat (first | refine zag ?_ | refine zar ?_ | refine zad ?_ | refine zas ?_ | refine zac ?_))
  all_goals (first | refine zbp rfl ?_ | refine zbm rfl ?_)
  all_goals (repeat (first | refine zag ?_ | refine zar ?_ | refine zad ?_ | refine zas ?_ | refine zac ?_))
  · have hlt : k < l.length := by omega
    have hb1 := (ql k hlt).1
    have hb2 := hc.2.2 k hlt
    have hb := mul_bd hb1.2.1 hb1.2.2.1 hb2.1 hb2.2
    have hnx : prcP l c (k + 1) = prcP l c k + (gti l k).cost * gti c k := rfl
    refine zaf ?_
    refine zab rfl rfl (zaa rfl) (mv_s (.inl rfl) rfl) ?_
    first | refine zab rfl rfl (zaa rfl) (za1 rfl ts23 ti36 rfl rfl rfl (zb5 (by omega)) rfl) ?_ | refine zab rfl rfl (zaa rfl) (zay rfl ts23 ti36 rfl rfl rfl (by omega)) ?_
    first | refine zab rfl rfl (zaa rfl) (za0 rfl ta36 ti36 rfl rfl) ?_ | refine zab rfl rfl (zaa rfl) (za9 rfl ta36 ti36 rfl rfl rfl rfl rfl) ?_ | refine zab rfl rfl (zaa rfl) (zaz rfl ta36 ti36 rfl (Nat.le_of_ble_eq_true rfl)) ?_ | refine zab rfl rfl (zaa rfl) (zba rfl ta36 ti36 rfl rfl rfl rfl (Nat.le_of_ble_eq_true rfl)) ?_
    refine zab rfl rfl (zaa rfl) (zbr rfl ti36 rfl rfl) ?_
    refine zab rfl rfl (zaa rfl) (mv_s (.inr rfl) rfl) ?_
    refine zb0 rfl (zaa rfl) (zbd rfl ti36 rfl rfl rfl rfl rfl rfl (by decide) (by decide)) ?_
    refine zan ?_
    repeat (first | refine zag ?_ | refine zar ?_ | refine zad ?_ | refine zas ?_ | refine zac ?_)
    refine zca (zcd (id := 0) rfl) ?_
    refine zca (zcy (d := 7) rfl rfl rfl) ?_
    refine zch hmix ?_
    refine zco (by kernel_rfl) ?_
    refine zat rfl rfl (zaa rfl) (mv_s (.inl rfl) rfl) ?_
    first | refine zat rfl rfl (zaa rfl) (zal rfl tf36_1 (by decide) rfl) ?_ | refine zat rfl rfl (zaa rfl) (zai rfl tf36_1 (by decide) rfl) ?_
    first | refine zat rfl rfl (zaa rfl) (zam rfl ta3 rfl) ?_ | refine zat rfl rfl (zaa rfl) (zap rfl ta3 rfl rfl rfl rfl rfl) ?_
    first | refine zat rfl rfl (zaa rfl) (za6 (.inl rfl) rfl) ?_ | refine zat rfl rfl (zaa rfl) (zbg (.inl rfl) rfl) ?_ | refine zat rfl rfl (zaa rfl) (mv_s (.inl rfl) rfl) ?_ | refine zat rfl rfl (zaa rfl) (za7 (.inl rfl) rfl) ?_
    refine zat rfl rfl (zaa rfl) (mv_s (.inl rfl) rfl) ?_
    first | refine zat rfl rfl (zaa rfl) (za1 rfl ts22 ti3 rfl rfl rfl (zb5 (by omega)) rfl) ?_ | refine zat rfl rfl (zaa rfl) (zay rfl ts22 ti3 rfl rfl rfl (by omega)) ?_
    first | refine zat rfl rfl (zaa rfl) (zam rfl ta3 rfl) ?_ | refine zat rfl rfl (zaa rfl) (zap rfl ta3 rfl rfl rfl rfl rfl) ?_
    refine zat rfl rfl (zaa rfl) (does_mul rfl rfl rfl (IntWalk.i64_in _ (by omega))) ?_
    refine zat rfl rfl (zaa rfl) (zb2 rfl rfl rfl (IntWalk.i64_in _ (by omega))) ?_
    refine zat rfl rfl (zaa rfl) (mv_s (.inr rfl) rfl) ?_
    refine qx_nil ?_
    repeat (first | refine zag ?_ | refine zar ?_ | refine zad ?_ | refine zas ?_ | refine zac ?_)
    refine zaf ?_
    refine zab rfl rfl (zaa rfl) (zb2 rfl rfl rfl (IntWalk.i64_in _ (by omega))) ?_
    refine zab rfl rfl (zaa rfl) (mv_s (.inl rfl) rfl) ?_
    refine zan ?_
    repeat (first | refine zag ?_ | refine zar ?_ | refine zad ?_ | refine zas ?_ | refine zac ?_)
    rw [← hnx]
    exact ⟨k + 1, by omega, by omega, zck [] (by decide) trivial ⟨.lo _ (by repeat' (first | exact Lo.s _ | exact zaj | refine zae ?_ ?_ | refine zak ?_ | refine Lo.cells ?_ | refine Lo.agg _ ?_ | refine Lo.ref _ ?_ | refine Lo.tup _ ?_ | refine Lo.fn _ _ ?_ | refine Lo.sl _ ?_ | intro _)), .lo _ (by repeat' (first | exact Lo.s _ | exact zaj | refine zae ?_ ?_ | refine zak ?_ | refine Lo.cells ?_ | refine Lo.agg _ ?_ | refine Lo.ref _ ?_ | refine Lo.tup _ ?_ | refine Lo.fn _ _ ?_ | refine Lo.sl _ ?_ | intro _)), .lo _ (by repeat' (first | exact Lo.s _ | exact zaj | refine zae ?_ ?_ | refine zak ?_ | refine Lo.cells ?_ | refine Lo.agg _ ?_ | refine Lo.ref _ ?_ | refine Lo.tup _ ?_ | refine Lo.fn _ _ ?_ | refine Lo.sl _ ?_ | intro _)), .lo _ (by repeat' (first | exact Lo.s _ | exact zaj | refine zae ?_ ?_ | refine zak ?_ | refine Lo.cells ?_ | refine Lo.agg _ ?_ | refine Lo.ref _ ?_ | refine Lo.tup _ ?_ | refine Lo.fn _ _ ?_ | refine Lo.sl _ ?_ | intro _)), .lo _ (by repeat' (first | exact Lo.s _ | exact zaj | refine zae ?_ ?_ | refine zak ?_ | refine Lo.cells ?_ | refine Lo.agg _ ?_ | refine Lo.ref _ ?_ | refine Lo.tup _ ?_ | refine Lo.fn _ _ ?_ | refine Lo.sl _ ?_ | intro _)), trivial⟩⟩
  · have e : k = l.length := by omega
    subst e
    (refine zcl ?_; repeat (first | refine ath_x ?_ | refine zci ?_ | refine zcb rfl ?_ | refine zas ?_ | refine zar ?_ | refine zag ?_ | refine zad ?_ | refine zac ?_))
    refine zaf ?_
    refine zab rfl rfl (zaa rfl) (mv_s (.inl rfl) rfl) ?_
    refine zab rfl rfl (zaa rfl) (mv_s (.inr rfl) rfl) ?_
    refine zan ?_
    repeat (first | refine zag ?_ | refine zar ?_ | refine zad ?_ | refine zas ?_ | refine zac ?_)
    (refine zbs ?_; repeat (first | refine zb8 ?_ | refine zb9 ?_))
    exact zcm (.inr rfl) rfl rfl
end Go.Proofs.YtmoipmnhgdmkpaaGreat.Aw
end
section
namespace Go.Proofs.YtmoipmnhgdmkpaaGreat.Aw
set_option linter.unusedSimpArgs false
set_option linter.unusedVariables false
open Go.RowKit

/-! ## what is the same in two stores -/
def valEq : Value → Value → Bool
  | .bool a, .bool b => a == b
  | .int k m, .int k' n => decide (k = k') && decide (m = n)
  | .string a, .string b => decide (a = b)
  | .slice none 0 0, .slice none 0 0 => true
  | .pointer none, .pointer none => true
  | .nilFunc, .nilFunc => true
  | _, _ => false
theorem valEq_of {u v : Value} (h : valEq u v = true) : u = v := by
  unfold valEq at h
  split at h
  · simp at h; rw [h]
  · simp at h; rw [h.1, h.2]
  · simp at h; rw [h]
  · rfl
  · rfl
  · rfl
  · cases h
mutual
def avEq : AV → AV → Bool
  | .any, .any => true
  | .s u, .s v => valEq u v
  | .agg a, .agg b => avsEq a b
  | .sl a, .sl b => avsEq a b
  | .emp, .emp => true
  | .ref a, .ref b => avsEq a b
  | .own a b c, .own a' b' c' => Nat.beq a a' && Nat.beq b b' && Nat.beq c c'
  | .ptr a b c d, .ptr a' b' c' d' => Nat.beq a a' && Nat.beq b b' && Nat.beq c c' && Nat.beq d d'
  | .fn f a, .fn g b => Nat.beq f g && avsEq a b
  | .tup a, .tup b => avsEq a b
  | .mp a, .mp b => Nat.beq a b
  | .sub a b c d, .sub a' b' c' d' => Nat.beq a a' && Nat.beq b b' && Nat.beq c c' && Nat.beq d d'
  | _, _ => false
def avsEq : List AV → List AV → Bool
  | [], [] => true
  | x :: a, y :: b => avEq x y && avsEq a b
  | _, _ => false
end
mutual
theorem avEq_of : ∀ (x y : AV), avEq x y = true → x = y
  | .any, y, h => by cases y <;> simp [avEq] at h <;> rfl
  | .s u, y, h => by cases y <;> simp [avEq] at h; rw [valEq_of h]
  | .agg a, y, h => by cases y <;> simp [avEq] at h; rw [avsEq_of _ _ h]
  | .sl a, y, h => by cases y <;> simp [avEq] at h; rw [avsEq_of _ _ h]
  | .emp, y, h => by cases y <;> simp [avEq] at h <;> rfl
  | .ref a, y, h => by cases y <;> simp [avEq] at h; rw [avsEq_of _ _ h]
  | .own a b c, y, h => by cases y <;> simp [avEq] at h; obtain ⟨⟨rfl, rfl⟩, rfl⟩ := h; rfl
  | .ptr a b c d, y, h => by cases y <;> simp [avEq] at h; obtain ⟨⟨⟨rfl, rfl⟩, rfl⟩, rfl⟩ := h; rfl
  | .fn f a, y, h => by cases y <;> simp [avEq] at h; obtain ⟨rfl, h⟩ := h; rw [avsEq_of _ _ h]
  | .tup a, y, h => by cases y <;> simp [avEq] at h; rw [avsEq_of _ _ h]
  | .mp a, y, h => by cases y <;> simp [avEq] at h; rw [h]
  | .sub a b c d, y, h => by cases y <;> simp [avEq] at h; obtain ⟨⟨⟨rfl, rfl⟩, rfl⟩, rfl⟩ := h; rfl
theorem avsEq_of : ∀ (x y : List AV), avsEq x y = true → x = y
  | [], y, h => by cases y <;> simp [avsEq] at h <;> rfl
  | x :: a, y, h => by
    cases y with
    | nil => simp [avsEq] at h
    | cons y b => simp [avsEq] at h; rw [avEq_of _ _ h.1, avsEq_of _ _ h.2]
end
def obEq : Ob → Ob → Bool
  | .dead, .dead => true
  | .row n a, .row m b => Nat.beq n m && avsEq a b
  | .fz n a, .fz m b => Nat.beq n m && avsEq a b
  | _, _ => false
theorem obEq_of {x y : Ob} (h : obEq x y = true) : x = y := by
  cases x <;> cases y <;> simp [obEq] at h
  · rfl
  · rw [h.1, avsEq_of _ _ h.2]
  · rw [h.1, avsEq_of _ _ h.2]
def oEq : Option Ob → Option Ob → Bool
  | none, none => true
  | some x, some y => obEq x y
  | _, _ => false
theorem oEq_of {x y : Option Ob} (h : oEq x y = true) : x = y := by
  cases x <;> cases y <;> simp [oEq] at h
  · rfl
  · rw [obEq_of h]
/-- what has changed: nothing but this -/
def Chg (s s' : Sto) (W : List Nat) : Prop := ∀ id, id ∉ W → s'.abs[id]? = s.abs[id]?
theorem Chg.refl (s : Sto) : Chg s s [] := fun _ _ => rfl
theorem Chg.trans {a b c : Sto} {V W : List Nat} (h : Chg a b V) (k : Chg b c W) : Chg a c (V ++ W) := fun id hid => by
  simp only [List.mem_append, not_or] at hid
  exact (k id hid.2).trans (h id hid.1)
def eqOn (W : List Nat) (s s' : Sto) : Bool := Nat.beq s.len s'.len && W.all fun i => oEq (s.get i) (s'.get i)
theorem eqOn_of {s a b : Sto} {V W : List Nat} (ha : Chg s a V) (hb : Chg s b W) (h : eqOn (V ++ W) a b = true) : a.abs = b.abs := by
  unfold eqOn at h
  simp only [Bool.and_eq_true] at h
  apply List.ext_getElem?
  intro i
  by_cases hi : i ∈ V ++ W
  · have := oEq_of (List.all_eq_true.1 h.2 i hi)
    rwa [Sto.get_abs, Sto.get_abs] at this
  · simp only [List.mem_append, not_or] at hi
    rw [ha i hi.1, hb i hi.2]

/-! ## slices of slices -/
section
variable {P : Program} {o : Oper} {F : Frm} {σ : List Ob}
theorem does_slice_own {t e : TypeId} {x y : Operand} {z : Option Value} {n bt : Nat} {id sz m : Nat} {k : IntKind} {i : Int} {h : Nat} (ho : o.op = .slice t x none (some y) none) (ht : zbu P t = some e) (hi : zb3 P e = some (z, n, bt)) (hx : F.eval x = .own id sz m) (hy : F.eval y = .s (.int k i)) (hk : i = (h : Int)) (hl : h ≤ m) : Does P o F σ (.own id sz h) σ :=
  zb4 fun G ρ hr hop => by
    have g1 := hop x (by simp [ho, Op.operands])
    have g2 := hop y (by simp [ho, Op.operands])
    rw [hx] at g1
    rw [hy] at g2
    have e2 := rep_s g2
    obtain ⟨q1, q2⟩ := elem_of ht
    subst hk
    generalize hv : ρ x = u at g1
    have key : ∀ A len cap, h ≤ cap → (Instr.sliceAt t (.slice A len cap) none (some (.int k (h : Int))) none).run P G.w = .ok (sliced A 0 h cap n) G.w := fun A len cap hc => by
      have h2 := run_slice_h (P := P) G.w t A len cap q2 k (h : Int) (by omega) (by omega)
      simp only [run_sliceAt_slice (P := P) G.w t _ _ _ _ q2, h2, q1, zcg hi, Result.andThen_ok, Int.toNat_natCast]
    cases g1 with
    | own0 _ _ A hA hm =>
      obtain rfl : h = 0 := by omega
      refine ⟨sliced A 0 0 0 n, by simp only [execOp, ho, Option.map_some, Option.map_none, hv, e2, Sem.run_bind, key A 0 0 (Nat.zero_le _), Result.andThen_ok, Sem.run_pure], ?_⟩
      simp only [sliced, if_true, Nat.sub_self]
      exact .own0 id sz A hA hm
    | own _ _ _ b cap hm hn hc hb =>
      refine ⟨sliced (some ⟨b, 0, none⟩) 0 h cap n, by simp only [execOp, ho, Option.map_some, Option.map_none, hv, e2, Sem.run_bind, key _ m cap (by omega), Result.andThen_ok, Sem.run_pure], ?_⟩
      have : sliced (some ⟨b, 0, none⟩) 0 h cap n = .slice (some ⟨b, 0, none⟩) h cap := by simp [sliced, Addr.add]
      rw [this]
      exact .own id sz h b cap hm (by omega) hc hb
theorem does_slice_lh {t e : TypeId} {x y y' : Operand} {z : Option Value} {n bt : Nat} {L : List AV} {k k' : IntKind} {i i' : Int} {l h : Nat} (ho : o.op = .slice t x (some y) (some y') none) (ht : zbu P t = some e) (hi : zb3 P e = some (z, n, bt)) (hx : F.eval x = .sl L) (hy : F.eval y = .s (.int k i)) (hy' : F.eval y' = .s (.int k' i')) (hk : i = (l : Int)) (hk' : i' = (h : Int)) (hlh : l ≤ h) (hl : h ≤ L.length) (hs : ∀ e ∈ L, e.cells.length = n) : Does P o F σ (.sl ((L.take h).drop l)) σ :=
  zb4 fun G ρ hr hop => by
    have g1 := hop x (by simp [ho, Op.operands])
    have g2 := hop y (by simp [ho, Op.operands])
    have g3 := hop y' (by simp [ho, Op.operands])
    rw [hx] at g1
    rw [hy] at g2
    rw [hy'] at g3
    have e2 := rep_s g2
    have e3 := rep_s g3
    obtain ⟨q1, q2⟩ := elem_of ht
    obtain ⟨A, cap, hv, hcap⟩ : ∃ A cap, ρ x = .slice A L.length cap ∧ L.length ≤ cap := by
      generalize ρ x = u at g1
      cases g1 with
      | slnil A c => exact ⟨_, _, rfl, Nat.zero_le _⟩
      | sl b o c sz _ val hc hm h1 h2 h => exact ⟨_, _, rfl, hc⟩
    rw [hv] at g1
    have h1 := rep_sliced (s := n) g1 hlh hl hs
    refine ⟨_, ?_, h1⟩
    subst hk hk'
    have h2 := run_slice_lh (P := P) G.w t A L.length cap q2 k k' (l : Int) (h : Int) (by omega) (by omega) (by omega)
    simp only [execOp, ho, Option.map_some, Option.map_none, hv, e2, e3, Sem.run_bind, run_sliceAt_slice (P := P) G.w t _ _ _ _ q2, h2, q1, zcg hi, Result.andThen_ok, Sem.run_pure, Int.toNat_natCast]
/-- a row taken as finished ahead of an operation -/
theorem does_froz {d id sz n : Nat} {cs : List AV} {r : AV} {σ' : List Ob} (hx : F.get d = .own id sz n) (hs : σ[id]? = some (.row sz cs)) (hn : n = cs.length) (h : Does P o ((d, .sl cs) :: F) (σ.set id (.fz sz cs)) r σ') : Does P o F σ r σ' := by
  intro G a next Q hr hop hnx
  obtain ⟨he, hr2⟩ := froz_ok hr hs
  refine h (G.froz id) a next Q hr2 (fun y hy => ?_) (fun v G' e r' hv => hnx v G' (he.trans e) r' hv)
  have h1 := (hop y hy).ext he
  cases y with
  | tmp t =>
    by_cases ht : d = t
    · subst ht
      have h2 : Frm.eval ((d, .sl cs) :: F) (.tmp d) = .sl cs := get_here
      rw [h2]
      have h3 : F.eval (.tmp d) = .own id sz n := hx
      rw [h3] at h1
      exact rep_fz hr2 (by rw [List.getElem?_set_self (List.getElem?_eq_some_iff.1 hs).1]) hn h1
    · have h2 : Frm.eval ((d, .sl cs) :: F) (.tmp t) = F.eval (.tmp t) := by
        show Frm.get _ t = F.get t
        have : Nat.beq d t = false := by
          cases hb : Nat.beq d t with
          | false => rfl
          | true => exact absurd (Nat.eq_of_beq_eq_true hb) ht
        simp only [Frm.get, this, cond_false]
      rw [h2]; exact h1
  | _ => exact h1
end

/-! ## calls -/
structure CallE (P : Program) (f : FuncId) (args : List AV) (σ : List Ob) (r : AV) (σ' : List Ob) : Prop where
  ent : Enters P f
  call : ∀ (G : Cx) (vargs : Array Value), Rel G σ → vargs.size = args.length → (∀ (j : Nat) v x, vargs[j]? = some v → args[j]? = some x → Rep G v x) →
    Calls P f vargs G.w fun e w' => ∃ v G', e = .returned v ∧ G'.w = w' ∧ G.Ext G' ∧ Rel G' σ' ∧ Rep G' v r
section
variable {P : Program} {o : Oper} {F : Frm} {σ σ' : List Ob} {f : FuncId} {args : List AV} {r : AV}
theorem does_callE {fo : Operand} {ar : Array Operand} {ts : Array TypeId} {caps : List AV} (ho : o.op = .call { callee := .value fo, args := ar, argTypes := ts }) (hf : F.eval fo = .fn f caps) (hp : CallE P f args σ r σ') (ha : ar.toList.map F.eval ++ caps = args) : Does P o F σ r σ' := by
  intro G a next Q hr hop hn
  obtain ⟨cap, h1, h2, h3⟩ := call_args ho hop hf
  rw [ha] at h2 h3
  unfold Oper.wp
  rw [call_enter ho a.eval h1 hp.ent G.w, Oper.upon_enter]
  refine (hp.call G _ hr h2 h3).mono ?_
  rintro e w' ⟨v, G', rfl, rfl, he, hr', hv⟩
  exact hn v G' he hr' hv
theorem callE_fn {fn : Func} {c : Code} (hf : P.funcs[f]? = some fn) (hname : (fn.name == "runtime.NumGoroutine") = false) (hb : fn.body = some c) (hn : args.length ≤ fn.ntmps)
    (h : EWp P fn.ntmps c (argF 0 args) σ (fun e F' σ1 => (e = .normal ∨ e = .ret) ∧ σ1 = σ' ∧ ∃ xs, ResL P F' σ1 fn.results.toList xs ∧ oneOf xs = r)) : CallE P f args σ r σ' := by
  refine ⟨enters_of hf hname hb, fun G vargs hrel hsz hrep => ?_⟩
  refine calls_of_wp hf hb ?_
  have hfo : FOk G { tmps := vargs ++ Array.replicate (fn.ntmps - vargs.size) undef, defers := [] } (argF 0 args) := by
    intro d
    rw [argF_get]
    simp only [Nat.zero_le, if_true, Nat.sub_zero]
    by_cases hd : d < args.length
    · have h1 : (vargs ++ Array.replicate (fn.ntmps - vargs.size) undef).getD d undef = vargs[d]'(by omega) := by
        rw [Array.getD_eq_getD_getElem?, Array.getElem?_append_left (by omega)]
        simp [show d < vargs.size by omega]
      rw [h1]
      have h2 : args.getD d .any = args[d] := by simp [List.getD, hd]
      rw [h2]
      exact hrep d _ _ (by simp [show d < vargs.size by omega]) (by simp [hd])
    · have h2 : args.getD d .any = .any := by simp [List.getD, hd]
      rw [h2]; exact .any _
  have hs8 : S8 fn.ntmps G { tmps := vargs ++ Array.replicate (fn.ntmps - vargs.size) undef, defers := [] } (argF 0 args) σ := ⟨hrel, hfo, rfl, by simp; omega⟩
  refine Code.wp_mono (fun e a w q => ?_) (h G _ hs8)
  obtain ⟨G', F', σ1, rfl, h2, h3, he, rfl, xs, h4, rfl⟩ := q
  obtain ⟨v, h6, h7⟩ := results_run (fn := fn) h3.rel h3.fr h4
  have post : ∃ v' G'', Ending.returned v = .returned v' ∧ G''.w = G'.w ∧ G.Ext G'' ∧ Rel G'' σ1 ∧ Rep G'' v' (oneOf xs) := ⟨v, G', rfl, rfl, h2, h3.rel, h7⟩
  rcases he with rfl | rfl
  · exact ⟨h3.df, v, h6, post⟩
  · exact ⟨h3.df, v, h6, post⟩

/-! ## dropping names behind a call -/
mutual
def loB (k : Nat) : AV → Bool
  | .any | .s _ | .emp => true
  | .agg l | .sl l | .ref l | .fn _ l | .tup l => losB k l
  | .own id _ _ | .ptr id _ _ _ | .mp id | .sub id _ _ _ => Nat.blt id k
def losB (k : Nat) : List AV → Bool
  | [] => true
  | x :: l => loB k x && losB k l
end
mutual
theorem loB_of {k : Nat} : ∀ (x : AV), loB k x = true → Lo k x
  | .any, _ => .any
  | .s v, _ => .s v
  | .emp, _ => .emp
  | .agg l, h => .agg l (losB_of l (by simpa [loB] using h))
  | .sl l, h => .sl l (losB_of l (by simpa [loB] using h))
  | .ref l, h => .ref l (losB_of l (by simpa [loB] using h))
  | .fn f l, h => .fn f l (losB_of l (by simpa [loB] using h))
  | .tup l, h => .tup l (losB_of l (by simpa [loB] using h))
  | .own id a b, h => .own id a b (by simpa [loB, Nat.blt_eq] using h)
  | .ptr id a b c, h => .ptr id a b c (by simpa [loB, Nat.blt_eq] using h)
  | .mp id, h => .mp id (by simpa [loB, Nat.blt_eq] using h)
  | .sub id a b c, h => .sub id a b c (by simpa [loB, Nat.blt_eq] using h)
theorem losB_of {k : Nat} : ∀ (l : List AV), losB k l = true → ∀ c ∈ l, Lo k c
  | [], _ => by simp
  | x :: l, h => by
    simp only [losB, Bool.and_eq_true] at h
    have h1 := loB_of x h.1
    have h2 := losB_of l h.2
    intro c hc
    rcases List.mem_cons.1 hc with e | hc
    · rw [e]; exact h1
    · exact h2 c hc
end
def obLo (k : Nat) : Ob → Bool
  | .row _ cs | .fz _ cs => losB k cs
  | _ => true
def ObLo (k : Nat) : Ob → Prop
  | .row _ cs | .fz _ cs => ∀ c ∈ cs, Lo k c
  | _ => True
theorem obLo_of {k : Nat} {ob : Ob} (h : obLo k ob = true) : ObLo k ob := by
  cases ob with
  | row n cs => exact losB_of cs h
  | fz n cs => exact losB_of cs h
  | _ => trivial
theorem lo_of_cells {k : Nat} {x : AV} (h : ∀ c ∈ x.cells, Lo k c) : Lo k x := by
  by_cases hx : ∃ cs, x = .agg cs
  · obtain ⟨cs, rfl⟩ := hx; exact .agg cs h
  · have : x.cells = [x] := by cases x <;> first | rfl | (exact absurd ⟨_, rfl⟩ hx)
    exact h x (by rw [this]; simp)
/-- what stands for a value names nothing that is not there -/
theorem rep_lo {G : Cx} {k : Nat} (hk : ∀ id, k ≤ id → G.mu id = none) {v : Value} {x : AV} (h : Rep G v x) : Lo k x := by
  have key : ∀ id b, G.mu id = some b → id < k := fun id b hb => by
    rcases Nat.lt_or_ge id k with h | h
    · exact h
    · rw [hk id h] at hb; cases hb
  induction h with
  | any v => exact .any
  | s v => exact .s v
  | agg vs cs hl h1 _ ih =>
    refine .agg cs fun c hc => ?_
    obtain ⟨j, hj, rfl⟩ := List.mem_iff_getElem.1 hc
    exact ih j _ _ (Array.getElem?_eq_getElem (by omega)) (List.getElem?_eq_getElem hj)
  | emp A hA => exact .emp
  | slnil A cap => exact .sl [] (by simp)
  | sl b o cap sz l val hc hm h1 h2 _ ih =>
    refine .sl l fun e he => lo_of_cells fun c hcc => ?_
    obtain ⟨i, hi, rfl⟩ := List.mem_iff_getElem.1 he
    obtain ⟨j, hj, rfl⟩ := List.mem_iff_getElem.1 hcc
    exact ih i _ j _ (List.getElem?_eq_getElem hi) (List.getElem?_eq_getElem hj)
  | ref b o cs val h1 h2 _ ih =>
    refine .ref cs fun c hc => ?_
    obtain ⟨j, hj, rfl⟩ := List.mem_iff_getElem.1 hc
    exact ih j _ (List.getElem?_eq_getElem hj)
  | own0 id sz A hA hm => exact .own _ _ _ (key _ _ hm)
  | own id sz n b cap hm hn hc hb => exact .own _ _ _ (key _ _ hm)
  | ptr id sz k j b hm => exact .ptr _ _ _ _ (key _ _ hm)
  | fn f vs cs hl _ ih =>
    refine .fn f cs fun c hc => ?_
    obtain ⟨j, hj, rfl⟩ := List.mem_iff_getElem.1 hc
    exact ih j _ _ (Array.getElem?_eq_getElem (by omega)) (List.getElem?_eq_getElem hj)
  | tup vs cs hl _ ih =>
    refine .tup cs fun c hc => ?_
    obtain ⟨j, hj, rfl⟩ := List.mem_iff_getElem.1 hc
    exact ih j _ _ (Array.getElem?_eq_getElem (by omega)) (List.getElem?_eq_getElem hj)
  | mp id b hm => exact .mp _ (key _ _ hm)
  | sub id sz o n b cap A hm hA => exact .sub _ _ _ _ (key _ _ hm)
theorem rel_lo {G : Cx} (hr : Rel G σ) {id : Nat} {ob : Ob} (hs : σ[id]? = some ob) : ObLo σ.length ob := by
  have h1 := hr.obs id ob hs
  have row : ∀ b sz cs fr, RowAt G b sz cs fr → ∀ c ∈ cs, Lo σ.length c := by
    rintro b sz cs fr ⟨cur, t, q, h2, h3, h4, h5⟩ e he
    obtain ⟨i, hi, rfl⟩ := List.mem_iff_getElem.1 he
    obtain ⟨_, _, h6⟩ := h5 i _ (List.getElem?_eq_getElem hi)
    refine lo_of_cells fun c hc => ?_
    obtain ⟨j, hj, rfl⟩ := List.mem_iff_getElem.1 hc
    obtain ⟨v, _, h7⟩ := h6 j _ (List.getElem?_eq_getElem hj)
    exact rep_lo hr.fresh h7
  cases ob with
  | row sz cs =>
    simp only [ObOk] at h1
    cases hx : G.mu id with
    | none => rw [hx] at h1; exact h1.elim
    | some x =>
      rw [hx] at h1
      cases x with
      | none => simp only at h1; subst h1; intro c hc; simp at hc
      | some b => exact row b sz cs _ h1.1
  | fz sz cs =>
    simp only [ObOk] at h1
    cases hx : G.mu id with
    | none => rw [hx] at h1; exact h1.elim
    | some x =>
      rw [hx] at h1
      cases x with
      | none => simp only at h1; subst h1; intro c hc; simp at hc
      | some b => exact row b sz cs _ h1.1
  | _ => trivial
def Cx.cut (G : Cx) (k : Nat) : Cx := { G with mu := fun i => if i < k then G.mu i else none }
theorem cut_rel {G : Cx} {k : Nat} (hr : Rel G σ) (hk : k ≤ σ.length) (hl : ∀ ob ∈ σ.take k, ObLo k ob) : Rel (G.cut k) (σ.take k) := by
  have hlow : ∀ v x, Rep G v x → Lo k x → Rep (G.cut k) v x := fun v x h hx => h.low hx (fun _ _ h => h) (fun _ _ _ => rfl) (fun id y hid hy => by simp [Cx.cut, hid, hy]) (fun _ => zc2.refl _)
  have hmu : ∀ id b, (G.cut k).mu id = some b → G.mu id = some b := fun id b h => by
    simp only [Cx.cut] at h
    split at h
    · exact h
    · cases h
  refine ⟨hr.below, hr.le, hr.st, fun id ob hob => ?_, fun i j b hi hj hmi hmj => ?_, fun id hid => ?_⟩
  · have hmem := hl ob (List.mem_of_getElem? hob)
    rw [List.getElem?_take] at hob
    split at hob
    · rename_i hid
      have h1 := hr.obs id ob hob
      have e : (G.cut k).mu id = G.mu id := by simp [Cx.cut, hid]
      have row : ∀ b sz cs fr, (∀ c ∈ cs, Lo k c) → RowAt G b sz cs fr → RowAt (G.cut k) b sz cs fr := by
        rintro b sz cs fr hlo ⟨cur, t, q, h2, h3, h4, h5⟩
        refine ⟨cur, t, q, h2, h3, h4, fun i x hx => ⟨(h5 i x hx).1, (h5 i x hx).2.1, fun j c hc => ?_⟩⟩
        obtain ⟨v, h6, h7⟩ := (h5 i x hx).2.2 j c hc
        exact ⟨v, h6, hlow v c h7 ((hlo x (List.mem_of_getElem? hx)).cells c (List.mem_of_getElem? hc))⟩
      cases ob with
      | dead => exact fun b hb => h1 b (by rw [← e]; exact hb)
      | row sz cs =>
        have hlo : ∀ c ∈ cs, Lo k c := hmem
        simp only [ObOk] at h1 ⊢
        rw [e]
        cases hx : G.mu id with
        | none => rw [hx] at h1; exact h1
        | some x =>
          rw [hx] at h1
          cases x with
          | none => exact h1
          | some b => exact ⟨row b sz cs _ hlo h1.1, h1.2⟩
      | fz sz cs =>
        have hlo : ∀ c ∈ cs, Lo k c := hmem
        simp only [ObOk] at h1 ⊢
        rw [e]
        cases hx : G.mu id with
        | none => rw [hx] at h1; exact h1
        | some x =>
          rw [hx] at h1
          cases x with
          | none => exact h1
          | some b => exact ⟨row b sz cs _ hlo h1.1, h1.2⟩
      | mp X =>
        obtain ⟨b, g1, g2, g3, g4, g5⟩ := h1
        exact ⟨b, e.trans g1, g2, g3, g4, fun j hj => g5 j (hmu j _ hj)⟩
    · cases hob
  · have al : ∀ i, alive (σ.take k) i → alive σ i := by
      rintro i ⟨sz, cs, h⟩
      rw [List.getElem?_take] at h
      split at h
      · exact ⟨sz, cs, h⟩
      · cases h
    exact hr.inj i j b (al i hi) (al j hj) (hmu i _ hmi) (hmu j _ hmj)
  · rw [List.length_take, Nat.min_eq_left hk] at hid
    simp only [Cx.cut]
    rw [if_neg (by omega)]
theorem CallE.cut (h : CallE P f args σ r σ') (hk : σ.length ≤ σ'.length) {W : List Nat} (hW : ∀ id, id ∉ W → σ'[id]? = σ[id]?) (hl : ∀ id ∈ W, id < σ.length → ∀ ob, σ'[id]? = some ob → ObLo σ.length ob) (hr : Lo σ.length r) : CallE P f args σ r (σ'.take σ.length) :=
  ⟨h.ent, fun G vargs hrel hsz hrep => (h.call G vargs hrel hsz hrep).mono (by
    rintro e w' ⟨v, G', rfl, rfl, he, hr', hv⟩
    have hl' : ∀ ob ∈ σ'.take σ.length, ObLo σ.length ob := fun ob hob => by
      obtain ⟨id, hid, rfl⟩ := List.mem_iff_getElem.1 hob
      have hlt : id < σ.length := by rw [List.length_take] at hid; omega
      have hget : σ'[id]? = some (σ'.take σ.length)[id] := by
        have := List.getElem?_eq_getElem hid
        rw [List.getElem?_take, if_pos hlt] at this
        exact this
      by_cases hm : id ∈ W
      · exact hl id hm hlt _ hget
      · rw [hW id hm] at hget
        exact rel_lo hrel hget
    refine ⟨v, G'.cut σ.length, rfl, rfl, ⟨he.base, he.w0, he.st, he.cell, fun id x hx => ?_, he.size, he.rows, he.stN⟩, cut_rel hr' hk hl', ?_⟩
    · have hid : id < σ.length := by
        rcases Nat.lt_or_ge id σ.length with h1 | h1
        · exact h1
        · rw [hrel.fresh id h1] at hx; cases hx
      simp only [Cx.cut, if_pos hid]
      exact he.mu id x hx
    · exact hv.low hr (fun _ _ h => h) (fun _ _ _ => rfl) (fun id y hid hy => by simp [Cx.cut, hid, hy]) (fun _ => zc2.refl _))⟩
/-- all but the names below k, and one more, which gets the name k -/
def Cx.keep (G : Cx) (k m : Nat) : Cx := { G with mu := fun i => if i < k then G.mu i else if i = k then G.mu m else none }
theorem keep_rel {G : Cx} {k m : Nat} {ob0 : Ob} (hr : Rel G σ) (hk : k ≤ m) (hm : σ[m]? = some ob0) (hl : ∀ ob ∈ σ.take k, ObLo k ob) (hl0 : ObLo k ob0) : Rel (G.keep k m) (σ.take k ++ [ob0]) := by
  have hmlt : m < σ.length := (List.getElem?_eq_some_iff.1 hm).1
  have htk : (σ.take k).length = k := by rw [List.length_take]; omega
  have hlow : ∀ v x, Rep G v x → Lo k x → Rep (G.keep k m) v x := fun v x h hx => h.low hx (fun _ _ h => h) (fun _ _ _ => rfl) (fun id y hid hy => by simp [Cx.keep, hid, hy]) (fun _ => zc2.refl _)
  have hmu : ∀ i x, (G.keep k m).mu i = some x → i ≤ k ∧ G.mu (if i < k then i else m) = some x := fun i x h => by
    simp only [Cx.keep] at h
    split at h
    · rename_i h1; exact ⟨by omega, by rw [if_pos h1]; exact h⟩
    · rename_i h1
      split at h
      · rename_i h2; exact ⟨by omega, by rw [if_neg h1]; exact h⟩
      · cases h
  have horig : ∀ i ob, (σ.take k ++ [ob0])[i]? = some ob → i ≤ k ∧ σ[if i < k then i else m]? = some ob ∧ (G.keep k m).mu i = G.mu (if i < k then i else m) ∧ ObLo k ob := fun i ob h => by
    rcases Nat.lt_trichotomy i k with h1 | h1 | h1
    · rw [List.getElem?_append_left (by omega), List.getElem?_take, if_pos h1] at h
      refine ⟨by omega, by rw [if_pos h1]; exact h, by simp [Cx.keep, h1], hl ob ?_⟩
      have : (σ.take k)[i]? = some ob := by rw [List.getElem?_take, if_pos h1]; exact h
      exact List.mem_of_getElem? this
    · subst h1
      rw [List.getElem?_append_right (by omega), htk, Nat.sub_self] at h
      simp at h; subst h
      exact ⟨by omega, by rw [if_neg (by omega)]; exact hm, by simp [Cx.keep], hl0⟩
    · rw [List.getElem?_eq_none (by simp; omega)] at h; cases h
  have hinj : ∀ i j, i ≤ k → j ≤ k → (if i < k then i else m) = (if j < k then j else m) → i = j := fun i j hi hj h => by
    split at h <;> split at h <;> omega
  refine ⟨hr.below, hr.le, hr.st, fun id ob hob => ?_, fun i j b hi hj hmi hmj => ?_, fun id hid => ?_⟩
  · obtain ⟨hik, hs, e, hlo⟩ := horig id ob hob
    have h1 := hr.obs _ ob hs
    generalize (if id < k then id else m) = o at hs e h1
    have row : ∀ b sz cs fr, (∀ c ∈ cs, Lo k c) → RowAt G b sz cs fr → RowAt (G.keep k m) b sz cs fr := by
      rintro b sz cs fr hlo ⟨cur, t, q, h2, h3, h4, h5⟩
      refine ⟨cur, t, q, h2, h3, h4, fun i x hx => ⟨(h5 i x hx).1, (h5 i x hx).2.1, fun j c hc => ?_⟩⟩
      obtain ⟨v, h6, h7⟩ := (h5 i x hx).2.2 j c hc
      exact ⟨v, h6, hlow v c h7 ((hlo x (List.mem_of_getElem? hx)).cells c (List.mem_of_getElem? hc))⟩
    cases ob with
    | dead => exact fun b hb => h1 b (by rw [← e]; exact hb)
    | row sz cs =>
      simp only [ObOk] at h1 ⊢
      rw [e]
      cases hx : G.mu o with
      | none => rw [hx] at h1; exact h1
      | some x =>
        rw [hx] at h1
        cases x with
        | none => exact h1
        | some b => exact ⟨row b sz cs _ hlo h1.1, h1.2⟩
    | fz sz cs =>
      simp only [ObOk] at h1 ⊢
      rw [e]
      cases hx : G.mu o with
      | none => rw [hx] at h1; exact h1
      | some x =>
        rw [hx] at h1
        cases x with
        | none => exact h1
        | some b => exact ⟨row b sz cs _ hlo h1.1, h1.2⟩
    | mp X =>
      obtain ⟨b, g1, g2, g3, g4, g5⟩ := h1
      refine ⟨b, e.trans g1, g2, g3, g4, fun j hj => ?_⟩
      obtain ⟨hj1, hj2⟩ := hmu j _ hj
      obtain ⟨hi1, hi2⟩ := hmu id _ (e.trans g1)
      exact hinj j id hj1 hi1 ((g5 _ hj2).trans (g5 _ hi2).symm)
  · have al : ∀ i, alive (σ.take k ++ [ob0]) i → i ≤ k ∧ alive σ (if i < k then i else m) := by
      rintro i ⟨sz, cs, h⟩
      obtain ⟨h1, h2, _⟩ := horig i _ h
      exact ⟨h1, sz, cs, h2⟩
    exact hinj i j (al i hi).1 (al j hj).1 (hr.inj _ _ b (al i hi).2 (al j hj).2 (hmu i _ hmi).2 (hmu j _ hmj).2)
  · rw [List.length_append, htk] at hid
    simp only [List.length_singleton] at hid
    simp only [Cx.keep]
    rw [if_neg (by omega), if_neg (by omega)]
theorem CallE.keep {m sz n : Nat} {ob0 : Ob} (h : CallE P f args σ (.own m sz n) σ') (hk : σ.length ≤ m) (hm : σ'[m]? = some ob0) {W : List Nat} (hW : ∀ id, id ∉ W → σ'[id]? = σ[id]?) (hl : ∀ id ∈ W, id < σ.length → ∀ ob, σ'[id]? = some ob → ObLo σ.length ob) (hr : ObLo σ.length ob0) : CallE P f args σ (.own σ.length sz n) (σ'.take σ.length ++ [ob0]) :=
  ⟨h.ent, fun G vargs hrel hsz hrep => (h.call G vargs hrel hsz hrep).mono (by
    rintro e w' ⟨v, G', rfl, rfl, he, hr', hv⟩
    have hl' : ∀ ob ∈ σ'.take σ.length, ObLo σ.length ob := fun ob hob => by
      obtain ⟨id, hid, rfl⟩ := List.mem_iff_getElem.1 hob
      have hlt : id < σ.length := by rw [List.length_take] at hid; omega
      have hget : σ'[id]? = some (σ'.take σ.length)[id] := by
        have := List.getElem?_eq_getElem hid
        rw [List.getElem?_take, if_pos hlt] at this
        exact this
      by_cases hm : id ∈ W
      · exact hl id hm hlt _ hget
      · rw [hW id hm] at hget
        exact rel_lo hrel hget
    refine ⟨v, G'.keep σ.length m, rfl, rfl, ⟨he.base, he.w0, he.st, he.cell, fun id x hx => ?_, he.size, he.rows, he.stN⟩, keep_rel hr' hk hm hl' hr, ?_⟩
    · have hid : id < σ.length := by
        rcases Nat.lt_or_ge id σ.length with h1 | h1
        · exact h1
        · rw [hrel.fresh id h1] at hx; cases hx
      simp only [Cx.keep, if_pos hid]
      exact he.mu id x hx
    · have e : (G'.keep σ.length m).mu σ.length = G'.mu m := by simp [Cx.keep]
      cases hv with
      | own0 _ _ A hA hm2 => exact .own0 _ _ A hA (e.trans hm2)
      | own _ _ _ b cap hm2 hn hc hb => exact .own _ _ _ b cap (e.trans hm2) hn hc hb)⟩
end
end Go.Proofs.YtmoipmnhgdmkpaaGreat.Aw
end
