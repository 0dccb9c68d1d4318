/-
  Texts joined: ShC, AwM, ShD. Conditions: none.
-/
import Derived.Test.YtmoipmnhgdmkpaaJP6
import Derived.Test.YtmoipmnhgdmkpaaJP2
section
namespace Go.Proofs.Ytmoipmnhgdmkpaa.Aw
set_option linter.unusedSimpArgs false
set_option linter.unusedVariables false
set_option linter.unusedSectionVars false
open Go.RowKit Go.Proofs
variable {P : Program} [IsP P]

/-- how many people the first n shifts bring to period p -/
def cvP (l : List Sft) (c : List Int) : Nat → Nat → Int
  | 0, _ => 0
  | n + 1, p => cvP l c n p + if inB (gti l n).pd p = true then gti c n else 0
def okC (l : List Sft) (c : List Int) : Prop := c.length = l.length ∧ l.length ≤ 12 ∧ ∀ k, k < l.length → 0 ≤ gti c k ∧ gti c k ≤ 20
theorem cvP_bd {l : List Sft} {c : List Int} (h : okC l c) (p : Nat) : ∀ n, n ≤ l.length → 0 ≤ cvP l c n p ∧ cvP l c n p ≤ 20 * n
  | 0, _ => by simp [cvP]
  | n + 1, hn => by
    have ih := cvP_bd h p n (by omega)
    have h2 := h.2.2 n (by omega)
    unfold cvP
    split <;> omega
def shF (d : List Int) (l : List Sft) (c : List Int) : Nat → Nat → Int
  | 0, _ => -1
  | n + 1, k => if cvP l c l.length k < gti d k then (k : Int) else shF d l c n (k + 1)
def shE (d : List Int) (l : List Sft) (c : List Int) : Int := shF d l c d.length 0
/-- the row of the people, while the periods of shift i are gone through up to the j-th -/
def hasF (l : List Sft) (c : List Int) (i j : Nat) (p : Nat) : Int := cvP l c i p + if inB ((gti l i).pd.take j) p = true then gti c i else 0
def hasL (n : Nat) (l : List Sft) (c : List Int) (i j : Nat) : List Int := (List.range n).map (hasF l c i j)
theorem hasL_get {n : Nat} {l : List Sft} {c : List Int} {i j p : Nat} (h : p < n) : ((hasL n l c i j).map eI)[p]? = some (eI (hasF l c i j p)) := by
  unfold hasL
  rw [List.map_map, List.getElem?_map, List.getElem?_range h]; rfl
theorem inB_nil (p : Int) : inB [] p = false := rfl
theorem inB_iff {l : List Int} {p : Int} : inB l p = true ↔ p ∈ l := by
  unfold inB
  rw [List.any_eq_true]
  constructor
  · rintro ⟨x, h1, h2⟩; rw [decide_eq_true_eq] at h2; exact h2 ▸ h1
  · exact fun h => ⟨p, h, decide_eq_true rfl⟩
theorem take_snoc {α : Type} [Inhabited α] {l : List α} {k : Nat} (h : k < l.length) : l.take (k + 1) = l.take k ++ [gti l k] := by
  rw [List.take_add_one, gti_get h]; rfl
theorem inB_step {l : List Int} {j : Nat} (h : j < l.length) (p : Int) : inB (l.take (j + 1)) p = true ↔ inB (l.take j) p = true ∨ gti l j = p := by
  rw [inB_iff, inB_iff, take_snoc h, List.mem_append, List.mem_singleton]
  constructor
  · rintro (h | h); exact .inl h; exact .inr h.symm
  · rintro (h | h); exact .inl h; exact .inr h.symm
/-- the periods of a shift ascend -/
theorem asc {l : List Int} (h : ∀ k, k < l.length → 0 < k → gti l (k - 1) < gti l k) : ∀ b a, a < b → b < l.length → gti l a < gti l b
  | 0, a, hab, hb => by omega
  | b + 1, a, hab, hb => by
    have h1 := h (b + 1) hb (by omega)
    rw [Nat.add_sub_cancel] at h1
    by_cases e : a = b
    · subst e; exact h1
    · have := asc h b a (by omega) (by omega); omega
theorem inB_new {l : List Int} (h : ∀ k, k < l.length → 0 < k → gti l (k - 1) < gti l k) {j : Nat} (hj : j < l.length) : inB (l.take j) (gti l j) = false := by
  rw [Bool.eq_false_iff, Ne, inB_iff]
  intro hm
  obtain ⟨i, hi, he⟩ := List.mem_iff_getElem.1 hm
  have hi2 : i < j := by simp at hi; omega
  have h1 := asc h j i hi2 hj
  have h2 := gti_get (l := l) (k := i) (by omega)
  rw [List.getElem_take] at he
  rw [List.getElem?_eq_getElem (by omega)] at h2
  have := Option.some.inj h2
  omega
theorem has_set {n : Nat} {l : List Sft} {c : List Int} {i j p : Nat} (hj : j < (gti l i).pd.length) (hp : gti (gti l i).pd j = (p : Int)) (hpn : p < n) (hnew : inB ((gti l i).pd.take j) p = false) : ((hasL n l c i j).map eI).set p (eI (hasF l c i j p + gti c i)) = (hasL n l c i (j + 1)).map eI := by
  refine List.ext_getElem? fun q => ?_
  rw [List.getElem?_set]
  by_cases hqn : q < n
  · rw [hasL_get hqn]
    split
    · rename_i e
      subst e
      rw [if_pos (by simp [hasL]; exact hqn), hasL_get hqn]
      congr 2
      unfold hasF
      rw [if_neg (by rw [hnew]; simp), if_pos ((inB_step hj p).2 (.inr hp))]
      omega
    · rename_i e
      rw [hasL_get hqn]
      congr 2
      unfold hasF
      congr 1
      by_cases h1 : inB ((gti l i).pd.take j) q = true
      · rw [if_pos h1, if_pos ((inB_step hj q).2 (.inl h1))]
      · rw [if_neg h1, if_neg (fun h2 => by
          rcases (inB_step hj q).1 h2 with h3 | h3
          · exact h1 h3
          · omega)]
  · have e1 : ((hasL n l c i (j + 1)).map eI)[q]? = none := List.getElem?_eq_none (by simp [hasL]; omega)
    have e2 : ((hasL n l c i j).map eI)[q]? = none := List.getElem?_eq_none (by simp [hasL]; omega)
    rw [e1, e2]
    split
    · rename_i e; omega
    · rfl
theorem has_zero (n : Nat) (l : List Sft) (c : List Int) : List.replicate n (eI 0) = (hasL n l c 0 0).map eI := by
  refine List.ext_getElem? fun q => ?_
  by_cases hqn : q < n
  · rw [hasL_get hqn, List.getElem?_replicate, if_pos hqn]; rfl
  · rw [List.getElem?_eq_none (by simp; omega), List.getElem?_eq_none (by simp [hasL]; omega)]
theorem has_next (n : Nat) (l : List Sft) (c : List Int) (i : Nat) : hasL n l c i (gti l i).pd.length = hasL n l c (i + 1) 0 := by
  unfold hasL
  congr 1
  funext p
  unfold hasF
  rw [List.take_length, List.take_zero, inB_nil]
  simp [cvP]
theorem hasF_bd {l : List Sft} {c : List Int} (h : okC l c) {i : Nat} (hi : i < l.length) (j p : Nat) : 0 ≤ hasF l c i j p ∧ hasF l c i j p ≤ 20 * (i + 1) := by
  have h1 := cvP_bd h p i (by omega)
  have h2 := h.2.2 i hi
  unfold hasF
  split <;> omega
theorem hasF_zero (l : List Sft) (c : List Int) (p : Nat) (i : Nat) : hasF l c i 0 p = cvP l c i p := by
  unfold hasF; rw [List.take_zero, inB_nil, if_neg (by simp), Int.add_zero]
set_option maxHeartbeats 2000000 in
theorem short_pf (d : List Int) (l : List Sft) (c : List Int) (hv : validS d l = true) (hc : okC l c) : Pure P 23 [eL eI d, eL eSh l, eL eI c] (eI (shE d l c)) := by
  obtain ⟨⟨q1, q2, q3⟩, qd, ql⟩ := validS_iff hv
  have hcl := hc.1
  refine aw_fn (by rw [IsP.eq (P := P)]; exact Try.func23) rfl rfl rfl rfl rfl (by repeat' (first | exact Lo.s _ | exact zah | refine zae ?_ ?_ | refine zai ?_ | refine Lo.cells ?_ | refine Lo.agg _ ?_ | refine Lo.ref _ ?_ | refine Lo.tup _ ?_ | refine Lo.fn _ _ ?_ | refine Lo.sl _ ?_ | intro _)) (by repeat' (first | exact Lo.s _ | exact zah | refine zae ?_ ?_ | refine zai ?_ | refine Lo.cells ?_ | refine Lo.agg _ ?_ | refine Lo.ref _ ?_ | refine Lo.tup _ ?_ | refine Lo.fn _ _ ?_ | refine Lo.sl _ ?_ | intro _)) (by simp only [argF]; rfl) ?_
  repeat (first | refine zag ?_ | refine zap ?_ | refine zad ?_ | refine zaq ?_ | refine zac ?_)
  refine zaf ?_
  refine zab rfl rfl (zaa rfl) (mv_s (.inr rfl) rfl) ?_
  refine zan ?_
  repeat (first | refine zag ?_ | refine zap ?_ | refine zad ?_ | refine zaq ?_ | refine zac ?_)
  refine zaf ?_
  first | refine zab rfl rfl (zaa rfl) (za3 (.inl rfl) rfl) ?_ | refine zab rfl rfl (zaa rfl) (zbi (.inl rfl) rfl) ?_ | refine zab rfl rfl (zaa rfl) (mv_s (.inl rfl) rfl) ?_ | refine zab rfl rfl (zaa rfl) (za4 (.inl rfl) rfl) ?_
  first | refine zab rfl rfl (zaa rfl) (za0 rfl ts22 rfl) ?_ | refine zab rfl rfl (zaa rfl) (za7 rfl ts22 rfl) ?_ | refine zab rfl rfl (zaa rfl) (zaw rfl ts22 rfl) ?_ | refine zab rfl rfl (zaa rfl) (zbc rfl ts22 rfl) ?_ | refine zab rfl rfl (zaa rfl) (zax rfl ts22 rfl) ?_
  refine zab rfl rfl (zaa rfl) (does_make rfl ts22 ti3 rfl rfl (by decide) rfl rfl rfl rfl (by omega) (by omega) (by omega)) ?_
  first | refine zab rfl rfl (zaa rfl) (za3 (.inr rfl) rfl) ?_ | refine zab rfl rfl (zaa rfl) (zbi (.inr rfl) rfl) ?_ | refine zab rfl rfl (zaa rfl) (mv_s (.inr rfl) rfl) ?_ | refine zab rfl rfl (zaa rfl) (za4 (.inr rfl) rfl) ?_
  refine zan ?_
  repeat (first | refine zag ?_ | refine zap ?_ | refine zad ?_ | refine zaq ?_ | refine zac ?_)
  refine zaf ?_
  first | refine zab rfl rfl (zaa rfl) (za3 (.inl rfl) rfl) ?_ | refine zab rfl rfl (zaa rfl) (zbi (.inl rfl) rfl) ?_ | refine zab rfl rfl (zaa rfl) (mv_s (.inl rfl) rfl) ?_ | refine zab rfl rfl (zaa rfl) (za4 (.inl rfl) rfl) ?_
  first | refine zab rfl rfl (zaa rfl) (za0 rfl ts23 rfl) ?_ | refine zab rfl rfl (zaa rfl) (za7 rfl ts23 rfl) ?_ | refine zab rfl rfl (zaa rfl) (zaw rfl ts23 rfl) ?_ | refine zab rfl rfl (zaa rfl) (zbc rfl ts23 rfl) ?_ | refine zab rfl rfl (zaa rfl) (zax rfl ts23 rfl) ?_
  refine zab rfl rfl (zaa rfl) (mv_s (.inl rfl) rfl) ?_
  refine zan ?_
  repeat (first | refine zag ?_ | refine zap ?_ | refine zad ?_ | refine zaq ?_ | refine zac ?_)
  refine aw_loops (S := Nat) (fun i => [(0, eL eI d), (1, eL eSh l), (2, eL eI c), (7, .own 0 1 d.length), (17, eL eSh l), (18, eI l.length), (19, eI i)]) (fun i => [.row 1 ((hasL d.length l c i 0).map eI)]) (fun i => i ≤ l.length) (fun i => l.length - i) 0 (wk_st [0] (by decide) ⟨⟨_, rfl, .rowE (by repeat' (first | exact Lo.s _ | exact zah | exact zba | refine zae ?_ ?_ | refine zaz ?_ ?_ | refine zai ?_ | refine zbb ?_ | refine Lo.cells ?_ | refine Lo.agg _ ?_ | refine Lo.sl _ ?_ | intro _)) (has_zero d.length l c)⟩, trivial⟩ ⟨.lo _ (by repeat' (first | exact Lo.s _ | exact zah | refine zae ?_ ?_ | refine zai ?_ | refine Lo.cells ?_ | refine Lo.agg _ ?_ | refine Lo.ref _ ?_ | refine Lo.tup _ ?_ | refine Lo.fn _ _ ?_ | refine Lo.sl _ ?_ | intro _)), .lo _ (by repeat' (first | exact Lo.s _ | exact zah | refine zae ?_ ?_ | refine zai ?_ | refine Lo.cells ?_ | refine Lo.agg _ ?_ | refine Lo.ref _ ?_ | refine Lo.tup _ ?_ | refine Lo.fn _ _ ?_ | refine Lo.sl _ ?_ | intro _)), .lo _ (by repeat' (first | exact Lo.s _ | exact zah | refine zae ?_ ?_ | refine zai ?_ | refine Lo.cells ?_ | refine Lo.agg _ ?_ | refine Lo.ref _ ?_ | refine Lo.tup _ ?_ | refine Lo.fn _ _ ?_ | refine Lo.sl _ ?_ | intro _)), .own 0 0 1 _ _ rfl rfl, .lo _ (by repeat' (first | exact Lo.s _ | exact zah | refine zae ?_ ?_ | refine zai ?_ | refine Lo.cells ?_ | refine Lo.agg _ ?_ | refine Lo.ref _ ?_ | refine Lo.tup _ ?_ | refine Lo.fn _ _ ?_ | refine Lo.sl _ ?_ | intro _)), .lo _ (by repeat' (first | exact Lo.s _ | exact zah | refine zae ?_ ?_ | refine zai ?_ | refine Lo.cells ?_ | refine Lo.agg _ ?_ | refine Lo.ref _ ?_ | refine Lo.tup _ ?_ | refine Lo.fn _ _ ?_ | refine Lo.sl _ ?_ | intro _)), .lo _ (by repeat' (first | exact Lo.s _ | exact zah | refine zae ?_ ?_ | refine zai ?_ | refine Lo.cells ?_ | refine Lo.agg _ ?_ | refine Lo.ref _ ?_ | refine Lo.tup _ ?_ | refine Lo.fn _ _ ?_ | refine Lo.sl _ ?_ | intro _)), trivial⟩) (Nat.zero_le _) (fun i hi => ?_)
  repeat (first | refine zag ?_ | refine zap ?_ | refine zad ?_ | refine zaq ?_ | refine zac ?_)
  all_goals refine zaf ?_
  all_goals (first | refine zbj rfl rfl (zaa rfl) (zbd rfl rfl rfl) (fun h20 => ?_) (fun h20 => ?_) | refine zbk rfl rfl (zaa rfl) (zbd rfl rfl rfl) (fun h20 => ?_) (fun h20 => ?_))
  all_goals refine zan ?_
  all_goals (repeat (first | refine zag ?_ | refine zap ?_ | refine zad ?_ | refine zaq ?_ | refine zac ?_))
  all_goals (first | refine zbq rfl ?_ | refine zbm rfl ?_)
  all_goals (repeat (first | refine zag ?_ | refine zap ?_ | refine zad ?_ | refine zaq ?_ | refine zac ?_))
  · have hlt : i < l.length := by omega
    obtain ⟨s, hs⟩ : ∃ s, gti l i = s := ⟨_, rfl⟩
    have hix : (l.map eSh)[i]? = some (eSh s) := by rw [← hs]; exact zb5 hlt
    have hsl := (ql i hlt).2
    rw [hs] at hsl
    refine zaf ?_
    refine zab rfl rfl (zaa rfl) (mv_s (.inl rfl) rfl) ?_
    first | refine zab rfl rfl (zaa rfl) (za1 rfl ts23 ti39 rfl rfl rfl hix rfl) ?_ | refine zab rfl rfl (zaa rfl) (zav rfl ts23 ti39 rfl rfl rfl hix) ?_
    first | refine zab rfl rfl (zaa rfl) (za9 rfl ta39 ti39 rfl rfl) ?_ | refine zab rfl rfl (zaa rfl) (zbf rfl ta39 ti39 rfl rfl rfl rfl rfl) ?_ | refine zab rfl rfl (zaa rfl) (za8 rfl ta39 ti39 rfl (Nat.le_of_ble_eq_true rfl)) ?_ | refine zab rfl rfl (zaa rfl) (zbg rfl ta39 ti39 rfl rfl rfl rfl (Nat.le_of_ble_eq_true rfl)) ?_
    refine zab rfl rfl (zaa rfl) (zbu rfl ti39 rfl rfl) ?_
    refine zab rfl rfl (zaa rfl) (mv_s (.inr rfl) rfl) ?_
    refine zb2 rfl (zaa rfl) (zbe rfl ti39 rfl rfl rfl rfl rfl rfl (by decide) (by decide)) ?_
    refine zan ?_
    repeat (first | refine zag ?_ | refine zap ?_ | refine zad ?_ | refine zaq ?_ | refine zac ?_)
    refine zb3 (wk_froz (id := 1) rfl) ?_
    refine zb3 (wk_ref (d := 9) rfl rfl rfl) ?_
    refine zaf ?_
    first | refine zab rfl rfl (zaa rfl) (zal rfl tf39_0 (by decide) rfl) ?_ | refine zab rfl rfl (zaa rfl) (zaj rfl tf39_0 (by decide) rfl) ?_
    first | refine zab rfl rfl (zaa rfl) (zao rfl ta22 rfl) ?_ | refine zab rfl rfl (zaa rfl) (zar rfl ta22 rfl rfl rfl rfl rfl) ?_
    first | refine zab rfl rfl (zaa rfl) (za0 rfl ts22 rfl) ?_ | refine zab rfl rfl (zaa rfl) (za7 rfl ts22 rfl) ?_ | refine zab rfl rfl (zaa rfl) (zaw rfl ts22 rfl) ?_ | refine zab rfl rfl (zaa rfl) (zbc rfl ts22 rfl) ?_ | refine zab rfl rfl (zaa rfl) (zax rfl ts22 rfl) ?_
    refine zab rfl rfl (zaa rfl) (mv_s (.inl rfl) rfl) ?_
    refine zan ?_
    repeat (first | refine zag ?_ | refine zap ?_ | refine zad ?_ | refine zaq ?_ | refine zac ?_)
    refine aw_bdm (d := 25) rfl (fun hm3 => ?_)
    unfold maxLen at hm3
    refine aw_loops (S := Nat) (fun j => [(0, eL eI d), (1, eL eSh l), (2, eL eI c), (7, .own 0 1 d.length), (17, eL eSh l), (18, eI l.length), (19, eI i), (8, eI i), (25, eL eI s.pd), (26, eI s.pd.length), (27, eI j)]) (fun j => [.row 1 ((hasL d.length l c i j).map eI)]) (fun j => j ≤ s.pd.length) (fun j => s.pd.length - j) 0 (wk_st [0] (by decide) ⟨⟨_, rfl, .rowE (by repeat' (first | exact Lo.s _ | exact zah | exact zba | refine zae ?_ ?_ | refine zaz ?_ ?_ | refine zai ?_ | refine zbb ?_ | refine Lo.cells ?_ | refine Lo.agg _ ?_ | refine Lo.sl _ ?_ | intro _)) rfl⟩, trivial⟩ ⟨.lo _ (by repeat' (first | exact Lo.s _ | exact zah | refine zae ?_ ?_ | refine zai ?_ | refine Lo.cells ?_ | refine Lo.agg _ ?_ | refine Lo.ref _ ?_ | refine Lo.tup _ ?_ | refine Lo.fn _ _ ?_ | refine Lo.sl _ ?_ | intro _)), .lo _ (by repeat' (first | exact Lo.s _ | exact zah | refine zae ?_ ?_ | refine zai ?_ | refine Lo.cells ?_ | refine Lo.agg _ ?_ | refine Lo.ref _ ?_ | refine Lo.tup _ ?_ | refine Lo.fn _ _ ?_ | refine Lo.sl _ ?_ | intro _)), .lo _ (by repeat' (first | exact Lo.s _ | exact zah | refine zae ?_ ?_ | refine zai ?_ | refine Lo.cells ?_ | refine Lo.agg _ ?_ | refine Lo.ref _ ?_ | refine Lo.tup _ ?_ | refine Lo.fn _ _ ?_ | refine Lo.sl _ ?_ | intro _)), .own 0 0 1 _ _ rfl rfl, .lo _ (by repeat' (first | exact Lo.s _ | exact zah | refine zae ?_ ?_ | refine zai ?_ | refine Lo.cells ?_ | refine Lo.agg _ ?_ | refine Lo.ref _ ?_ | refine Lo.tup _ ?_ | refine Lo.fn _ _ ?_ | refine Lo.sl _ ?_ | intro _)), .lo _ (by repeat' (first | exact Lo.s _ | exact zah | refine zae ?_ ?_ | refine zai ?_ | refine Lo.cells ?_ | refine Lo.agg _ ?_ | refine Lo.ref _ ?_ | refine Lo.tup _ ?_ | refine Lo.fn _ _ ?_ | refine Lo.sl _ ?_ | intro _)), .lo _ (by repeat' (first | exact Lo.s _ | exact zah | refine zae ?_ ?_ | refine zai ?_ | refine Lo.cells ?_ | refine Lo.agg _ ?_ | refine Lo.ref _ ?_ | refine Lo.tup _ ?_ | refine Lo.fn _ _ ?_ | refine Lo.sl _ ?_ | intro _)), .lo _ (by repeat' (first | exact Lo.s _ | exact zah | refine zae ?_ ?_ | refine zai ?_ | refine Lo.cells ?_ | refine Lo.agg _ ?_ | refine Lo.ref _ ?_ | refine Lo.tup _ ?_ | refine Lo.fn _ _ ?_ | refine Lo.sl _ ?_ | intro _)), .lo _ (by repeat' (first | exact Lo.s _ | exact zah | refine zae ?_ ?_ | refine zai ?_ | refine Lo.cells ?_ | refine Lo.agg _ ?_ | refine Lo.ref _ ?_ | refine Lo.tup _ ?_ | refine Lo.fn _ _ ?_ | refine Lo.sl _ ?_ | intro _)), .lo _ (by repeat' (first | exact Lo.s _ | exact zah | refine zae ?_ ?_ | refine zai ?_ | refine Lo.cells ?_ | refine Lo.agg _ ?_ | refine Lo.ref _ ?_ | refine Lo.tup _ ?_ | refine Lo.fn _ _ ?_ | refine Lo.sl _ ?_ | intro _)), .lo _ (by repeat' (first | exact Lo.s _ | exact zah | refine zae ?_ ?_ | refine zai ?_ | refine Lo.cells ?_ | refine Lo.agg _ ?_ | refine Lo.ref _ ?_ | refine Lo.tup _ ?_ | refine Lo.fn _ _ ?_ | refine Lo.sl _ ?_ | intro _)), trivial⟩) (Nat.zero_le _) (fun j hj => ?_)
    repeat (first | refine zag ?_ | refine zap ?_ | refine zad ?_ | refine zaq ?_ | refine zac ?_)
    all_goals refine zaf ?_
    all_goals (first | refine zbj rfl rfl (zaa rfl) (zbd rfl rfl rfl) (fun h28 => ?_) (fun h28 => ?_) | refine zbk rfl rfl (zaa rfl) (zbd rfl rfl rfl) (fun h28 => ?_) (fun h28 => ?_))
    all_goals refine zan ?_
    all_goals (repeat (first | refine zag ?_ | refine zap ?_ | refine zad ?_ | refine zaq ?_ | refine zac ?_))
    all_goals (first | refine zbq rfl ?_ | refine zbm rfl ?_)
    all_goals (repeat (first | refine zag ?_ | refine zap ?_ | refine zad ?_ | refine zaq ?_ | refine zac ?_))
    · have hlt2 : j < s.pd.length := by omega
      obtain ⟨g1, g2, g3⟩ := hsl j hlt2
      obtain ⟨p, hp⟩ : ∃ p : Nat, gti s.pd j = (p : Int) := ⟨(gti s.pd j).toNat, by omega⟩
      have hpn : p < d.length := by omega
      have hnew : inB ((gti l i).pd.take j) p = false := by
        rw [hs, ← hp]; exact inB_new (fun k hk h0 => (hsl k hk).2.2 h0) hlt2
      have hget := hasL_get (l := l) (c := c) (i := i) (j := j) hpn
      have hset := has_set (c := c) (by rw [hs]; exact hlt2) (by rw [hs]; exact hp) hpn hnew
      have hbd := hasF_bd hc hlt j p
      have hcb := hc.2.2 i hlt
      refine zaf ?_
      first | refine zab rfl rfl (zaa rfl) (za1 rfl ts22 ti3 rfl rfl rfl (zb5 (by omega)) rfl) ?_ | refine zab rfl rfl (zaa rfl) (zav rfl ts22 ti3 rfl rfl rfl (by omega)) ?_
      first | refine zab rfl rfl (zaa rfl) (zao rfl ta3 rfl) ?_ | refine zab rfl rfl (zaa rfl) (zar rfl ta3 rfl rfl rfl rfl rfl) ?_
      refine zab rfl rfl (zaa rfl) (mv_s (.inr rfl) rfl) ?_
      refine zan ?_
      repeat (first | refine zag ?_ | refine zap ?_ | refine zad ?_ | refine zaq ?_ | refine zac ?_)
      refine aw_draw hmix ?_
      refine adraw_lastT rfl (by kernel_rfl) ?_
      refine adraw_quiet (by kernel_rfl) ?_
      simp only [List.dropLast]
      first | refine zay rfl rfl (zaa rfl) (za3 (.inl rfl) rfl) ?_ | refine zay rfl rfl (zaa rfl) (zbi (.inl rfl) rfl) ?_ | refine zay rfl rfl (zaa rfl) (mv_s (.inl rfl) rfl) ?_ | refine zay rfl rfl (zaa rfl) (za4 (.inl rfl) rfl) ?_
      refine zay rfl rfl (zaa rfl) (mv_s (.inl rfl) rfl) ?_
      first | refine zay rfl rfl (zaa rfl) (za1 rfl ts22 ti3 rfl rfl hp hpn rfl) ?_ | refine zay rfl rfl (zaa rfl) (zav rfl ts22 ti3 rfl rfl hp hpn) ?_
      first | refine zay rfl rfl (zaa rfl) (zao rfl ta3 rfl) ?_ | refine zay rfl rfl (zaa rfl) (zar rfl ta3 rfl rfl rfl hget rfl) ?_
      first | refine zay rfl rfl (zaa rfl) (za3 (.inl rfl) rfl) ?_ | refine zay rfl rfl (zaa rfl) (zbi (.inl rfl) rfl) ?_ | refine zay rfl rfl (zaa rfl) (mv_s (.inl rfl) rfl) ?_ | refine zay rfl rfl (zaa rfl) (za4 (.inl rfl) rfl) ?_
      refine zay rfl rfl (zaa rfl) (mv_s (.inl rfl) rfl) ?_
      first | refine zay rfl rfl (zaa rfl) (za1 rfl ts22 ti3 rfl rfl rfl (zb5 (by omega)) rfl) ?_ | refine zay rfl rfl (zaa rfl) (zav rfl ts22 ti3 rfl rfl rfl (by omega)) ?_
      first | refine zay rfl rfl (zaa rfl) (zao rfl ta3 rfl) ?_ | refine zay rfl rfl (zaa rfl) (zar rfl ta3 rfl rfl rfl rfl rfl) ?_
      refine zay rfl rfl (zaa rfl) (zbw rfl rfl rfl (IntWalk.i64_in _ (by omega))) ?_
      first | refine zay rfl rfl (zaa rfl) (za1 rfl ts22 ti3 rfl rfl hp hpn rfl) ?_ | refine zay rfl rfl (zaa rfl) (zav rfl ts22 ti3 rfl rfl hp hpn) ?_
      refine qx_nil ?_
      refine zap ?_
      refine zb2 rfl (zaa rfl) (zbe rfl ti3 rfl rfl rfl hget rfl rfl (by decide) (by decide)) ?_
      refine zan ?_
      repeat (first | refine zag ?_ | refine zap ?_ | refine zad ?_ | refine zaq ?_ | refine zac ?_)
      refine zaf ?_
      refine zab rfl rfl (zaa rfl) (zbw rfl rfl rfl (IntWalk.i64_in _ (by omega))) ?_
      refine zab rfl rfl (zaa rfl) (mv_s (.inl rfl) rfl) ?_
      refine zan ?_
      repeat (first | refine zag ?_ | refine zap ?_ | refine zad ?_ | refine zaq ?_ | refine zac ?_)
      exact ⟨j + 1, by omega, by omega, wk_st [0] (by decide) ⟨⟨_, rfl, .rowE (by repeat' (first | exact Lo.s _ | exact zah | exact zba | refine zae ?_ ?_ | refine zaz ?_ ?_ | refine zai ?_ | refine zbb ?_ | refine Lo.cells ?_ | refine Lo.agg _ ?_ | refine Lo.sl _ ?_ | intro _)) hset⟩, trivial⟩ ⟨.lo _ (by repeat' (first | exact Lo.s _ | exact zah | refine zae ?_ ?_ | refine zai ?_ | refine Lo.cells ?_ | refine Lo.agg _ ?_ | refine Lo.ref _ ?_ | refine Lo.tup _ ?_ | refine Lo.fn _ _ ?_ | refine Lo.sl _ ?_ | intro _)), .lo _ (by repeat' (first | exact Lo.s _ | exact zah | refine zae ?_ ?_ | refine zai ?_ | refine Lo.cells ?_ | refine Lo.agg _ ?_ | refine Lo.ref _ ?_ | refine Lo.tup _ ?_ | refine Lo.fn _ _ ?_ | refine Lo.sl _ ?_ | intro _)), .lo _ (by repeat' (first | exact Lo.s _ | exact zah | refine zae ?_ ?_ | refine zai ?_ | refine Lo.cells ?_ | refine Lo.agg _ ?_ | refine Lo.ref _ ?_ | refine Lo.tup _ ?_ | refine Lo.fn _ _ ?_ | refine Lo.sl _ ?_ | intro _)), .own 0 0 1 _ _ rfl rfl, .lo _ (by repeat' (first | exact Lo.s _ | exact zah | refine zae ?_ ?_ | refine zai ?_ | refine Lo.cells ?_ | refine Lo.agg _ ?_ | refine Lo.ref _ ?_ | refine Lo.tup _ ?_ | refine Lo.fn _ _ ?_ | refine Lo.sl _ ?_ | intro _)), .lo _ (by repeat' (first | exact Lo.s _ | exact zah | refine zae ?_ ?_ | refine zai ?_ | refine Lo.cells ?_ | refine Lo.agg _ ?_ | refine Lo.ref _ ?_ | refine Lo.tup _ ?_ | refine Lo.fn _ _ ?_ | refine Lo.sl _ ?_ | intro _)), .lo _ (by repeat' (first | exact Lo.s _ | exact zah | refine zae ?_ ?_ | refine zai ?_ | refine Lo.cells ?_ | refine Lo.agg _ ?_ | refine Lo.ref _ ?_ | refine Lo.tup _ ?_ | refine Lo.fn _ _ ?_ | refine Lo.sl _ ?_ | intro _)), .lo _ (by repeat' (first | exact Lo.s _ | exact zah | refine zae ?_ ?_ | refine zai ?_ | refine Lo.cells ?_ | refine Lo.agg _ ?_ | refine Lo.ref _ ?_ | refine Lo.tup _ ?_ | refine Lo.fn _ _ ?_ | refine Lo.sl _ ?_ | intro _)), .lo _ (by repeat' (first | exact Lo.s _ | exact zah | refine zae ?_ ?_ | refine zai ?_ | refine Lo.cells ?_ | refine Lo.agg _ ?_ | refine Lo.ref _ ?_ | refine Lo.tup _ ?_ | refine Lo.fn _ _ ?_ | refine Lo.sl _ ?_ | intro _)), .lo _ (by repeat' (first | exact Lo.s _ | exact zah | refine zae ?_ ?_ | refine zai ?_ | refine Lo.cells ?_ | refine Lo.agg _ ?_ | refine Lo.ref _ ?_ | refine Lo.tup _ ?_ | refine Lo.fn _ _ ?_ | refine Lo.sl _ ?_ | intro _)), .lo _ (by repeat' (first | exact Lo.s _ | exact zah | refine zae ?_ ?_ | refine zai ?_ | refine Lo.cells ?_ | refine Lo.agg _ ?_ | refine Lo.ref _ ?_ | refine Lo.tup _ ?_ | refine Lo.fn _ _ ?_ | refine Lo.sl _ ?_ | intro _)), trivial⟩⟩
    · have e : j = s.pd.length := by omega
      subst e
      (refine aw_exit ?_; repeat (first | refine ath_x ?_ | refine abl_hit ?_ | refine abl_miss rfl ?_ | refine zaq ?_ | refine zap ?_ | refine zag ?_ | refine zad ?_ | refine zac ?_))
      refine zaf ?_
      refine zab rfl rfl (zaa rfl) (zbw rfl rfl rfl (IntWalk.i64_in _ (by omega))) ?_
      refine zab rfl rfl (zaa rfl) (mv_s (.inl rfl) rfl) ?_
      refine zan ?_
      repeat (first | refine zag ?_ | refine zap ?_ | refine zad ?_ | refine zaq ?_ | refine zac ?_)
      have hnx := has_next d.length l c i
      rw [hs] at hnx
      exact ⟨i + 1, by omega, by omega, wk_st [0] (by decide) ⟨⟨_, rfl, .rowE (by repeat' (first | exact Lo.s _ | exact zah | exact zba | refine zae ?_ ?_ | refine zaz ?_ ?_ | refine zai ?_ | refine zbb ?_ | refine Lo.cells ?_ | refine Lo.agg _ ?_ | refine Lo.sl _ ?_ | intro _)) (by rw [hnx])⟩, trivial⟩ ⟨.lo _ (by repeat' (first | exact Lo.s _ | exact zah | refine zae ?_ ?_ | refine zai ?_ | refine Lo.cells ?_ | refine Lo.agg _ ?_ | refine Lo.ref _ ?_ | refine Lo.tup _ ?_ | refine Lo.fn _ _ ?_ | refine Lo.sl _ ?_ | intro _)), .lo _ (by repeat' (first | exact Lo.s _ | exact zah | refine zae ?_ ?_ | refine zai ?_ | refine Lo.cells ?_ | refine Lo.agg _ ?_ | refine Lo.ref _ ?_ | refine Lo.tup _ ?_ | refine Lo.fn _ _ ?_ | refine Lo.sl _ ?_ | intro _)), .lo _ (by repeat' (first | exact Lo.s _ | exact zah | refine zae ?_ ?_ | refine zai ?_ | refine Lo.cells ?_ | refine Lo.agg _ ?_ | refine Lo.ref _ ?_ | refine Lo.tup _ ?_ | refine Lo.fn _ _ ?_ | refine Lo.sl _ ?_ | intro _)), .own 0 0 1 _ _ rfl rfl, .lo _ (by repeat' (first | exact Lo.s _ | exact zah | refine zae ?_ ?_ | refine zai ?_ | refine Lo.cells ?_ | refine Lo.agg _ ?_ | refine Lo.ref _ ?_ | refine Lo.tup _ ?_ | refine Lo.fn _ _ ?_ | refine Lo.sl _ ?_ | intro _)), .lo _ (by repeat' (first | exact Lo.s _ | exact zah | refine zae ?_ ?_ | refine zai ?_ | refine Lo.cells ?_ | refine Lo.agg _ ?_ | refine Lo.ref _ ?_ | refine Lo.tup _ ?_ | refine Lo.fn _ _ ?_ | refine Lo.sl _ ?_ | intro _)), .lo _ (by repeat' (first | exact Lo.s _ | exact zah | refine zae ?_ ?_ | refine zai ?_ | refine Lo.cells ?_ | refine Lo.agg _ ?_ | refine Lo.ref _ ?_ | refine Lo.tup _ ?_ | refine Lo.fn _ _ ?_ | refine Lo.sl _ ?_ | intro _)), trivial⟩⟩
  · have e : i = l.length := by omega
    subst e
    have HI : shE d l c = shF d l c d.length 0 := rfl
    generalize shE d l c = R at HI ⊢
    (refine aw_exit ?_; repeat (first | refine ath_x ?_ | refine abl_hit ?_ | refine abl_miss rfl ?_ | refine zaq ?_ | refine zap ?_ | refine zag ?_ | refine zad ?_ | refine zac ?_))
    refine zaf ?_
    first | refine zab rfl rfl (zaa rfl) (za3 (.inl rfl) rfl) ?_ | refine zab rfl rfl (zaa rfl) (zbi (.inl rfl) rfl) ?_ | refine zab rfl rfl (zaa rfl) (mv_s (.inl rfl) rfl) ?_ | refine zab rfl rfl (zaa rfl) (za4 (.inl rfl) rfl) ?_
    first | refine zab rfl rfl (zaa rfl) (za0 rfl ts22 rfl) ?_ | refine zab rfl rfl (zaa rfl) (za7 rfl ts22 rfl) ?_ | refine zab rfl rfl (zaa rfl) (zaw rfl ts22 rfl) ?_ | refine zab rfl rfl (zaa rfl) (zbc rfl ts22 rfl) ?_ | refine zab rfl rfl (zaa rfl) (zax rfl ts22 rfl) ?_
    refine zab rfl rfl (zaa rfl) (mv_s (.inl rfl) rfl) ?_
    refine zan ?_
    repeat (first | refine zag ?_ | refine zap ?_ | refine zad ?_ | refine zaq ?_ | refine zac ?_)
    refine aw_loops (S := Nat) (fun k => [(7, .own 0 1 d.length), (43, eL eI d), (44, eI d.length), (45, eI k)]) (fun k => [.row 1 ((hasL d.length l c l.length 0).map eI)]) (fun k => k ≤ d.length ∧ R = shF d l c (d.length - k) k) (fun k => d.length - k) 0 (wk_st [0] (by decide) ⟨⟨_, rfl, .rowE (by repeat' (first | exact Lo.s _ | exact zah | exact zba | refine zae ?_ ?_ | refine zaz ?_ ?_ | refine zai ?_ | refine zbb ?_ | refine Lo.cells ?_ | refine Lo.agg _ ?_ | refine Lo.sl _ ?_ | intro _)) rfl⟩, trivial⟩ ⟨.own 0 0 1 _ _ rfl rfl, .lo _ (by repeat' (first | exact Lo.s _ | exact zah | refine zae ?_ ?_ | refine zai ?_ | refine Lo.cells ?_ | refine Lo.agg _ ?_ | refine Lo.ref _ ?_ | refine Lo.tup _ ?_ | refine Lo.fn _ _ ?_ | refine Lo.sl _ ?_ | intro _)), .lo _ (by repeat' (first | exact Lo.s _ | exact zah | refine zae ?_ ?_ | refine zai ?_ | refine Lo.cells ?_ | refine Lo.agg _ ?_ | refine Lo.ref _ ?_ | refine Lo.tup _ ?_ | refine Lo.fn _ _ ?_ | refine Lo.sl _ ?_ | intro _)), .lo _ (by repeat' (first | exact Lo.s _ | exact zah | refine zae ?_ ?_ | refine zai ?_ | refine Lo.cells ?_ | refine Lo.agg _ ?_ | refine Lo.ref _ ?_ | refine Lo.tup _ ?_ | refine Lo.fn _ _ ?_ | refine Lo.sl _ ?_ | intro _)), trivial⟩) ⟨Nat.zero_le _, HI⟩ (fun k hk => ?_)
    obtain ⟨hk, HI⟩ := hk
    repeat (first | refine zag ?_ | refine zap ?_ | refine zad ?_ | refine zaq ?_ | refine zac ?_)
    all_goals refine zaf ?_
    all_goals (first | refine zbj rfl rfl (zaa rfl) (zbd rfl rfl rfl) (fun h46 => ?_) (fun h46 => ?_) | refine zbk rfl rfl (zaa rfl) (zbd rfl rfl rfl) (fun h46 => ?_) (fun h46 => ?_))
    all_goals refine zan ?_
    all_goals (repeat (first | refine zag ?_ | refine zap ?_ | refine zad ?_ | refine zaq ?_ | refine zac ?_))
    all_goals (first | refine zbq rfl ?_ | refine zbm rfl ?_)
    all_goals (repeat (first | refine zag ?_ | refine zap ?_ | refine zad ?_ | refine zaq ?_ | refine zac ?_))
    · have hlt : k < d.length := by omega
      have hget := hasL_get (l := l) (c := c) (i := l.length) (j := 0) hlt
      rw [hasF_zero] at hget
      rw [show d.length - k = (d.length - (k + 1)) + 1 by omega, shF] at HI
      refine zaf ?_
      refine zab rfl rfl (zaa rfl) (mv_s (.inl rfl) rfl) ?_
      first | refine zab rfl rfl (zaa rfl) (za1 rfl ts22 ti3 rfl rfl rfl (zb5 (by omega)) rfl) ?_ | refine zab rfl rfl (zaa rfl) (zav rfl ts22 ti3 rfl rfl rfl (by omega)) ?_
      first | refine zab rfl rfl (zaa rfl) (zao rfl ta3 rfl) ?_ | refine zab rfl rfl (zaa rfl) (zar rfl ta3 rfl rfl rfl rfl rfl) ?_
      refine zab rfl rfl (zaa rfl) (mv_s (.inr rfl) rfl) ?_
      refine zab rfl rfl (zaa rfl) (mv_s (.inr rfl) rfl) ?_
      refine zan ?_
      repeat (first | refine zag ?_ | refine zap ?_ | refine zad ?_ | refine zaq ?_ | refine zac ?_)
      all_goals refine zaf ?_
      all_goals (first | refine zab rfl rfl (zaa rfl) (za3 (.inl rfl) rfl) ?_ | refine zab rfl rfl (zaa rfl) (zbi (.inl rfl) rfl) ?_ | refine zab rfl rfl (zaa rfl) (mv_s (.inl rfl) rfl) ?_ | refine zab rfl rfl (zaa rfl) (za4 (.inl rfl) rfl) ?_)
      all_goals refine zab rfl rfl (zaa rfl) (mv_s (.inl rfl) rfl) ?_
      all_goals (first | refine zab rfl rfl (zaa rfl) (za1 rfl ts22 ti3 rfl rfl rfl hlt rfl) ?_ | refine zab rfl rfl (zaa rfl) (zav rfl ts22 ti3 rfl rfl rfl hlt) ?_)
      all_goals (first | refine zab rfl rfl (zaa rfl) (zao rfl ta3 rfl) ?_ | refine zab rfl rfl (zaa rfl) (zar rfl ta3 rfl rfl rfl hget rfl) ?_)
      all_goals refine zab rfl rfl (zaa rfl) (mv_s (.inl rfl) rfl) ?_
      all_goals (first | refine zbj rfl rfl (zaa rfl) (zbd rfl rfl rfl) (fun h55 => ?_) (fun h55 => ?_) | refine zbk rfl rfl (zaa rfl) (zbd rfl rfl rfl) (fun h55 => ?_) (fun h55 => ?_))
      all_goals refine zan ?_
      all_goals (repeat (first | refine zag ?_ | refine zap ?_ | refine zad ?_ | refine zaq ?_ | refine zac ?_))
      all_goals (first | refine zbq rfl ?_ | refine zbm rfl ?_)
      all_goals (repeat (first | refine zag ?_ | refine zap ?_ | refine zad ?_ | refine zaq ?_ | refine zac ?_))
      · rw [if_pos (by omega)] at HI
        refine zaf ?_
        refine zab rfl rfl (zaa rfl) (mv_s (.inl rfl) rfl) ?_
        refine zab rfl rfl (zaa rfl) (mv_s (.inr rfl) rfl) ?_
        refine zan ?_
        repeat (first | refine zag ?_ | refine zap ?_ | refine zad ?_ | refine zaq ?_ | refine zac ?_)
        (refine zbt ?_; repeat (first | refine ath_r ?_ | refine abl_r ?_))
        exact post1 (.inr rfl) rfl (congrArg eI HI.symm)
      · rw [if_neg (by omega)] at HI
        refine zaf ?_
        refine zab rfl rfl (zaa rfl) (zbw rfl rfl rfl (IntWalk.i64_in _ (by omega))) ?_
        refine zab rfl rfl (zaa rfl) (mv_s (.inl rfl) rfl) ?_
        refine zan ?_
        repeat (first | refine zag ?_ | refine zap ?_ | refine zad ?_ | refine zaq ?_ | refine zac ?_)
        exact ⟨k + 1, ⟨by omega, HI⟩, by omega, wk_st [0] (by decide) ⟨⟨_, rfl, .rowE (by repeat' (first | exact Lo.s _ | exact zah | exact zba | refine zae ?_ ?_ | refine zaz ?_ ?_ | refine zai ?_ | refine zbb ?_ | refine Lo.cells ?_ | refine Lo.agg _ ?_ | refine Lo.sl _ ?_ | intro _)) rfl⟩, trivial⟩ ⟨.own 0 0 1 _ _ rfl rfl, .lo _ (by repeat' (first | exact Lo.s _ | exact zah | refine zae ?_ ?_ | refine zai ?_ | refine Lo.cells ?_ | refine Lo.agg _ ?_ | refine Lo.ref _ ?_ | refine Lo.tup _ ?_ | refine Lo.fn _ _ ?_ | refine Lo.sl _ ?_ | intro _)), .lo _ (by repeat' (first | exact Lo.s _ | exact zah | refine zae ?_ ?_ | refine zai ?_ | refine Lo.cells ?_ | refine Lo.agg _ ?_ | refine Lo.ref _ ?_ | refine Lo.tup _ ?_ | refine Lo.fn _ _ ?_ | refine Lo.sl _ ?_ | intro _)), .lo _ (by repeat' (first | exact Lo.s _ | exact zah | refine zae ?_ ?_ | refine zai ?_ | refine Lo.cells ?_ | refine Lo.agg _ ?_ | refine Lo.ref _ ?_ | refine Lo.tup _ ?_ | refine Lo.fn _ _ ?_ | refine Lo.sl _ ?_ | intro _)), trivial⟩⟩
    · rw [show d.length - k = 0 by omega, shF] at HI
      (refine aw_exit ?_; repeat (first | refine ath_x ?_ | refine abl_hit ?_ | refine abl_miss rfl ?_ | refine zaq ?_ | refine zap ?_ | refine zag ?_ | refine zad ?_ | refine zac ?_))
      refine zaf ?_
      refine zab rfl rfl (zaa rfl) (mv_s (.inr rfl) rfl) ?_
      refine zan ?_
      repeat (first | refine zag ?_ | refine zap ?_ | refine zad ?_ | refine zaq ?_ | refine zac ?_)
      (refine zbt ?_; repeat (first | refine ath_r ?_ | refine abl_r ?_))
      exact post1 (.inr rfl) rfl (congrArg eI HI.symm)
set_option maxHeartbeats 2000000 in
theorem rShort_pf (d : List Int) (l : List Sft) (c : List Int) (hd : d.length ≤ 24) (hc : okC l c) : Pure P 28 [eL eI d, eL eSh l, eL eI c] (eI (shE d l c)) := by
  have hcl := hc.1
  have hl12 := hc.2.1
  have HI : shE d l c = shF d l c d.length 0 := rfl
  generalize shE d l c = R at HI ⊢
  refine aw_fn (by rw [IsP.eq (P := P)]; exact Try.func28) rfl rfl rfl rfl rfl (by repeat' (first | exact Lo.s _ | exact zah | refine zae ?_ ?_ | refine zai ?_ | refine Lo.cells ?_ | refine Lo.agg _ ?_ | refine Lo.ref _ ?_ | refine Lo.tup _ ?_ | refine Lo.fn _ _ ?_ | refine Lo.sl _ ?_ | intro _)) (by repeat' (first | exact Lo.s _ | exact zah | refine zae ?_ ?_ | refine zai ?_ | refine Lo.cells ?_ | refine Lo.agg _ ?_ | refine Lo.ref _ ?_ | refine Lo.tup _ ?_ | refine Lo.fn _ _ ?_ | refine Lo.sl _ ?_ | intro _)) (by simp only [argF]; rfl) ?_
  repeat (first | refine zag ?_ | refine zap ?_ | refine zad ?_ | refine zaq ?_ | refine zac ?_)
  refine zaf ?_
  refine zab rfl rfl (zaa rfl) (mv_s (.inr rfl) rfl) ?_
  refine zan ?_
  repeat (first | refine zag ?_ | refine zap ?_ | refine zad ?_ | refine zaq ?_ | refine zac ?_)
  refine zaf ?_
  refine zab rfl rfl (zaa rfl) (mv_s (.inr rfl) rfl) ?_
  refine zan ?_
  repeat (first | refine zag ?_ | refine zap ?_ | refine zad ?_ | refine zaq ?_ | refine zac ?_)
  refine aw_loops (S := Nat) (fun k => [(0, eL eI d), (1, eL eSh l), (2, eL eI c), (7, eI k)]) (fun _ => []) (fun k => k ≤ d.length ∧ R = shF d l c (d.length - k) k) (fun k => d.length - k) 0 (wk_st [] (by decide) trivial ⟨.lo _ (by repeat' (first | exact Lo.s _ | exact zah | refine zae ?_ ?_ | refine zai ?_ | refine Lo.cells ?_ | refine Lo.agg _ ?_ | refine Lo.ref _ ?_ | refine Lo.tup _ ?_ | refine Lo.fn _ _ ?_ | refine Lo.sl _ ?_ | intro _)), .lo _ (by repeat' (first | exact Lo.s _ | exact zah | refine zae ?_ ?_ | refine zai ?_ | refine Lo.cells ?_ | refine Lo.agg _ ?_ | refine Lo.ref _ ?_ | refine Lo.tup _ ?_ | refine Lo.fn _ _ ?_ | refine Lo.sl _ ?_ | intro _)), .lo _ (by repeat' (first | exact Lo.s _ | exact zah | refine zae ?_ ?_ | refine zai ?_ | refine Lo.cells ?_ | refine Lo.agg _ ?_ | refine Lo.ref _ ?_ | refine Lo.tup _ ?_ | refine Lo.fn _ _ ?_ | refine Lo.sl _ ?_ | intro _)), .lo _ (by repeat' (first | exact Lo.s _ | exact zah | refine zae ?_ ?_ | refine zai ?_ | refine Lo.cells ?_ | refine Lo.agg _ ?_ | refine Lo.ref _ ?_ | refine Lo.tup _ ?_ | refine Lo.fn _ _ ?_ | refine Lo.sl _ ?_ | intro _)), trivial⟩) ⟨Nat.zero_le _, HI⟩ (fun k hk => ?_)
  obtain ⟨hk, HI⟩ := hk
  repeat (first | refine zag ?_ | refine zap ?_ | refine zad ?_ | refine zaq ?_ | refine zac ?_)
  all_goals refine zaf ?_
  all_goals refine zab rfl rfl (zaa rfl) (mv_s (.inl rfl) rfl) ?_
  all_goals (first | refine zab rfl rfl (zaa rfl) (za3 (.inl rfl) rfl) ?_ | refine zab rfl rfl (zaa rfl) (zbi (.inl rfl) rfl) ?_ | refine zab rfl rfl (zaa rfl) (mv_s (.inl rfl) rfl) ?_ | refine zab rfl rfl (zaa rfl) (za4 (.inl rfl) rfl) ?_)
  all_goals (first | refine zab rfl rfl (zaa rfl) (za0 rfl ts22 rfl) ?_ | refine zab rfl rfl (zaa rfl) (za7 rfl ts22 rfl) ?_ | refine zab rfl rfl (zaa rfl) (zaw rfl ts22 rfl) ?_ | refine zab rfl rfl (zaa rfl) (zbc rfl ts22 rfl) ?_ | refine zab rfl rfl (zaa rfl) (zax rfl ts22 rfl) ?_)
  all_goals (first | refine zbj rfl rfl (zaa rfl) (zbd rfl rfl rfl) (fun h13 => ?_) (fun h13 => ?_) | refine zbk rfl rfl (zaa rfl) (zbd rfl rfl rfl) (fun h13 => ?_) (fun h13 => ?_))
  all_goals refine zan ?_
  all_goals (repeat (first | refine zag ?_ | refine zap ?_ | refine zad ?_ | refine zaq ?_ | refine zac ?_))
  all_goals (first | refine zbq rfl ?_ | refine zbm rfl ?_)
  all_goals (repeat (first | refine zag ?_ | refine zap ?_ | refine zad ?_ | refine zaq ?_ | refine zac ?_))
  · have hlt : k < d.length := by omega
    rw [show d.length - k = (d.length - (k + 1)) + 1 by omega, shF] at HI
    refine zaf ?_
    refine zab rfl rfl (zaa rfl) (mv_s (.inr rfl) rfl) ?_
    refine zan ?_
    repeat (first | refine zag ?_ | refine zap ?_ | refine zad ?_ | refine zaq ?_ | refine zac ?_)
    refine zaf ?_
    refine zab rfl rfl (zaa rfl) (mv_s (.inr rfl) rfl) ?_
    refine zan ?_
    repeat (first | refine zag ?_ | refine zap ?_ | refine zad ?_ | refine zaq ?_ | refine zac ?_)
    refine aw_loops (S := Nat) (fun i => [(0, eL eI d), (1, eL eSh l), (2, eL eI c), (7, eI k), (8, eI (cvP l c i k)), (9, eI i)]) (fun _ => []) (fun i => i ≤ l.length) (fun i => l.length - i) 0 (wk_st [] (by decide) trivial ⟨.lo _ (by repeat' (first | exact Lo.s _ | exact zah | refine zae ?_ ?_ | refine zai ?_ | refine Lo.cells ?_ | refine Lo.agg _ ?_ | refine Lo.ref _ ?_ | refine Lo.tup _ ?_ | refine Lo.fn _ _ ?_ | refine Lo.sl _ ?_ | intro _)), .lo _ (by repeat' (first | exact Lo.s _ | exact zah | refine zae ?_ ?_ | refine zai ?_ | refine Lo.cells ?_ | refine Lo.agg _ ?_ | refine Lo.ref _ ?_ | refine Lo.tup _ ?_ | refine Lo.fn _ _ ?_ | refine Lo.sl _ ?_ | intro _)), .lo _ (by repeat' (first | exact Lo.s _ | exact zah | refine zae ?_ ?_ | refine zai ?_ | refine Lo.cells ?_ | refine Lo.agg _ ?_ | refine Lo.ref _ ?_ | refine Lo.tup _ ?_ | refine Lo.fn _ _ ?_ | refine Lo.sl _ ?_ | intro _)), .lo _ (by repeat' (first | exact Lo.s _ | exact zah | refine zae ?_ ?_ | refine zai ?_ | refine Lo.cells ?_ | refine Lo.agg _ ?_ | refine Lo.ref _ ?_ | refine Lo.tup _ ?_ | refine Lo.fn _ _ ?_ | refine Lo.sl _ ?_ | intro _)), .lo _ (by repeat' (first | exact Lo.s _ | exact zah | refine zae ?_ ?_ | refine zai ?_ | refine Lo.cells ?_ | refine Lo.agg _ ?_ | refine Lo.ref _ ?_ | refine Lo.tup _ ?_ | refine Lo.fn _ _ ?_ | refine Lo.sl _ ?_ | intro _)), .lo _ (by repeat' (first | exact Lo.s _ | exact zah | refine zae ?_ ?_ | refine zai ?_ | refine Lo.cells ?_ | refine Lo.agg _ ?_ | refine Lo.ref _ ?_ | refine Lo.tup _ ?_ | refine Lo.fn _ _ ?_ | refine Lo.sl _ ?_ | intro _)), trivial⟩) (Nat.zero_le _) (fun i hi => ?_)
    repeat (first | refine zag ?_ | refine zap ?_ | refine zad ?_ | refine zaq ?_ | refine zac ?_)
    have hbd := cvP_bd hc k i hi
    all_goals refine zaf ?_
    all_goals refine zab rfl rfl (zaa rfl) (mv_s (.inl rfl) rfl) ?_
    all_goals (first | refine zab rfl rfl (zaa rfl) (za3 (.inl rfl) rfl) ?_ | refine zab rfl rfl (zaa rfl) (zbi (.inl rfl) rfl) ?_ | refine zab rfl rfl (zaa rfl) (mv_s (.inl rfl) rfl) ?_ | refine zab rfl rfl (zaa rfl) (za4 (.inl rfl) rfl) ?_)
    all_goals (first | refine zab rfl rfl (zaa rfl) (za0 rfl ts23 rfl) ?_ | refine zab rfl rfl (zaa rfl) (za7 rfl ts23 rfl) ?_ | refine zab rfl rfl (zaa rfl) (zaw rfl ts23 rfl) ?_ | refine zab rfl rfl (zaa rfl) (zbc rfl ts23 rfl) ?_ | refine zab rfl rfl (zaa rfl) (zax rfl ts23 rfl) ?_)
    all_goals (first | refine zbj rfl rfl (zaa rfl) (zbd rfl rfl rfl) (fun h19 => ?_) (fun h19 => ?_) | refine zbk rfl rfl (zaa rfl) (zbd rfl rfl rfl) (fun h19 => ?_) (fun h19 => ?_))
    all_goals refine zan ?_
    all_goals (repeat (first | refine zag ?_ | refine zap ?_ | refine zad ?_ | refine zaq ?_ | refine zac ?_))
    all_goals (first | refine zbq rfl ?_ | refine zbm rfl ?_)
    all_goals (repeat (first | refine zag ?_ | refine zap ?_ | refine zad ?_ | refine zaq ?_ | refine zac ?_))
    · have hlt2 : i < l.length := by omega
      have hcb := hc.2.2 i hlt2
      have hnx : cvP l c (i + 1) k = cvP l c i k + if inB (gti l i).pd k = true then gti c i else 0 := rfl
      have hin := in_pf (P := P) (gti l i) k
      all_goals refine zaf ?_
      all_goals (first | refine zab rfl rfl (zaa rfl) (za3 (.inl rfl) rfl) ?_ | refine zab rfl rfl (zaa rfl) (zbi (.inl rfl) rfl) ?_ | refine zab rfl rfl (zaa rfl) (mv_s (.inl rfl) rfl) ?_ | refine zab rfl rfl (zaa rfl) (za4 (.inl rfl) rfl) ?_)
      all_goals refine zab rfl rfl (zaa rfl) (mv_s (.inl rfl) rfl) ?_
      all_goals (first | refine zab rfl rfl (zaa rfl) (za1 rfl ts23 ti39 rfl rfl rfl (zb5 (by omega)) rfl) ?_ | refine zab rfl rfl (zaa rfl) (zav rfl ts23 ti39 rfl rfl rfl (by omega)) ?_)
      all_goals (first | refine zab rfl rfl (zaa rfl) (za9 rfl ta39 ti39 rfl rfl) ?_ | refine zab rfl rfl (zaa rfl) (zbf rfl ta39 ti39 rfl rfl rfl rfl rfl) ?_ | refine zab rfl rfl (zaa rfl) (za8 rfl ta39 ti39 rfl (Nat.le_of_ble_eq_true rfl)) ?_ | refine zab rfl rfl (zaa rfl) (zbg rfl ta39 ti39 rfl rfl rfl rfl (Nat.le_of_ble_eq_true rfl)) ?_)
      all_goals refine zab rfl rfl (zaa rfl) (mv_s (.inl rfl) rfl) ?_
      all_goals (first | refine zbj rfl rfl (zaa rfl) (za5 rfl rfl (hin) (zat rfl (zat rfl zbl))) (fun h27 => ?_) (fun h27 => ?_) | refine zbk rfl rfl (zaa rfl) (za5 rfl rfl (hin) (zat rfl (zat rfl zbl))) (fun h27 => ?_) (fun h27 => ?_))
      all_goals refine zan ?_
      all_goals (repeat (first | refine zag ?_ | refine zap ?_ | refine zad ?_ | refine zaq ?_ | refine zac ?_))
      all_goals (first | refine zbq rfl ?_ | refine zbm rfl ?_)
      all_goals (repeat (first | refine zag ?_ | refine zap ?_ | refine zad ?_ | refine zaq ?_ | refine zac ?_))
      · rw [if_pos h27] at hnx
        refine zaf ?_
        refine zab rfl rfl (zaa rfl) (mv_s (.inl rfl) rfl) ?_
        first | refine zab rfl rfl (zaa rfl) (za3 (.inl rfl) rfl) ?_ | refine zab rfl rfl (zaa rfl) (zbi (.inl rfl) rfl) ?_ | refine zab rfl rfl (zaa rfl) (mv_s (.inl rfl) rfl) ?_ | refine zab rfl rfl (zaa rfl) (za4 (.inl rfl) rfl) ?_
        refine zab rfl rfl (zaa rfl) (mv_s (.inl rfl) rfl) ?_
        first | refine zab rfl rfl (zaa rfl) (za1 rfl ts22 ti3 rfl rfl rfl (zb5 (by omega)) rfl) ?_ | refine zab rfl rfl (zaa rfl) (zav rfl ts22 ti3 rfl rfl rfl (by omega)) ?_
        first | refine zab rfl rfl (zaa rfl) (zao rfl ta3 rfl) ?_ | refine zab rfl rfl (zaa rfl) (zar rfl ta3 rfl rfl rfl rfl rfl) ?_
        refine zab rfl rfl (zaa rfl) (zbw rfl rfl rfl (IntWalk.i64_in _ (by omega))) ?_
        refine zab rfl rfl (zaa rfl) (mv_s (.inr rfl) rfl) ?_
        refine zan ?_
        repeat (first | refine zag ?_ | refine zap ?_ | refine zad ?_ | refine zaq ?_ | refine zac ?_)
        refine zaf ?_
        refine zab rfl rfl (zaa rfl) (mv_s (.inl rfl) rfl) ?_
        refine zab rfl rfl (zaa rfl) (zbw rfl rfl rfl (IntWalk.i64_in _ (by omega))) ?_
        refine zab rfl rfl (zaa rfl) (mv_s (.inr rfl) rfl) ?_
        refine zan ?_
        repeat (first | refine zag ?_ | refine zap ?_ | refine zad ?_ | refine zaq ?_ | refine zac ?_)
        rw [← hnx]
        exact ⟨i + 1, by omega, by omega, wk_st [] (by decide) trivial ⟨.lo _ (by repeat' (first | exact Lo.s _ | exact zah | refine zae ?_ ?_ | refine zai ?_ | refine Lo.cells ?_ | refine Lo.agg _ ?_ | refine Lo.ref _ ?_ | refine Lo.tup _ ?_ | refine Lo.fn _ _ ?_ | refine Lo.sl _ ?_ | intro _)), .lo _ (by repeat' (first | exact Lo.s _ | exact zah | refine zae ?_ ?_ | refine zai ?_ | refine Lo.cells ?_ | refine Lo.agg _ ?_ | refine Lo.ref _ ?_ | refine Lo.tup _ ?_ | refine Lo.fn _ _ ?_ | refine Lo.sl _ ?_ | intro _)), .lo _ (by repeat' (first | exact Lo.s _ | exact zah | refine zae ?_ ?_ | refine zai ?_ | refine Lo.cells ?_ | refine Lo.agg _ ?_ | refine Lo.ref _ ?_ | refine Lo.tup _ ?_ | refine Lo.fn _ _ ?_ | refine Lo.sl _ ?_ | intro _)), .lo _ (by repeat' (first | exact Lo.s _ | exact zah | refine zae ?_ ?_ | refine zai ?_ | refine Lo.cells ?_ | refine Lo.agg _ ?_ | refine Lo.ref _ ?_ | refine Lo.tup _ ?_ | refine Lo.fn _ _ ?_ | refine Lo.sl _ ?_ | intro _)), .lo _ (by repeat' (first | exact Lo.s _ | exact zah | refine zae ?_ ?_ | refine zai ?_ | refine Lo.cells ?_ | refine Lo.agg _ ?_ | refine Lo.ref _ ?_ | refine Lo.tup _ ?_ | refine Lo.fn _ _ ?_ | refine Lo.sl _ ?_ | intro _)), .lo _ (by repeat' (first | exact Lo.s _ | exact zah | refine zae ?_ ?_ | refine zai ?_ | refine Lo.cells ?_ | refine Lo.agg _ ?_ | refine Lo.ref _ ?_ | refine Lo.tup _ ?_ | refine Lo.fn _ _ ?_ | refine Lo.sl _ ?_ | intro _)), trivial⟩⟩
      · rw [if_neg (by rw [h27]; simp), Int.add_zero] at hnx
        refine zaf ?_
        refine zab rfl rfl (zaa rfl) (mv_s (.inl rfl) rfl) ?_
        refine zab rfl rfl (zaa rfl) (zbw rfl rfl rfl (IntWalk.i64_in _ (by omega))) ?_
        refine zab rfl rfl (zaa rfl) (mv_s (.inr rfl) rfl) ?_
        refine zan ?_
        repeat (first | refine zag ?_ | refine zap ?_ | refine zad ?_ | refine zaq ?_ | refine zac ?_)
        rw [← hnx]
        exact ⟨i + 1, by omega, by omega, wk_st [] (by decide) trivial ⟨.lo _ (by repeat' (first | exact Lo.s _ | exact zah | refine zae ?_ ?_ | refine zai ?_ | refine Lo.cells ?_ | refine Lo.agg _ ?_ | refine Lo.ref _ ?_ | refine Lo.tup _ ?_ | refine Lo.fn _ _ ?_ | refine Lo.sl _ ?_ | intro _)), .lo _ (by repeat' (first | exact Lo.s _ | exact zah | refine zae ?_ ?_ | refine zai ?_ | refine Lo.cells ?_ | refine Lo.agg _ ?_ | refine Lo.ref _ ?_ | refine Lo.tup _ ?_ | refine Lo.fn _ _ ?_ | refine Lo.sl _ ?_ | intro _)), .lo _ (by repeat' (first | exact Lo.s _ | exact zah | refine zae ?_ ?_ | refine zai ?_ | refine Lo.cells ?_ | refine Lo.agg _ ?_ | refine Lo.ref _ ?_ | refine Lo.tup _ ?_ | refine Lo.fn _ _ ?_ | refine Lo.sl _ ?_ | intro _)), .lo _ (by repeat' (first | exact Lo.s _ | exact zah | refine zae ?_ ?_ | refine zai ?_ | refine Lo.cells ?_ | refine Lo.agg _ ?_ | refine Lo.ref _ ?_ | refine Lo.tup _ ?_ | refine Lo.fn _ _ ?_ | refine Lo.sl _ ?_ | intro _)), .lo _ (by repeat' (first | exact Lo.s _ | exact zah | refine zae ?_ ?_ | refine zai ?_ | refine Lo.cells ?_ | refine Lo.agg _ ?_ | refine Lo.ref _ ?_ | refine Lo.tup _ ?_ | refine Lo.fn _ _ ?_ | refine Lo.sl _ ?_ | intro _)), .lo _ (by repeat' (first | exact Lo.s _ | exact zah | refine zae ?_ ?_ | refine zai ?_ | refine Lo.cells ?_ | refine Lo.agg _ ?_ | refine Lo.ref _ ?_ | refine Lo.tup _ ?_ | refine Lo.fn _ _ ?_ | refine Lo.sl _ ?_ | intro _)), trivial⟩⟩
    · have e : i = l.length := by omega
      subst e
      (refine aw_exit ?_; repeat (first | refine ath_x ?_ | refine abl_hit ?_ | refine abl_miss rfl ?_ | refine zaq ?_ | refine zap ?_ | refine zag ?_ | refine zad ?_ | refine zac ?_))
      all_goals refine zaf ?_
      all_goals refine zab rfl rfl (zaa rfl) (mv_s (.inl rfl) rfl) ?_
      all_goals (first | refine zab rfl rfl (zaa rfl) (za3 (.inl rfl) rfl) ?_ | refine zab rfl rfl (zaa rfl) (zbi (.inl rfl) rfl) ?_ | refine zab rfl rfl (zaa rfl) (mv_s (.inl rfl) rfl) ?_ | refine zab rfl rfl (zaa rfl) (za4 (.inl rfl) rfl) ?_)
      all_goals refine zab rfl rfl (zaa rfl) (mv_s (.inl rfl) rfl) ?_
      all_goals (first | refine zab rfl rfl (zaa rfl) (za1 rfl ts22 ti3 rfl rfl rfl (zb5 (by omega)) rfl) ?_ | refine zab rfl rfl (zaa rfl) (zav rfl ts22 ti3 rfl rfl rfl (by omega)) ?_)
      all_goals (first | refine zab rfl rfl (zaa rfl) (zao rfl ta3 rfl) ?_ | refine zab rfl rfl (zaa rfl) (zar rfl ta3 rfl rfl rfl rfl rfl) ?_)
      all_goals (first | refine zbj rfl rfl (zaa rfl) (zbd rfl rfl rfl) (fun h39 => ?_) (fun h39 => ?_) | refine zbk rfl rfl (zaa rfl) (zbd rfl rfl rfl) (fun h39 => ?_) (fun h39 => ?_))
      all_goals refine zan ?_
      all_goals (repeat (first | refine zag ?_ | refine zap ?_ | refine zad ?_ | refine zaq ?_ | refine zac ?_))
      all_goals (first | refine zbq rfl ?_ | refine zbm rfl ?_)
      all_goals (repeat (first | refine zag ?_ | refine zap ?_ | refine zad ?_ | refine zaq ?_ | refine zac ?_))
      · rw [if_pos (by omega)] at HI
        refine zaf ?_
        refine zab rfl rfl (zaa rfl) (mv_s (.inl rfl) rfl) ?_
        refine zab rfl rfl (zaa rfl) (mv_s (.inr rfl) rfl) ?_
        refine zan ?_
        repeat (first | refine zag ?_ | refine zap ?_ | refine zad ?_ | refine zaq ?_ | refine zac ?_)
        (refine zbt ?_; repeat (first | refine ath_r ?_ | refine abl_r ?_))
        exact post1 (.inr rfl) rfl (congrArg eI HI.symm)
      · rw [if_neg (by omega)] at HI
        refine zaf ?_
        refine zab rfl rfl (zaa rfl) (mv_s (.inl rfl) rfl) ?_
        refine zab rfl rfl (zaa rfl) (zbw rfl rfl rfl (IntWalk.i64_in _ (by omega))) ?_
        refine zab rfl rfl (zaa rfl) (mv_s (.inr rfl) rfl) ?_
        refine zan ?_
        repeat (first | refine zag ?_ | refine zap ?_ | refine zad ?_ | refine zaq ?_ | refine zac ?_)
        exact ⟨k + 1, ⟨by omega, HI⟩, by omega, wk_st [] (by decide) trivial ⟨.lo _ (by repeat' (first | exact Lo.s _ | exact zah | refine zae ?_ ?_ | refine zai ?_ | refine Lo.cells ?_ | refine Lo.agg _ ?_ | refine Lo.ref _ ?_ | refine Lo.tup _ ?_ | refine Lo.fn _ _ ?_ | refine Lo.sl _ ?_ | intro _)), .lo _ (by repeat' (first | exact Lo.s _ | exact zah | refine zae ?_ ?_ | refine zai ?_ | refine Lo.cells ?_ | refine Lo.agg _ ?_ | refine Lo.ref _ ?_ | refine Lo.tup _ ?_ | refine Lo.fn _ _ ?_ | refine Lo.sl _ ?_ | intro _)), .lo _ (by repeat' (first | exact Lo.s _ | exact zah | refine zae ?_ ?_ | refine zai ?_ | refine Lo.cells ?_ | refine Lo.agg _ ?_ | refine Lo.ref _ ?_ | refine Lo.tup _ ?_ | refine Lo.fn _ _ ?_ | refine Lo.sl _ ?_ | intro _)), .lo _ (by repeat' (first | exact Lo.s _ | exact zah | refine zae ?_ ?_ | refine zai ?_ | refine Lo.cells ?_ | refine Lo.agg _ ?_ | refine Lo.ref _ ?_ | refine Lo.tup _ ?_ | refine Lo.fn _ _ ?_ | refine Lo.sl _ ?_ | intro _)), trivial⟩⟩
  · rw [show d.length - k = 0 by omega, shF] at HI
    (refine aw_exit ?_; repeat (first | refine ath_x ?_ | refine abl_hit ?_ | refine abl_miss rfl ?_ | refine zaq ?_ | refine zap ?_ | refine zag ?_ | refine zad ?_ | refine zac ?_))
    refine zaf ?_
    refine zab rfl rfl (zaa rfl) (mv_s (.inr rfl) rfl) ?_
    refine zan ?_
    repeat (first | refine zag ?_ | refine zap ?_ | refine zad ?_ | refine zaq ?_ | refine zac ?_)
    (refine zbt ?_; repeat (first | refine ath_r ?_ | refine abl_r ?_))
    exact post1 (.inr rfl) rfl (congrArg eI HI.symm)
end Go.Proofs.Ytmoipmnhgdmkpaa.Aw
end
section
namespace Go.Proofs.Ytmoipmnhgdmkpaa.Aw
set_option linter.unusedSimpArgs false
set_option linter.unusedVariables false
open Go.RowKit
def RnL (ρ : List Nat) (l l' : List AV) : Prop := l.length = l'.length ∧ ∀ (j : Nat) x y, l[j]? = some x → l'[j]? = some y → Rn ρ x y
theorem RnL.nil {ρ : List Nat} : RnL ρ [] [] := ⟨rfl, by simp⟩
theorem RnL.cons {ρ : List Nat} {x y : AV} {l l' : List AV} (h : Rn ρ x y) (t : RnL ρ l l') : RnL ρ (x :: l) (y :: l') := by
  refine ⟨by simp [t.1], fun j a b ha hb => ?_⟩
  cases j with
  | zero => simp at ha hb; subst ha hb; exact h
  | succ j => exact t.2 j a b (by simpa using ha) (by simpa using hb)
/-- a struct of the call's own that names rows of the call's own -/
theorem obRn_agg {ρ : List Nat} {sz : Nat} {cs cs' : List AV} (h : RnL ρ cs cs') : ObRn ρ (.row sz [.agg cs]) (.row sz [.agg cs']) := .rowR sz _ _ (.agg cs cs' h.1 h.2) h.2 h.1
section
variable {N : Nat} {F F' : Frm} {σ σ' : List Ob}
/-- a row is read in another way -/
theorem reread_rel {G : Cx} {id sz : Nat} {cs cs' : List AV} (hr : Rel G σ) (hs : σ[id]? = some (.row sz cs)) (h0 : cs = [] → cs' = []) (h : ∀ b f, RowAt G b sz cs f → RowAt G b sz cs' f) : Rel G (σ.set id (.row sz cs')) := by
  have hid : id < σ.length := (List.getElem?_eq_some_iff.1 hs).1
  refine ⟨hr.below, hr.le, hr.st, fun i ob hob => ?_, fun i j b hi hj hm hm' => ?_, fun i hi => hr.fresh i (by simpa using hi)⟩
  · by_cases hi : id = i
    · subst hi
      rw [List.getElem?_set_self hid] at hob
      cases hob
      have h1 := hr.obs id _ hs
      simp only [ObOk] at h1 ⊢
      cases hx : G.mu id with
      | none => rw [hx] at h1; exact h1
      | some x =>
        rw [hx] at h1
        cases x with
        | none => exact h0 h1
        | some b => exact ⟨h b _ h1.1, h1.2⟩
    · rw [List.getElem?_set_ne hi] at hob; exact hr.obs i ob hob
  · have old : ∀ i, alive (σ.set id (.row sz cs')) i → alive σ i := by
      rintro i ⟨sz1, cs1, hi⟩
      by_cases h2 : id = i
      · subst h2; exact ⟨sz, cs, hs⟩
      · rw [List.getElem?_set_ne h2] at hi; exact ⟨sz1, cs1, hi⟩
    exact hr.inj i j b (old i hi) (old j hj) hm hm'
/-- nil in a struct of the call's own, as an empty row of the call's own -/
theorem wk_ownC {id sz sz2 : Nat} {e e' : AV} {pre post : List AV} (hs : σ[id]? = some (.row sz [e])) (h1 : e.cells = pre ++ .s (.slice none 0 0) :: post) (h2 : e'.cells = pre ++ .own σ.length sz2 0 :: post) :
    Weak N F σ F (σ.set id (.row sz [e']) ++ [.row sz2 []]) := fun G a h => by
  have he := nil_ext h.rel
  have hr := nil_rel h.rel sz2
  have hid : id < σ.length := (List.getElem?_eq_some_iff.1 hs).1
  refine ⟨G.new σ.length G.w none, rfl, he.step, ?_, h.fr.ext he, h.df, h.nt⟩
  have hset : σ.set id (Ob.row sz [e']) ++ [Ob.row sz2 []] = (σ ++ [Ob.row sz2 []]).set id (Ob.row sz [e']) := by rw [List.set_append_left _ _ hid]
  rw [hset]
  refine reread_rel hr (by rw [List.getElem?_append_left hid]; exact hs) (fun h => by cases h) ?_
  rintro b f ⟨cur, t, fr, g1, g2, g3, g4⟩
  refine ⟨cur, t, fr, g1, g2, g3, fun k y hy => ?_⟩
  cases k with
  | succ k => simp at hy
  | zero =>
    simp at hy
    subst hy
    obtain ⟨k1, k2, k3⟩ := g4 0 e rfl
    rw [h1] at k1 k2 k3
    rw [h2]
    refine ⟨by simpa using k1, fun c hc => ?_, fun j c hc => ?_⟩
    · simp only [List.mem_append, List.mem_cons] at hc
      rcases hc with hc | rfl | hc
      · exact k2 c (by simp [hc])
      · rfl
      · exact k2 c (by simp [hc])
    · by_cases hj : j = pre.length
      · subst hj
        simp at hc
        subst hc
        obtain ⟨v, h6, h7⟩ := k3 pre.length (.s (.slice none 0 0)) (by simp)
        refine ⟨v, h6, ?_⟩
        cases h7
        exact .own0 σ.length sz2 none (fun a ha => by cases ha) (by simp [Cx.new])
      · have e : (pre ++ AV.s (.slice none 0 0) :: post)[j]? = some c := by
          rw [← hc]
          by_cases hlt : j < pre.length
          · rw [List.getElem?_append_left hlt, List.getElem?_append_left hlt]
          · rw [List.getElem?_append_right (by omega), List.getElem?_append_right (by omega)]
            obtain ⟨i, hi⟩ : ∃ i, j - pre.length = i + 1 := ⟨j - pre.length - 1, by omega⟩
            rw [hi]; rfl
        exact k3 j c e
end
section
variable {P : Program} {o : Oper} {F : Frm} {σ : List Ob}
/-- a new row that is finished at once -/
theorem does_fin {sz n : Nat} {l : List AV} (h : Does P o F [] (.own 0 sz n) [.row sz l]) (hn : n = l.length) (hop0 : ∀ y ∈ o.op.operands, Lo 0 (F.eval y)) (hlo : Lo 0 (.sl l)) : Does P o F σ (.sl l) σ := by
  intro G a next Q hr hop hk
  obtain ⟨G0, hG0⟩ : ∃ G0 : Cx, G0 = { base := G.w.heap.size, w0 := G.w, w := G.w, mu := fun _ => none, St := G.St } := ⟨_, rfl⟩
  have hr0 : Rel G0 [] := by
    subst hG0
    exact ⟨Below.refl _ _, Nat.le_refl _, hr.st, fun id ob h => by simp at h, fun i j b hi _ _ _ => by obtain ⟨_, _, h⟩ := hi; simp at h, fun _ _ => rfl⟩
  have hw : G.w = G0.w := by subst hG0; rfl
  rw [hw]
  refine h G0 a next Q hr0 (fun y hy => (hop y hy).low (hop0 y hy) (by subst hG0; exact fun _ _ h => h) (by subst hG0; exact fun _ _ _ => rfl) (fun id y h => by omega) (fun h => by omega)) (fun v G1 he hr1 hrep => ?_)
  obtain ⟨he2, hr2⟩ := froz_ok hr1 (id := 0) (sz := sz) (cs := l) rfl
  have hrep2 := rep_fz hr2 (id := 0) (sz := sz) (cs := l) rfl hn (hrep.ext he2)
  have hb0 : G1.base = G.w.heap.size := by rw [he.base]; subst hG0; rfl
  have hw0 : (G1.froz 0).w0 = G.w := by show G1.w0 = _; rw [he.w0]; subst hG0; rfl
  have hbel : Below G.w.heap.size G.w (G1.froz 0).w := by have := hr2.below; rwa [show (G1.froz 0).base = G.w.heap.size from hb0, hw0] at this
  have hSt : G0.St = G.St := by subst hG0; rfl
  obtain ⟨h4, h5⟩ := after_call (G1 := G1.froz 0) hr rfl hbel (fun b o h => he2.st _ _ (he.st _ _ (by rw [hSt]; exact h))) (fun b o h => by
    rcases he2.stN b o h with h1 | h1
    · rcases he.stN b o h1 with h2 | h2
      · rw [hSt] at h2; exact .inl h2
      · right; have e : G0.base = G.w.heap.size := by subst hG0; rfl
        omega
    · right; omega) hr2.st
  exact hk v { G with w := (G1.froz 0).w, St := (G1.froz 0).St } h4 h5 (hrep2.low hlo (fun _ _ h => h) (fun _ _ _ => rfl) (fun id y h => by omega) (fun h => by omega))
theorem lit1_sF {t e : TypeId} {y : Operand} {z : Value} {bt : Nat} {v : Value} (ho : o.op = .buildSlice t 1 #[(0, y)]) (ht : zbv P t = some e) (hi : zbx P e = some (some z, 1, bt))
    (h1 : (ofValue z).cells.all AV.one = true) (hn : (ofValue z).cells.length = 1) (hy : F.eval y = .s v) (hx : (AV.s v).one = true) : Does P o F σ (.sl [.s v]) σ :=
  does_fin (lit1_s ho ht hi h1 hn hy hx) rfl (fun u hu => by simp [ho, Op.operands] at hu; subst hu; rw [hy]; exact .s _) (.sl _ (zae (.s _) zah))
theorem lit1_slF {t e : TypeId} {y : Operand} {z : Value} {bt : Nat} {l : List AV} (ho : o.op = .buildSlice t 1 #[(0, y)]) (ht : zbv P t = some e) (hi : zbx P e = some (some z, 1, bt))
    (h1 : (ofValue z).cells.all AV.one = true) (hn : (ofValue z).cells.length = 1) (hy : F.eval y = .sl l) (hx : (AV.sl l).one = true) (hl : Lo 0 (.sl l)) : Does P o F σ (.sl [.sl l]) σ :=
  does_fin (lit1_sl ho ht hi h1 hn hy hx) rfl (fun u hu => by simp [ho, Op.operands] at hu; subst hu; rw [hy]; exact hl) (.sl _ (zae hl zah))
theorem does_litAF {t e : TypeId} {y : Operand} {z : Value} {n bt : Nat} {cs : List AV} (ho : o.op = .buildSlice t 1 #[(0, y)]) (ht : zbv P t = some e) (hi : zbx P e = some (some z, n, bt))
    (h1 : (ofValue z).cells.all AV.one = true) (hn : (ofValue z).cells.length = n) (h2 : 2 ≤ n) (hsm : n ≤ 16777216) (hy : F.eval y = .agg cs) (hx : cs.all AV.one = true) (hl : cs.length = n) (hlo : Lo 0 (.agg cs)) : Does P o F σ (.sl [.agg cs]) σ :=
  does_fin (does_litA ho ht hi h1 hn h2 hsm hy hx hl) rfl (fun u hu => by simp [ho, Op.operands] at hu; subst hu; rw [hy]; exact hlo) (.sl _ (zae hlo zah))
end
section
variable {P : Program} {F : Frm} {σ : List Ob}
end
end Go.Proofs.Ytmoipmnhgdmkpaa.Aw
end
section
namespace Go.Proofs.Ytmoipmnhgdmkpaa.Aw
set_option linter.unusedSimpArgs false
set_option linter.unusedVariables false
set_option linter.unusedSectionVars false
open Go.RowKit Go.Proofs
variable {P : Program} [IsP P]

def mostL (l : List Sft) : List Int := l.map Sft.most
theorem mostL_len (l : List Sft) : (mostL l).length = l.length := by simp [mostL]
theorem mostL_gti {l : List Sft} {k : Nat} (h : k < l.length) : gti (mostL l) k = (gti l k).most := by
  have h1 : (mostL l)[k]? = some (gti l k).most := by
    unfold mostL
    rw [List.getElem?_map, gti_get h]; rfl
  unfold gti at *
  rw [h1]; rfl
set_option maxHeartbeats 1000000 in
theorem most_pf (l : List Sft) (hl : l.length ≤ 12) : Pure P 29 [eL eSh l] (eL eI (mostL l)) := by
  refine aw_fn (by rw [IsP.eq (P := P)]; exact Try.func29) rfl rfl rfl rfl rfl (by repeat' (first | exact Lo.s _ | exact zah | refine zae ?_ ?_ | refine zai ?_ | refine Lo.cells ?_ | refine Lo.agg _ ?_ | refine Lo.ref _ ?_ | refine Lo.tup _ ?_ | refine Lo.fn _ _ ?_ | refine Lo.sl _ ?_ | intro _)) (by repeat' (first | exact Lo.s _ | exact zah | refine zae ?_ ?_ | refine zai ?_ | refine Lo.cells ?_ | refine Lo.agg _ ?_ | refine Lo.ref _ ?_ | refine Lo.tup _ ?_ | refine Lo.fn _ _ ?_ | refine Lo.sl _ ?_ | intro _)) (by simp only [argF]; rfl) ?_
  repeat (first | refine zag ?_ | refine zap ?_ | refine zad ?_ | refine zaq ?_ | refine zac ?_)
  refine zaf ?_
  first | refine zab rfl rfl (zaa rfl) (za3 (.inr rfl) rfl) ?_ | refine zab rfl rfl (zaa rfl) (zbi (.inr rfl) rfl) ?_ | refine zab rfl rfl (zaa rfl) (mv_s (.inr rfl) rfl) ?_ | refine zab rfl rfl (zaa rfl) (za4 (.inr rfl) rfl) ?_
  refine zan ?_
  repeat (first | refine zag ?_ | refine zap ?_ | refine zad ?_ | refine zaq ?_ | refine zac ?_)
  refine zaf ?_
  refine zab rfl rfl (zaa rfl) (does_lit0 rfl rfl ts22 ti3) ?_
  first | refine zab rfl rfl (zaa rfl) (za3 (.inr rfl) rfl) ?_ | refine zab rfl rfl (zaa rfl) (zbi (.inr rfl) rfl) ?_ | refine zab rfl rfl (zaa rfl) (mv_s (.inr rfl) rfl) ?_ | refine zab rfl rfl (zaa rfl) (za4 (.inr rfl) rfl) ?_
  refine zan ?_
  repeat (first | refine zag ?_ | refine zap ?_ | refine zad ?_ | refine zaq ?_ | refine zac ?_)
  refine zaf ?_
  first | refine zab rfl rfl (zaa rfl) (za3 (.inl rfl) rfl) ?_ | refine zab rfl rfl (zaa rfl) (zbi (.inl rfl) rfl) ?_ | refine zab rfl rfl (zaa rfl) (mv_s (.inl rfl) rfl) ?_ | refine zab rfl rfl (zaa rfl) (za4 (.inl rfl) rfl) ?_
  first | refine zab rfl rfl (zaa rfl) (za0 rfl ts23 rfl) ?_ | refine zab rfl rfl (zaa rfl) (za7 rfl ts23 rfl) ?_ | refine zab rfl rfl (zaa rfl) (zaw rfl ts23 rfl) ?_ | refine zab rfl rfl (zaa rfl) (zbc rfl ts23 rfl) ?_ | refine zab rfl rfl (zaa rfl) (zax rfl ts23 rfl) ?_
  refine zab rfl rfl (zaa rfl) (mv_s (.inl rfl) rfl) ?_
  refine zan ?_
  repeat (first | refine zag ?_ | refine zap ?_ | refine zad ?_ | refine zaq ?_ | refine zac ?_)
  refine zb3 (wk_own (d := 3) 1 rfl (.inl rfl)) ?_
  refine aw_loops (S := Nat) (fun k => [(7, eL eSh l), (8, eI l.length), (9, eI k), (3, .own 0 1 k)]) (fun k => [.row 1 (((mostL l).take k).map eI)]) (fun k => k ≤ l.length) (fun k => l.length - k) 0 (wk_st [0] (by decide) ⟨⟨_, rfl, .rowE (by repeat' (first | exact Lo.s _ | exact zah | exact zba | refine zae ?_ ?_ | refine zaz ?_ ?_ | refine zai ?_ | refine zbb ?_ | refine Lo.cells ?_ | refine Lo.agg _ ?_ | refine Lo.sl _ ?_ | intro _)) rfl⟩, trivial⟩ ⟨.lo _ (by repeat' (first | exact Lo.s _ | exact zah | refine zae ?_ ?_ | refine zai ?_ | refine Lo.cells ?_ | refine Lo.agg _ ?_ | refine Lo.ref _ ?_ | refine Lo.tup _ ?_ | refine Lo.fn _ _ ?_ | refine Lo.sl _ ?_ | intro _)), .lo _ (by repeat' (first | exact Lo.s _ | exact zah | refine zae ?_ ?_ | refine zai ?_ | refine Lo.cells ?_ | refine Lo.agg _ ?_ | refine Lo.ref _ ?_ | refine Lo.tup _ ?_ | refine Lo.fn _ _ ?_ | refine Lo.sl _ ?_ | intro _)), .lo _ (by repeat' (first | exact Lo.s _ | exact zah | refine zae ?_ ?_ | refine zai ?_ | refine Lo.cells ?_ | refine Lo.agg _ ?_ | refine Lo.ref _ ?_ | refine Lo.tup _ ?_ | refine Lo.fn _ _ ?_ | refine Lo.sl _ ?_ | intro _)), .own 0 0 1 _ _ rfl rfl, trivial⟩) (Nat.zero_le _) (fun k hk => ?_)
  have hcl := mostL_len l
  repeat (first | refine zag ?_ | refine zap ?_ | refine zad ?_ | refine zaq ?_ | refine zac ?_)
  all_goals refine zaf ?_
  all_goals (first | refine zbj rfl rfl (zaa rfl) (zbd rfl rfl rfl) (fun h10 => ?_) (fun h10 => ?_) | refine zbk rfl rfl (zaa rfl) (zbd rfl rfl rfl) (fun h10 => ?_) (fun h10 => ?_))
  all_goals refine zan ?_
  all_goals (repeat (first | refine zag ?_ | refine zap ?_ | refine zad ?_ | refine zaq ?_ | refine zac ?_))
  all_goals (first | refine zbq rfl ?_ | refine zbm rfl ?_)
  all_goals (repeat (first | refine zag ?_ | refine zap ?_ | refine zad ?_ | refine zaq ?_ | refine zac ?_))
  · have hlt : k < l.length := by omega
    have htk : (((mostL l).take k).map eI).length = k := by simp; omega
    have hrow : ((mostL l).take (k + 1)).map eI = ((mostL l).take k).map eI ++ [eI (gti l k).most] := by
      rw [take_snoc (by omega), List.map_append, mostL_gti hlt]; rfl
    refine zaf ?_
    first | refine zab rfl rfl (zaa rfl) (za1 rfl ts23 ti39 rfl rfl rfl (zb5 (by omega)) rfl) ?_ | refine zab rfl rfl (zaa rfl) (zav rfl ts23 ti39 rfl rfl rfl (by omega)) ?_
    first | refine zab rfl rfl (zaa rfl) (za9 rfl ta39 ti39 rfl rfl) ?_ | refine zab rfl rfl (zaa rfl) (zbf rfl ta39 ti39 rfl rfl rfl rfl rfl) ?_ | refine zab rfl rfl (zaa rfl) (za8 rfl ta39 ti39 rfl (Nat.le_of_ble_eq_true rfl)) ?_ | refine zab rfl rfl (zaa rfl) (zbg rfl ta39 ti39 rfl rfl rfl rfl (Nat.le_of_ble_eq_true rfl)) ?_
    refine zab rfl rfl (zaa rfl) (zbu rfl ti39 rfl rfl) ?_
    refine zb2 rfl (zaa rfl) (zbe rfl ti39 rfl rfl rfl rfl rfl rfl (by decide) (by decide)) ?_
    refine zan ?_
    repeat (first | refine zag ?_ | refine zap ?_ | refine zad ?_ | refine zaq ?_ | refine zac ?_)
    refine zb3 (wk_froz (id := 1) rfl) ?_
    refine zb3 (wk_ref (d := 5) rfl rfl rfl) ?_
    refine zaf ?_
    first | refine zab rfl rfl (zaa rfl) (za3 (.inl rfl) rfl) ?_ | refine zab rfl rfl (zaa rfl) (zbi (.inl rfl) rfl) ?_ | refine zab rfl rfl (zaa rfl) (mv_s (.inl rfl) rfl) ?_ | refine zab rfl rfl (zaa rfl) (za4 (.inl rfl) rfl) ?_
    first | refine zab rfl rfl (zaa rfl) (zal rfl tf39_2 (by decide) rfl) ?_ | refine zab rfl rfl (zaa rfl) (zaj rfl tf39_2 (by decide) rfl) ?_
    first | refine zab rfl rfl (zaa rfl) (zao rfl ta3 rfl) ?_ | refine zab rfl rfl (zaa rfl) (zar rfl ta3 rfl rfl rfl rfl rfl) ?_
    first | refine zab rfl rfl (zaa rfl) (lit1_sF rfl ts22 ti3 rfl rfl rfl rfl) ?_ | refine zab rfl rfl (zaa rfl) (lit1_slF rfl ts22 ti3 rfl rfl rfl rfl (by repeat' (first | exact Lo.s _ | exact zah | refine zae ?_ ?_ | refine zai ?_ | refine Lo.cells ?_ | refine Lo.agg _ ?_ | refine Lo.ref _ ?_ | refine Lo.tup _ ?_ | refine Lo.fn _ _ ?_ | refine Lo.sl _ ?_ | intro _))) ?_ | refine zab rfl rfl (zaa rfl) (does_litAF rfl ts22 ti3 rfl rfl (by decide) (by decide) rfl rfl rfl (by repeat' (first | exact Lo.s _ | exact zah | refine zae ?_ ?_ | refine zai ?_ | refine Lo.cells ?_ | refine Lo.agg _ ?_ | refine Lo.ref _ ?_ | refine Lo.tup _ ?_ | refine Lo.fn _ _ ?_ | refine Lo.sl _ ?_ | intro _))) ?_
    first | refine zab rfl rfl (zaa rfl) (does_append rfl ts22 ti3 rfl (by decide) rfl rfl (by first | rfl | (simp; done) | (simp; omega)) rfl (by first | exact .own _ _ _ rfl rfl _ (by first | rfl | simp) | exact .emp | exact .nil | exact .sl _ (by first | simp; done | intro e he; simp at he; obtain ⟨_, _, rfl⟩ := he; rfl)) (by first | omega | (simp; omega) | (unfold maxLen; simp; omega)) (by first | omega | (simp; omega) | (unfold maxLen; simp; omega))) ?_ | refine zab rfl rfl (zaa rfl) (zbn rfl ts22 ti3 rfl (by decide) rfl (.inl rfl) rfl (by first | exact .own _ _ _ rfl rfl _ (by first | rfl | simp) | exact .emp | exact .nil | exact .sl _ (by first | simp; done | intro e he; simp at he; obtain ⟨_, _, rfl⟩ := he; rfl)) (by first | omega | (simp; omega) | (unfold maxLen; simp; omega)) (by first | omega | (simp; omega) | (unfold maxLen; simp; omega))) ?_ | refine zab rfl rfl (zaa rfl) (zbn rfl ts22 ti3 rfl (by decide) rfl (.inr rfl) rfl (by first | exact .own _ _ _ rfl rfl _ (by first | rfl | simp) | exact .emp | exact .nil | exact .sl _ (by first | simp; done | intro e he; simp at he; obtain ⟨_, _, rfl⟩ := he; rfl)) (by first | omega | (simp; omega) | (unfold maxLen; simp; omega)) (by first | omega | (simp; omega) | (unfold maxLen; simp; omega))) ?_
    first | refine zab rfl rfl (zaa rfl) (za3 (.inr rfl) rfl) ?_ | refine zab rfl rfl (zaa rfl) (zbi (.inr rfl) rfl) ?_ | refine zab rfl rfl (zaa rfl) (mv_s (.inr rfl) rfl) ?_ | refine zab rfl rfl (zaa rfl) (za4 (.inr rfl) rfl) ?_
    refine zan ?_
    repeat (first | refine zag ?_ | refine zap ?_ | refine zad ?_ | refine zaq ?_ | refine zac ?_)
    refine zaf ?_
    refine zab rfl rfl (zaa rfl) (zbw rfl rfl rfl (IntWalk.i64_in _ (by omega))) ?_
    refine zab rfl rfl (zaa rfl) (mv_s (.inl rfl) rfl) ?_
    refine zan ?_
    repeat (first | refine zag ?_ | refine zap ?_ | refine zad ?_ | refine zaq ?_ | refine zac ?_)
    exact ⟨k + 1, by omega, by omega, wk_st [2] (by decide) ⟨⟨_, rfl, .rowE (by repeat' (first | exact Lo.s _ | exact zah | exact zba | refine zae ?_ ?_ | refine zaz ?_ ?_ | refine zai ?_ | refine zbb ?_ | refine Lo.cells ?_ | refine Lo.agg _ ?_ | refine Lo.sl _ ?_ | intro _)) (Eq.trans (b := ((mostL l).take k).map eI ++ [eI (gti l k).most]) rfl hrow.symm)⟩, trivial⟩ ⟨.lo _ (by repeat' (first | exact Lo.s _ | exact zah | refine zae ?_ ?_ | refine zai ?_ | refine Lo.cells ?_ | refine Lo.agg _ ?_ | refine Lo.ref _ ?_ | refine Lo.tup _ ?_ | refine Lo.fn _ _ ?_ | refine Lo.sl _ ?_ | intro _)), .lo _ (by repeat' (first | exact Lo.s _ | exact zah | refine zae ?_ ?_ | refine zai ?_ | refine Lo.cells ?_ | refine Lo.agg _ ?_ | refine Lo.ref _ ?_ | refine Lo.tup _ ?_ | refine Lo.fn _ _ ?_ | refine Lo.sl _ ?_ | intro _)), .lo _ (by repeat' (first | exact Lo.s _ | exact zah | refine zae ?_ ?_ | refine zai ?_ | refine Lo.cells ?_ | refine Lo.agg _ ?_ | refine Lo.ref _ ?_ | refine Lo.tup _ ?_ | refine Lo.fn _ _ ?_ | refine Lo.sl _ ?_ | intro _)), .own 2 0 1 _ _ rfl (by simp; omega), trivial⟩⟩
  · (refine aw_exit ?_; repeat (first | refine ath_x ?_ | refine abl_hit ?_ | refine abl_miss rfl ?_ | refine zaq ?_ | refine zap ?_ | refine zag ?_ | refine zad ?_ | refine zac ?_))
    refine zaf ?_
    first | refine zab rfl rfl (zaa rfl) (za3 (.inl rfl) rfl) ?_ | refine zab rfl rfl (zaa rfl) (zbi (.inl rfl) rfl) ?_ | refine zab rfl rfl (zaa rfl) (mv_s (.inl rfl) rfl) ?_ | refine zab rfl rfl (zaa rfl) (za4 (.inl rfl) rfl) ?_
    first | refine zab rfl rfl (zaa rfl) (za3 (.inr rfl) rfl) ?_ | refine zab rfl rfl (zaa rfl) (zbi (.inr rfl) rfl) ?_ | refine zab rfl rfl (zaa rfl) (mv_s (.inr rfl) rfl) ?_ | refine zab rfl rfl (zaa rfl) (za4 (.inr rfl) rfl) ?_
    refine zan ?_
    repeat (first | refine zag ?_ | refine zap ?_ | refine zad ?_ | refine zaq ?_ | refine zac ?_)
    (refine zbt ?_; repeat (first | refine ath_r ?_ | refine abl_r ?_))
    have e : (mostL l).take k = mostL l := List.take_of_length_le (by omega)
    refine post1f (.inr rfl) rfl ?_
    rw [e]
    exact .own _ _ _ _ _ rfl rfl (by simp; omega)
set_option maxHeartbeats 1000000 in
theorem greatest_pf (l : List Sft) (hl : l.length ≤ 12) : Pure P 30 [eL eSh l] (eL eI (mostL l)) := by
  refine aw_fn (by rw [IsP.eq (P := P)]; exact Try.func30) rfl rfl rfl rfl rfl (by repeat' (first | exact Lo.s _ | exact zah | refine zae ?_ ?_ | refine zai ?_ | refine Lo.cells ?_ | refine Lo.agg _ ?_ | refine Lo.ref _ ?_ | refine Lo.tup _ ?_ | refine Lo.fn _ _ ?_ | refine Lo.sl _ ?_ | intro _)) (by repeat' (first | exact Lo.s _ | exact zah | refine zae ?_ ?_ | refine zai ?_ | refine Lo.cells ?_ | refine Lo.agg _ ?_ | refine Lo.ref _ ?_ | refine Lo.tup _ ?_ | refine Lo.fn _ _ ?_ | refine Lo.sl _ ?_ | intro _)) (by simp only [argF]; rfl) ?_
  repeat (first | refine zag ?_ | refine zap ?_ | refine zad ?_ | refine zaq ?_ | refine zac ?_)
  refine zaf ?_
  first | refine zab rfl rfl (zaa rfl) (za3 (.inr rfl) rfl) ?_ | refine zab rfl rfl (zaa rfl) (zbi (.inr rfl) rfl) ?_ | refine zab rfl rfl (zaa rfl) (mv_s (.inr rfl) rfl) ?_ | refine zab rfl rfl (zaa rfl) (za4 (.inr rfl) rfl) ?_
  refine zan ?_
  repeat (first | refine zag ?_ | refine zap ?_ | refine zad ?_ | refine zaq ?_ | refine zac ?_)
  refine zaf ?_
  first | refine zab rfl rfl (zaa rfl) (za3 (.inr rfl) rfl) ?_ | refine zab rfl rfl (zaa rfl) (zbi (.inr rfl) rfl) ?_ | refine zab rfl rfl (zaa rfl) (mv_s (.inr rfl) rfl) ?_ | refine zab rfl rfl (zaa rfl) (za4 (.inr rfl) rfl) ?_
  refine zan ?_
  repeat (first | refine zag ?_ | refine zap ?_ | refine zad ?_ | refine zaq ?_ | refine zac ?_)
  refine zaf ?_
  refine zab rfl rfl (zaa rfl) (mv_s (.inr rfl) rfl) ?_
  refine zan ?_
  repeat (first | refine zag ?_ | refine zap ?_ | refine zad ?_ | refine zaq ?_ | refine zac ?_)
  refine zb3 (wk_own (d := 3) 1 rfl (.inr rfl)) ?_
  refine aw_loops (S := Nat) (fun k => [(0, eL eSh l), (4, eI k), (3, .own 0 1 k)]) (fun k => [.row 1 (((mostL l).take k).map eI)]) (fun k => k ≤ l.length) (fun k => l.length - k) 0 (wk_st [0] (by decide) ⟨⟨_, rfl, .rowE (by repeat' (first | exact Lo.s _ | exact zah | exact zba | refine zae ?_ ?_ | refine zaz ?_ ?_ | refine zai ?_ | refine zbb ?_ | refine Lo.cells ?_ | refine Lo.agg _ ?_ | refine Lo.sl _ ?_ | intro _)) rfl⟩, trivial⟩ ⟨.lo _ (by repeat' (first | exact Lo.s _ | exact zah | refine zae ?_ ?_ | refine zai ?_ | refine Lo.cells ?_ | refine Lo.agg _ ?_ | refine Lo.ref _ ?_ | refine Lo.tup _ ?_ | refine Lo.fn _ _ ?_ | refine Lo.sl _ ?_ | intro _)), .lo _ (by repeat' (first | exact Lo.s _ | exact zah | refine zae ?_ ?_ | refine zai ?_ | refine Lo.cells ?_ | refine Lo.agg _ ?_ | refine Lo.ref _ ?_ | refine Lo.tup _ ?_ | refine Lo.fn _ _ ?_ | refine Lo.sl _ ?_ | intro _)), .own 0 0 1 _ _ rfl rfl, trivial⟩) (Nat.zero_le _) (fun k hk => ?_)
  have hcl := mostL_len l
  repeat (first | refine zag ?_ | refine zap ?_ | refine zad ?_ | refine zaq ?_ | refine zac ?_)
  all_goals refine zaf ?_
  all_goals refine zab rfl rfl (zaa rfl) (mv_s (.inl rfl) rfl) ?_
  all_goals (first | refine zab rfl rfl (zaa rfl) (za3 (.inl rfl) rfl) ?_ | refine zab rfl rfl (zaa rfl) (zbi (.inl rfl) rfl) ?_ | refine zab rfl rfl (zaa rfl) (mv_s (.inl rfl) rfl) ?_ | refine zab rfl rfl (zaa rfl) (za4 (.inl rfl) rfl) ?_)
  all_goals (first | refine zab rfl rfl (zaa rfl) (za0 rfl ts23 rfl) ?_ | refine zab rfl rfl (zaa rfl) (za7 rfl ts23 rfl) ?_ | refine zab rfl rfl (zaa rfl) (zaw rfl ts23 rfl) ?_ | refine zab rfl rfl (zaa rfl) (zbc rfl ts23 rfl) ?_ | refine zab rfl rfl (zaa rfl) (zax rfl ts23 rfl) ?_)
  all_goals (first | refine zbj rfl rfl (zaa rfl) (zbd rfl rfl rfl) (fun h8 => ?_) (fun h8 => ?_) | refine zbk rfl rfl (zaa rfl) (zbd rfl rfl rfl) (fun h8 => ?_) (fun h8 => ?_))
  all_goals refine zan ?_
  all_goals (repeat (first | refine zag ?_ | refine zap ?_ | refine zad ?_ | refine zaq ?_ | refine zac ?_))
  all_goals (first | refine zbq rfl ?_ | refine zbm rfl ?_)
  all_goals (repeat (first | refine zag ?_ | refine zap ?_ | refine zad ?_ | refine zaq ?_ | refine zac ?_))
  · have hlt : k < l.length := by omega
    have htk : (((mostL l).take k).map eI).length = k := by simp; omega
    have hrow : ((mostL l).take (k + 1)).map eI = ((mostL l).take k).map eI ++ [eI (gti l k).most] := by
      rw [take_snoc (by omega), List.map_append, mostL_gti hlt]; rfl
    refine zaf ?_
    first | refine zab rfl rfl (zaa rfl) (za3 (.inl rfl) rfl) ?_ | refine zab rfl rfl (zaa rfl) (zbi (.inl rfl) rfl) ?_ | refine zab rfl rfl (zaa rfl) (mv_s (.inl rfl) rfl) ?_ | refine zab rfl rfl (zaa rfl) (za4 (.inl rfl) rfl) ?_
    first | refine zab rfl rfl (zaa rfl) (za3 (.inl rfl) rfl) ?_ | refine zab rfl rfl (zaa rfl) (zbi (.inl rfl) rfl) ?_ | refine zab rfl rfl (zaa rfl) (mv_s (.inl rfl) rfl) ?_ | refine zab rfl rfl (zaa rfl) (za4 (.inl rfl) rfl) ?_
    refine zab rfl rfl (zaa rfl) (mv_s (.inl rfl) rfl) ?_
    first | refine zab rfl rfl (zaa rfl) (za1 rfl ts23 ti39 rfl rfl rfl (zb5 (by omega)) rfl) ?_ | refine zab rfl rfl (zaa rfl) (zav rfl ts23 ti39 rfl rfl rfl (by omega)) ?_
    first | refine zab rfl rfl (zaa rfl) (zal rfl tf39_2 (by decide) rfl) ?_ | refine zab rfl rfl (zaa rfl) (zaj rfl tf39_2 (by decide) rfl) ?_
    first | refine zab rfl rfl (zaa rfl) (zao rfl ta3 rfl) ?_ | refine zab rfl rfl (zaa rfl) (zar rfl ta3 rfl rfl rfl rfl rfl) ?_
    first | refine zab rfl rfl (zaa rfl) (lit1_sF rfl ts22 ti3 rfl rfl rfl rfl) ?_ | refine zab rfl rfl (zaa rfl) (lit1_slF rfl ts22 ti3 rfl rfl rfl rfl (by repeat' (first | exact Lo.s _ | exact zah | refine zae ?_ ?_ | refine zai ?_ | refine Lo.cells ?_ | refine Lo.agg _ ?_ | refine Lo.ref _ ?_ | refine Lo.tup _ ?_ | refine Lo.fn _ _ ?_ | refine Lo.sl _ ?_ | intro _))) ?_ | refine zab rfl rfl (zaa rfl) (does_litAF rfl ts22 ti3 rfl rfl (by decide) (by decide) rfl rfl rfl (by repeat' (first | exact Lo.s _ | exact zah | refine zae ?_ ?_ | refine zai ?_ | refine Lo.cells ?_ | refine Lo.agg _ ?_ | refine Lo.ref _ ?_ | refine Lo.tup _ ?_ | refine Lo.fn _ _ ?_ | refine Lo.sl _ ?_ | intro _))) ?_
    first | refine zab rfl rfl (zaa rfl) (does_append rfl ts22 ti3 rfl (by decide) rfl rfl (by first | rfl | (simp; done) | (simp; omega)) rfl (by first | exact .own _ _ _ rfl rfl _ (by first | rfl | simp) | exact .emp | exact .nil | exact .sl _ (by first | simp; done | intro e he; simp at he; obtain ⟨_, _, rfl⟩ := he; rfl)) (by first | omega | (simp; omega) | (unfold maxLen; simp; omega)) (by first | omega | (simp; omega) | (unfold maxLen; simp; omega))) ?_ | refine zab rfl rfl (zaa rfl) (zbn rfl ts22 ti3 rfl (by decide) rfl (.inl rfl) rfl (by first | exact .own _ _ _ rfl rfl _ (by first | rfl | simp) | exact .emp | exact .nil | exact .sl _ (by first | simp; done | intro e he; simp at he; obtain ⟨_, _, rfl⟩ := he; rfl)) (by first | omega | (simp; omega) | (unfold maxLen; simp; omega)) (by first | omega | (simp; omega) | (unfold maxLen; simp; omega))) ?_ | refine zab rfl rfl (zaa rfl) (zbn rfl ts22 ti3 rfl (by decide) rfl (.inr rfl) rfl (by first | exact .own _ _ _ rfl rfl _ (by first | rfl | simp) | exact .emp | exact .nil | exact .sl _ (by first | simp; done | intro e he; simp at he; obtain ⟨_, _, rfl⟩ := he; rfl)) (by first | omega | (simp; omega) | (unfold maxLen; simp; omega)) (by first | omega | (simp; omega) | (unfold maxLen; simp; omega))) ?_
    first | refine zab rfl rfl (zaa rfl) (za3 (.inr rfl) rfl) ?_ | refine zab rfl rfl (zaa rfl) (zbi (.inr rfl) rfl) ?_ | refine zab rfl rfl (zaa rfl) (mv_s (.inr rfl) rfl) ?_ | refine zab rfl rfl (zaa rfl) (za4 (.inr rfl) rfl) ?_
    refine zan ?_
    repeat (first | refine zag ?_ | refine zap ?_ | refine zad ?_ | refine zaq ?_ | refine zac ?_)
    refine zaf ?_
    refine zab rfl rfl (zaa rfl) (mv_s (.inl rfl) rfl) ?_
    refine zab rfl rfl (zaa rfl) (zbw rfl rfl rfl (IntWalk.i64_in _ (by omega))) ?_
    refine zab rfl rfl (zaa rfl) (mv_s (.inr rfl) rfl) ?_
    refine zan ?_
    repeat (first | refine zag ?_ | refine zap ?_ | refine zad ?_ | refine zaq ?_ | refine zac ?_)
    exact ⟨k + 1, by omega, by omega, wk_st [1] (by decide) ⟨⟨_, rfl, .rowE (by repeat' (first | exact Lo.s _ | exact zah | exact zba | refine zae ?_ ?_ | refine zaz ?_ ?_ | refine zai ?_ | refine zbb ?_ | refine Lo.cells ?_ | refine Lo.agg _ ?_ | refine Lo.sl _ ?_ | intro _)) (Eq.trans (b := ((mostL l).take k).map eI ++ [eI (gti l k).most]) rfl hrow.symm)⟩, trivial⟩ ⟨.lo _ (by repeat' (first | exact Lo.s _ | exact zah | refine zae ?_ ?_ | refine zai ?_ | refine Lo.cells ?_ | refine Lo.agg _ ?_ | refine Lo.ref _ ?_ | refine Lo.tup _ ?_ | refine Lo.fn _ _ ?_ | refine Lo.sl _ ?_ | intro _)), .lo _ (by repeat' (first | exact Lo.s _ | exact zah | refine zae ?_ ?_ | refine zai ?_ | refine Lo.cells ?_ | refine Lo.agg _ ?_ | refine Lo.ref _ ?_ | refine Lo.tup _ ?_ | refine Lo.fn _ _ ?_ | refine Lo.sl _ ?_ | intro _)), .own 1 0 1 _ _ rfl (by simp; omega), trivial⟩⟩
  · (refine aw_exit ?_; repeat (first | refine ath_x ?_ | refine abl_hit ?_ | refine abl_miss rfl ?_ | refine zaq ?_ | refine zap ?_ | refine zag ?_ | refine zad ?_ | refine zac ?_))
    refine zaf ?_
    first | refine zab rfl rfl (zaa rfl) (za3 (.inl rfl) rfl) ?_ | refine zab rfl rfl (zaa rfl) (zbi (.inl rfl) rfl) ?_ | refine zab rfl rfl (zaa rfl) (mv_s (.inl rfl) rfl) ?_ | refine zab rfl rfl (zaa rfl) (za4 (.inl rfl) rfl) ?_
    first | refine zab rfl rfl (zaa rfl) (za3 (.inr rfl) rfl) ?_ | refine zab rfl rfl (zaa rfl) (zbi (.inr rfl) rfl) ?_ | refine zab rfl rfl (zaa rfl) (mv_s (.inr rfl) rfl) ?_ | refine zab rfl rfl (zaa rfl) (za4 (.inr rfl) rfl) ?_
    refine zan ?_
    repeat (first | refine zag ?_ | refine zap ?_ | refine zad ?_ | refine zaq ?_ | refine zac ?_)
    (refine zbt ?_; repeat (first | refine ath_r ?_ | refine abl_r ?_))
    have e : (mostL l).take k = mostL l := List.take_of_length_le (by omega)
    refine post1f (.inr rfl) rfl ?_
    rw [e]
    exact .own _ _ _ _ _ rfl rfl (by simp; omega)
theorem okC_of {d : List Int} {l : List Sft} {c : List Int} (hv : validS d l = true) (hc : cntB l c = true) : okC l c := by
  obtain ⟨⟨_, _, q3⟩, _, ql⟩ := validS_iff hv
  obtain ⟨h1, h2⟩ := cntB_iff hc
  exact ⟨h1, q3, fun k hk => by have := h2 k hk; have := (ql k hk).1; omega⟩
theorem okC_most {d : List Int} {l : List Sft} (hv : validS d l = true) : okC l (mostL l) := by
  obtain ⟨⟨_, _, q3⟩, _, ql⟩ := validS_iff hv
  exact ⟨mostL_len l, q3, fun k hk => by rw [mostL_gti hk]; have := (ql k hk).1; omega⟩
structure Pln where
  c : List Int
  cost : Int
def ePl (p : Pln) : AV := .agg [eL eI p.c, eI p.cost]
def covE (d : List Int) (l : List Sft) (c : List Int) : Bool × Int × Int := if ¬ (validS d l = true ∧ cntB l c = true) then (false, 0, 1) else (decide (shE d l c < 0), shE d l c, 0)
def eBII (r : Bool × Int × Int) : AV := .tup [eB r.1, eI r.2.1, eI r.2.2]
theorem post_bii {N : Nat} {F : Frm} {σ : List Ob} {t u v : Nat} {r : Bool × Int × Int} {b : Bool} {m n : Int} {e : Exit} (he : e = .normal ∨ e = .ret) (h : F.get t = eB b) (h' : F.get u = eI m) (h'' : F.get v = eI n) (hr : r = (b, m, n)) : APost P [.tmp t, .tmp u, .tmp v] (eBII r) e F σ := by
  subst hr
  exact post3 he h h' h'' (.refl _) (.refl _) (.refl _)
set_option maxHeartbeats 1000000 in
theorem covers_pf (d : List Int) (l : List Sft) (p : Pln) : Pure P 9 [eL eI d, eL eSh l, ePl p] (eBII (covE d l p.c)) := by
  have HI : covE d l p.c = if ¬ (validS d l = true ∧ cntB l p.c = true) then (false, 0, 1) else (decide (shE d l p.c < 0), shE d l p.c, 0) := rfl
  generalize covE d l p.c = R at HI ⊢
  refine aw_fn (by rw [IsP.eq (P := P)]; exact Try.func9) rfl rfl rfl rfl rfl (by repeat' (first | exact Lo.s _ | exact zah | refine zae ?_ ?_ | refine zai ?_ | refine Lo.cells ?_ | refine Lo.agg _ ?_ | refine Lo.ref _ ?_ | refine Lo.tup _ ?_ | refine Lo.fn _ _ ?_ | refine Lo.sl _ ?_ | intro _)) (by repeat' (first | exact Lo.s _ | exact zah | refine zae ?_ ?_ | refine zai ?_ | refine Lo.cells ?_ | refine Lo.agg _ ?_ | refine Lo.ref _ ?_ | refine Lo.tup _ ?_ | refine Lo.fn _ _ ?_ | refine Lo.sl _ ?_ | intro _)) (by simp only [argF]; rfl) ?_
  repeat (first | refine zag ?_ | refine zap ?_ | refine zad ?_ | refine zaq ?_ | refine zac ?_)
  refine zaf ?_
  refine zab rfl rfl (zaa rfl) (does_box rfl rfl rfl rfl) ?_
  refine zbr (wk_froz (id := 0) rfl) (zbr (wk_ref (d := 5) rfl rfl rfl) ?_)
  refine zab rfl rfl (zaa rfl) (mv_s (.inr rfl) rfl) ?_
  refine zab rfl rfl (zaa rfl) (mv_s (.inr rfl) rfl) ?_
  refine zab rfl rfl (zaa rfl) (mv_s (.inr rfl) rfl) ?_
  refine zan ?_
  repeat (first | refine zag ?_ | refine zap ?_ | refine zad ?_ | refine zaq ?_ | refine zac ?_)
  all_goals refine zaf ?_
  all_goals (first | refine zab rfl rfl (zaa rfl) (za3 (.inl rfl) rfl) ?_ | refine zab rfl rfl (zaa rfl) (zbi (.inl rfl) rfl) ?_ | refine zab rfl rfl (zaa rfl) (mv_s (.inl rfl) rfl) ?_ | refine zab rfl rfl (zaa rfl) (za4 (.inl rfl) rfl) ?_)
  all_goals (first | refine zab rfl rfl (zaa rfl) (za3 (.inl rfl) rfl) ?_ | refine zab rfl rfl (zaa rfl) (zbi (.inl rfl) rfl) ?_ | refine zab rfl rfl (zaa rfl) (mv_s (.inl rfl) rfl) ?_ | refine zab rfl rfl (zaa rfl) (za4 (.inl rfl) rfl) ?_)
  all_goals (first | refine zbj rfl rfl (zaa rfl) (za5 rfl rfl ((sValid_pf54 d l)) (zat rfl (zat rfl zbl))) (fun h12 => ?_) (fun h12 => ?_) | refine zbk rfl rfl (zaa rfl) (za5 rfl rfl ((sValid_pf54 d l)) (zat rfl (zat rfl zbl))) (fun h12 => ?_) (fun h12 => ?_))
  all_goals (first | refine zab rfl rfl (zaa rfl) (does_notp rfl rfl) ?_ | refine zab rfl rfl (zaa rfl) (does_not rfl rfl) ?_)
  all_goals refine zab rfl rfl (zaa rfl) (mv_s (.inl rfl) rfl) ?_
  all_goals (first | refine zab rfl rfl (zak rfl rfl rfl) (za3 (.inl rfl) rfl) ?_ | refine zab rfl rfl (zak rfl rfl rfl) (zbi (.inl rfl) rfl) ?_ | refine zab rfl rfl (zak rfl rfl rfl) (mv_s (.inl rfl) rfl) ?_ | refine zab rfl rfl (zak rfl rfl rfl) (za4 (.inl rfl) rfl) ?_ | refine zam rfl rfl (za2 rfl rfl rfl) ?_ | refine zam rfl rfl (zau rfl rfl rfl) ?_)
  all_goals (first | refine zab rfl rfl (zak rfl rfl rfl) (zal rfl tf25_0 (by decide) rfl) ?_ | refine zab rfl rfl (zak rfl rfl rfl) (zaj rfl tf25_0 (by decide) rfl) ?_ | refine zam rfl rfl (za2 rfl rfl rfl) ?_ | refine zam rfl rfl (zau rfl rfl rfl) ?_)
  all_goals (first | refine zab rfl rfl (zak rfl rfl rfl) (zao rfl ta22 rfl) ?_ | refine zab rfl rfl (zak rfl rfl rfl) (zar rfl ta22 rfl rfl rfl rfl rfl) ?_ | refine zam rfl rfl (za2 rfl rfl rfl) ?_ | refine zam rfl rfl (zau rfl rfl rfl) ?_)
  all_goals (first | refine zbj rfl rfl (zak rfl rfl rfl) (za5 rfl rfl ((counts_pf l p.c)) (zat rfl (zat rfl zbl))) (fun h18 => ?_) (fun h18 => ?_) | refine zbk rfl rfl (zak rfl rfl rfl) (za5 rfl rfl ((counts_pf l p.c)) (zat rfl (zat rfl zbl))) (fun h18 => ?_) (fun h18 => ?_) | refine zam rfl rfl (za2 rfl rfl rfl) ?_ | refine zam rfl rfl (zau rfl rfl rfl) ?_)
  all_goals (first | refine zab rfl rfl (zak rfl rfl rfl) (does_notp rfl rfl) ?_ | refine zab rfl rfl (zak rfl rfl rfl) (does_not rfl rfl) ?_ | refine zam rfl rfl (za2 rfl rfl rfl) ?_ | refine zam rfl rfl (zau rfl rfl rfl) ?_)
  all_goals (first | refine zab rfl rfl (zaa rfl) (zb0 rfl rfl rfl) ?_ | refine zab rfl rfl (zaa rfl) (zb1 rfl rfl rfl) ?_ | refine zab rfl rfl (zaa rfl) (zbo rfl rfl rfl) ?_ | refine zab rfl rfl (zaa rfl) (zbp rfl rfl rfl) ?_)
  all_goals refine zan ?_
  all_goals (repeat (first | refine zag ?_ | refine zap ?_ | refine zad ?_ | refine zaq ?_ | refine zac ?_))
  all_goals (first | refine zbq rfl ?_ | refine zbm rfl ?_)
  all_goals (repeat (first | refine zag ?_ | refine zap ?_ | refine zad ?_ | refine zaq ?_ | refine zac ?_))
  all_goals first
    | skip
      refine zaf ?_
      refine zab rfl rfl (zaa rfl) (mv_s (.inr rfl) rfl) ?_
      refine zab rfl rfl (zaa rfl) (mv_s (.inr rfl) rfl) ?_
      refine zab rfl rfl (zaa rfl) (mv_s (.inr rfl) rfl) ?_
      refine zan ?_
      repeat (first | refine zag ?_ | refine zap ?_ | refine zad ?_ | refine zaq ?_ | refine zac ?_)
      (refine zbt ?_; repeat (first | refine ath_r ?_ | refine abl_r ?_))
      exact post_bii (N := 0) (.inr rfl) rfl rfl rfl (by
        rw [HI, if_pos]
        rintro ⟨g1, g2⟩
        first | exact Bool.noConfusion (g1.symm.trans h12) | exact Bool.noConfusion (g2.symm.trans h18))
    | skip
  rw [if_neg (fun h => h ⟨h12, h18⟩)] at HI
  refine zaf ?_
  first | refine zab rfl rfl (zaa rfl) (za3 (.inl rfl) rfl) ?_ | refine zab rfl rfl (zaa rfl) (zbi (.inl rfl) rfl) ?_ | refine zab rfl rfl (zaa rfl) (mv_s (.inl rfl) rfl) ?_ | refine zab rfl rfl (zaa rfl) (za4 (.inl rfl) rfl) ?_
  first | refine zab rfl rfl (zaa rfl) (za3 (.inl rfl) rfl) ?_ | refine zab rfl rfl (zaa rfl) (zbi (.inl rfl) rfl) ?_ | refine zab rfl rfl (zaa rfl) (mv_s (.inl rfl) rfl) ?_ | refine zab rfl rfl (zaa rfl) (za4 (.inl rfl) rfl) ?_
  first | refine zab rfl rfl (zaa rfl) (zal rfl tf25_0 (by decide) rfl) ?_ | refine zab rfl rfl (zaa rfl) (zaj rfl tf25_0 (by decide) rfl) ?_
  first | refine zab rfl rfl (zaa rfl) (zao rfl ta22 rfl) ?_ | refine zab rfl rfl (zaa rfl) (zar rfl ta22 rfl rfl rfl rfl rfl) ?_
  refine zab rfl rfl (zaa rfl) (za5 rfl rfl ((short_pf d l p.c h12 (okC_of h12 h18))) (zat rfl (zat rfl (zat rfl zbl)))) ?_
  refine zab rfl rfl (zaa rfl) (mv_s (.inr rfl) rfl) ?_
  refine zan ?_
  repeat (first | refine zag ?_ | refine zap ?_ | refine zad ?_ | refine zaq ?_ | refine zac ?_)
  refine zaf ?_
  refine zab rfl rfl (zaa rfl) (mv_s (.inl rfl) rfl) ?_
  refine zab rfl rfl (zaa rfl) (zbd rfl rfl rfl) ?_
  refine zab rfl rfl (zaa rfl) (mv_s (.inl rfl) rfl) ?_
  refine zab rfl rfl (zaa rfl) (mv_s (.inr rfl) rfl) ?_
  refine zab rfl rfl (zaa rfl) (mv_s (.inr rfl) rfl) ?_
  refine zab rfl rfl (zaa rfl) (mv_s (.inr rfl) rfl) ?_
  refine zan ?_
  repeat (first | refine zag ?_ | refine zap ?_ | refine zad ?_ | refine zaq ?_ | refine zac ?_)
  (refine zbt ?_; repeat (first | refine ath_r ?_ | refine abl_r ?_))
  exact post_bii (N := 0) (.inr rfl) rfl rfl rfl HI
set_option maxHeartbeats 1000000 in
theorem rCovers_pf (d : List Int) (l : List Sft) (p : Pln) : Pure P 10 [eL eI d, eL eSh l, ePl p] (eBII (covE d l p.c)) := by
  have HI : covE d l p.c = if ¬ (validS d l = true ∧ cntB l p.c = true) then (false, 0, 1) else (decide (shE d l p.c < 0), shE d l p.c, 0) := rfl
  generalize covE d l p.c = R at HI ⊢
  refine aw_fn (by rw [IsP.eq (P := P)]; exact Try.func10) rfl rfl rfl rfl rfl (by repeat' (first | exact Lo.s _ | exact zah | refine zae ?_ ?_ | refine zai ?_ | refine Lo.cells ?_ | refine Lo.agg _ ?_ | refine Lo.ref _ ?_ | refine Lo.tup _ ?_ | refine Lo.fn _ _ ?_ | refine Lo.sl _ ?_ | intro _)) (by repeat' (first | exact Lo.s _ | exact zah | refine zae ?_ ?_ | refine zai ?_ | refine Lo.cells ?_ | refine Lo.agg _ ?_ | refine Lo.ref _ ?_ | refine Lo.tup _ ?_ | refine Lo.fn _ _ ?_ | refine Lo.sl _ ?_ | intro _)) (by simp only [argF]; rfl) ?_
  repeat (first | refine zag ?_ | refine zap ?_ | refine zad ?_ | refine zaq ?_ | refine zac ?_)
  refine zaf ?_
  refine zab rfl rfl (zaa rfl) (does_box rfl rfl rfl rfl) ?_
  refine zbr (wk_froz (id := 0) rfl) (zbr (wk_ref (d := 5) rfl rfl rfl) ?_)
  refine zab rfl rfl (zaa rfl) (mv_s (.inr rfl) rfl) ?_
  refine zab rfl rfl (zaa rfl) (mv_s (.inr rfl) rfl) ?_
  refine zab rfl rfl (zaa rfl) (mv_s (.inr rfl) rfl) ?_
  refine zan ?_
  repeat (first | refine zag ?_ | refine zap ?_ | refine zad ?_ | refine zaq ?_ | refine zac ?_)
  all_goals refine zaf ?_
  all_goals (first | refine zab rfl rfl (zaa rfl) (za3 (.inl rfl) rfl) ?_ | refine zab rfl rfl (zaa rfl) (zbi (.inl rfl) rfl) ?_ | refine zab rfl rfl (zaa rfl) (mv_s (.inl rfl) rfl) ?_ | refine zab rfl rfl (zaa rfl) (za4 (.inl rfl) rfl) ?_)
  all_goals (first | refine zab rfl rfl (zaa rfl) (za3 (.inl rfl) rfl) ?_ | refine zab rfl rfl (zaa rfl) (zbi (.inl rfl) rfl) ?_ | refine zab rfl rfl (zaa rfl) (mv_s (.inl rfl) rfl) ?_ | refine zab rfl rfl (zaa rfl) (za4 (.inl rfl) rfl) ?_)
  all_goals (first | refine zbj rfl rfl (zaa rfl) (za5 rfl rfl ((qValid_pf54 d l)) (zat rfl (zat rfl zbl))) (fun h12 => ?_) (fun h12 => ?_) | refine zbk rfl rfl (zaa rfl) (za5 rfl rfl ((qValid_pf54 d l)) (zat rfl (zat rfl zbl))) (fun h12 => ?_) (fun h12 => ?_))
  all_goals (first | refine zab rfl rfl (zaa rfl) (does_notp rfl rfl) ?_ | refine zab rfl rfl (zaa rfl) (does_not rfl rfl) ?_)
  all_goals refine zab rfl rfl (zaa rfl) (mv_s (.inl rfl) rfl) ?_
  all_goals (first | refine zab rfl rfl (zak rfl rfl rfl) (za3 (.inl rfl) rfl) ?_ | refine zab rfl rfl (zak rfl rfl rfl) (zbi (.inl rfl) rfl) ?_ | refine zab rfl rfl (zak rfl rfl rfl) (mv_s (.inl rfl) rfl) ?_ | refine zab rfl rfl (zak rfl rfl rfl) (za4 (.inl rfl) rfl) ?_ | refine zam rfl rfl (za2 rfl rfl rfl) ?_ | refine zam rfl rfl (zau rfl rfl rfl) ?_)
  all_goals (first | refine zab rfl rfl (zak rfl rfl rfl) (zal rfl tf25_0 (by decide) rfl) ?_ | refine zab rfl rfl (zak rfl rfl rfl) (zaj rfl tf25_0 (by decide) rfl) ?_ | refine zam rfl rfl (za2 rfl rfl rfl) ?_ | refine zam rfl rfl (zau rfl rfl rfl) ?_)
  all_goals (first | refine zab rfl rfl (zak rfl rfl rfl) (zao rfl ta22 rfl) ?_ | refine zab rfl rfl (zak rfl rfl rfl) (zar rfl ta22 rfl rfl rfl rfl rfl) ?_ | refine zam rfl rfl (za2 rfl rfl rfl) ?_ | refine zam rfl rfl (zau rfl rfl rfl) ?_)
  all_goals (first | refine zbj rfl rfl (zak rfl rfl rfl) (za5 rfl rfl ((rCounts_pf l p.c)) (zat rfl (zat rfl zbl))) (fun h18 => ?_) (fun h18 => ?_) | refine zbk rfl rfl (zak rfl rfl rfl) (za5 rfl rfl ((rCounts_pf l p.c)) (zat rfl (zat rfl zbl))) (fun h18 => ?_) (fun h18 => ?_) | refine zam rfl rfl (za2 rfl rfl rfl) ?_ | refine zam rfl rfl (zau rfl rfl rfl) ?_)
  all_goals (first | refine zab rfl rfl (zak rfl rfl rfl) (does_notp rfl rfl) ?_ | refine zab rfl rfl (zak rfl rfl rfl) (does_not rfl rfl) ?_ | refine zam rfl rfl (za2 rfl rfl rfl) ?_ | refine zam rfl rfl (zau rfl rfl rfl) ?_)
  all_goals (first | refine zab rfl rfl (zaa rfl) (zb0 rfl rfl rfl) ?_ | refine zab rfl rfl (zaa rfl) (zb1 rfl rfl rfl) ?_ | refine zab rfl rfl (zaa rfl) (zbo rfl rfl rfl) ?_ | refine zab rfl rfl (zaa rfl) (zbp rfl rfl rfl) ?_)
  all_goals refine zan ?_
  all_goals (repeat (first | refine zag ?_ | refine zap ?_ | refine zad ?_ | refine zaq ?_ | refine zac ?_))
  all_goals (first | refine zbq rfl ?_ | refine zbm rfl ?_)
  all_goals (repeat (first | refine zag ?_ | refine zap ?_ | refine zad ?_ | refine zaq ?_ | refine zac ?_))
  all_goals first
    | skip
      refine zaf ?_
      refine zab rfl rfl (zaa rfl) (mv_s (.inr rfl) rfl) ?_
      refine zab rfl rfl (zaa rfl) (mv_s (.inr rfl) rfl) ?_
      refine zab rfl rfl (zaa rfl) (mv_s (.inr rfl) rfl) ?_
      refine zan ?_
      repeat (first | refine zag ?_ | refine zap ?_ | refine zad ?_ | refine zaq ?_ | refine zac ?_)
      (refine zbt ?_; repeat (first | refine ath_r ?_ | refine abl_r ?_))
      exact post_bii (N := 0) (.inr rfl) rfl rfl rfl (by
        rw [HI, if_pos]
        rintro ⟨g1, g2⟩
        first | exact Bool.noConfusion (g1.symm.trans h12) | exact Bool.noConfusion (g2.symm.trans h18))
    | skip
  rw [if_neg (fun h => h ⟨h12, h18⟩)] at HI
  refine zaf ?_
  first | refine zab rfl rfl (zaa rfl) (za3 (.inl rfl) rfl) ?_ | refine zab rfl rfl (zaa rfl) (zbi (.inl rfl) rfl) ?_ | refine zab rfl rfl (zaa rfl) (mv_s (.inl rfl) rfl) ?_ | refine zab rfl rfl (zaa rfl) (za4 (.inl rfl) rfl) ?_
  first | refine zab rfl rfl (zaa rfl) (za3 (.inl rfl) rfl) ?_ | refine zab rfl rfl (zaa rfl) (zbi (.inl rfl) rfl) ?_ | refine zab rfl rfl (zaa rfl) (mv_s (.inl rfl) rfl) ?_ | refine zab rfl rfl (zaa rfl) (za4 (.inl rfl) rfl) ?_
  first | refine zab rfl rfl (zaa rfl) (zal rfl tf25_0 (by decide) rfl) ?_ | refine zab rfl rfl (zaa rfl) (zaj rfl tf25_0 (by decide) rfl) ?_
  first | refine zab rfl rfl (zaa rfl) (zao rfl ta22 rfl) ?_ | refine zab rfl rfl (zaa rfl) (zar rfl ta22 rfl rfl rfl rfl rfl) ?_
  refine zab rfl rfl (zaa rfl) (za5 rfl rfl ((rShort_pf d l p.c (validS_iff h12).1.2.1 (okC_of h12 h18))) (zat rfl (zat rfl (zat rfl zbl)))) ?_
  refine zab rfl rfl (zaa rfl) (mv_s (.inr rfl) rfl) ?_
  refine zan ?_
  repeat (first | refine zag ?_ | refine zap ?_ | refine zad ?_ | refine zaq ?_ | refine zac ?_)
  refine zaf ?_
  refine zab rfl rfl (zaa rfl) (mv_s (.inl rfl) rfl) ?_
  refine zab rfl rfl (zaa rfl) (zbd rfl rfl rfl) ?_
  refine zab rfl rfl (zaa rfl) (mv_s (.inl rfl) rfl) ?_
  refine zab rfl rfl (zaa rfl) (mv_s (.inr rfl) rfl) ?_
  refine zab rfl rfl (zaa rfl) (mv_s (.inr rfl) rfl) ?_
  refine zab rfl rfl (zaa rfl) (mv_s (.inr rfl) rfl) ?_
  refine zan ?_
  repeat (first | refine zag ?_ | refine zap ?_ | refine zad ?_ | refine zaq ?_ | refine zac ?_)
  (refine zbt ?_; repeat (first | refine ath_r ?_ | refine abl_r ?_))
  exact post_bii (N := 0) (.inr rfl) rfl rfl rfl HI
def impE (d : List Int) (l : List Sft) : Int × Int := if validS d l = true then (if 0 ≤ shE d l (mostL l) then (shE d l (mostL l), 0) else (0, 10)) else (0, 1)
def eII (r : Int × Int) : AV := .tup [eI r.1, eI r.2]
theorem post_ii {N : Nat} {F : Frm} {σ : List Ob} {u v : Nat} {r : Int × Int} {m n : Int} {e : Exit} (he : e = .normal ∨ e = .ret) (h' : F.get u = eI m) (h'' : F.get v = eI n) (hr : r = (m, n)) : APost P [.tmp u, .tmp v] (eII r) e F σ := by
  subst hr
  exact post2 he h' h'' (.refl _) (.refl _)
set_option maxHeartbeats 1000000 in
theorem imp_pf (d : List Int) (l : List Sft) : Pure P 11 [eL eI d, eL eSh l] (eII (impE d l)) := by
  have HI : impE d l = if validS d l = true then (if 0 ≤ shE d l (mostL l) then (shE d l (mostL l), 0) else (0, 10)) else (0, 1) := rfl
  generalize impE d l = R at HI ⊢
  refine aw_fn (by rw [IsP.eq (P := P)]; exact Try.func11) rfl rfl rfl rfl rfl (by repeat' (first | exact Lo.s _ | exact zah | refine zae ?_ ?_ | refine zai ?_ | refine Lo.cells ?_ | refine Lo.agg _ ?_ | refine Lo.ref _ ?_ | refine Lo.tup _ ?_ | refine Lo.fn _ _ ?_ | refine Lo.sl _ ?_ | intro _)) (by repeat' (first | exact Lo.s _ | exact zah | refine zae ?_ ?_ | refine zai ?_ | refine Lo.cells ?_ | refine Lo.agg _ ?_ | refine Lo.ref _ ?_ | refine Lo.tup _ ?_ | refine Lo.fn _ _ ?_ | refine Lo.sl _ ?_ | intro _)) (by simp only [argF]; rfl) ?_
  repeat (first | refine zag ?_ | refine zap ?_ | refine zad ?_ | refine zaq ?_ | refine zac ?_)
  refine zaf ?_
  refine zab rfl rfl (zaa rfl) (mv_s (.inr rfl) rfl) ?_
  refine zab rfl rfl (zaa rfl) (mv_s (.inr rfl) rfl) ?_
  refine zan ?_
  repeat (first | refine zag ?_ | refine zap ?_ | refine zad ?_ | refine zaq ?_ | refine zac ?_)
  all_goals refine zaf ?_
  all_goals (first | refine zab rfl rfl (zaa rfl) (za3 (.inl rfl) rfl) ?_ | refine zab rfl rfl (zaa rfl) (zbi (.inl rfl) rfl) ?_ | refine zab rfl rfl (zaa rfl) (mv_s (.inl rfl) rfl) ?_ | refine zab rfl rfl (zaa rfl) (za4 (.inl rfl) rfl) ?_)
  all_goals (first | refine zab rfl rfl (zaa rfl) (za3 (.inl rfl) rfl) ?_ | refine zab rfl rfl (zaa rfl) (zbi (.inl rfl) rfl) ?_ | refine zab rfl rfl (zaa rfl) (mv_s (.inl rfl) rfl) ?_ | refine zab rfl rfl (zaa rfl) (za4 (.inl rfl) rfl) ?_)
  all_goals (first | refine zbj rfl rfl (zaa rfl) (za5 rfl rfl ((sValid_pf54 d l)) (zat rfl (zat rfl zbl))) (fun h9 => ?_) (fun h9 => ?_) | refine zbk rfl rfl (zaa rfl) (za5 rfl rfl ((sValid_pf54 d l)) (zat rfl (zat rfl zbl))) (fun h9 => ?_) (fun h9 => ?_))
  all_goals (first | refine zab rfl rfl (zaa rfl) (does_notp rfl rfl) ?_ | refine zab rfl rfl (zaa rfl) (does_not rfl rfl) ?_)
  all_goals refine zan ?_
  all_goals (repeat (first | refine zag ?_ | refine zap ?_ | refine zad ?_ | refine zaq ?_ | refine zac ?_))
  all_goals (first | refine zbq rfl ?_ | refine zbm rfl ?_)
  all_goals (repeat (first | refine zag ?_ | refine zap ?_ | refine zad ?_ | refine zaq ?_ | refine zac ?_))
  · rw [if_pos h9] at HI
    refine zaf ?_
    first | refine zab rfl rfl (zaa rfl) (za3 (.inl rfl) rfl) ?_ | refine zab rfl rfl (zaa rfl) (zbi (.inl rfl) rfl) ?_ | refine zab rfl rfl (zaa rfl) (mv_s (.inl rfl) rfl) ?_ | refine zab rfl rfl (zaa rfl) (za4 (.inl rfl) rfl) ?_
    first | refine zab rfl rfl (zaa rfl) (za3 (.inl rfl) rfl) ?_ | refine zab rfl rfl (zaa rfl) (zbi (.inl rfl) rfl) ?_ | refine zab rfl rfl (zaa rfl) (mv_s (.inl rfl) rfl) ?_ | refine zab rfl rfl (zaa rfl) (za4 (.inl rfl) rfl) ?_
    first | refine zab rfl rfl (zaa rfl) (za3 (.inl rfl) rfl) ?_ | refine zab rfl rfl (zaa rfl) (zbi (.inl rfl) rfl) ?_ | refine zab rfl rfl (zaa rfl) (mv_s (.inl rfl) rfl) ?_ | refine zab rfl rfl (zaa rfl) (za4 (.inl rfl) rfl) ?_
    refine zab rfl rfl (zaa rfl) (za5 rfl rfl ((most_pf l (validS_iff h9).1.2.2)) (zat rfl zbl)) ?_
    refine zab rfl rfl (zaa rfl) (za5 rfl rfl ((short_pf d l (mostL l) h9 (okC_most h9))) (zat rfl (zat rfl (zat rfl zbl)))) ?_
    refine zab rfl rfl (zaa rfl) (mv_s (.inr rfl) rfl) ?_
    refine zan ?_
    repeat (first | refine zag ?_ | refine zap ?_ | refine zad ?_ | refine zaq ?_ | refine zac ?_)
    all_goals refine zaf ?_
    all_goals refine zab rfl rfl (zaa rfl) (mv_s (.inl rfl) rfl) ?_
    all_goals (first | refine zbj rfl rfl (zaa rfl) (does_geq rfl rfl rfl) (fun h17 => ?_) (fun h17 => ?_) | refine zbk rfl rfl (zaa rfl) (does_geq rfl rfl rfl) (fun h17 => ?_) (fun h17 => ?_))
    all_goals refine zan ?_
    all_goals (repeat (first | refine zag ?_ | refine zap ?_ | refine zad ?_ | refine zaq ?_ | refine zac ?_))
    all_goals (first | refine zbq rfl ?_ | refine zbm rfl ?_)
    all_goals (repeat (first | refine zag ?_ | refine zap ?_ | refine zad ?_ | refine zaq ?_ | refine zac ?_))
    · rw [if_pos h17] at HI
      refine zaf ?_
      refine zab rfl rfl (zaa rfl) (mv_s (.inl rfl) rfl) ?_
      refine zab rfl rfl (zaa rfl) (mv_s (.inr rfl) rfl) ?_
      refine zab rfl rfl (zaa rfl) (mv_s (.inr rfl) rfl) ?_
      refine zan ?_
      repeat (first | refine zag ?_ | refine zap ?_ | refine zad ?_ | refine zaq ?_ | refine zac ?_)
      (refine zbt ?_; repeat (first | refine ath_r ?_ | refine abl_r ?_))
      exact post_ii (N := 0) (.inr rfl) rfl rfl HI
    · rw [if_neg h17] at HI
      refine zaf ?_
      refine zab rfl rfl (zaa rfl) (mv_s (.inr rfl) rfl) ?_
      refine zab rfl rfl (zaa rfl) (mv_s (.inr rfl) rfl) ?_
      refine zan ?_
      repeat (first | refine zag ?_ | refine zap ?_ | refine zad ?_ | refine zaq ?_ | refine zac ?_)
      (refine zbt ?_; repeat (first | refine ath_r ?_ | refine abl_r ?_))
      exact post_ii (N := 0) (.inr rfl) rfl rfl HI
  · rw [if_neg (by rw [h9]; simp)] at HI
    refine zaf ?_
    refine zab rfl rfl (zaa rfl) (mv_s (.inr rfl) rfl) ?_
    refine zab rfl rfl (zaa rfl) (mv_s (.inr rfl) rfl) ?_
    refine zan ?_
    repeat (first | refine zag ?_ | refine zap ?_ | refine zad ?_ | refine zaq ?_ | refine zac ?_)
    (refine zbt ?_; repeat (first | refine ath_r ?_ | refine abl_r ?_))
    exact post_ii (N := 0) (.inr rfl) rfl rfl HI
set_option maxHeartbeats 1000000 in
theorem rImp_pf (d : List Int) (l : List Sft) : Pure P 12 [eL eI d, eL eSh l] (eII (impE d l)) := by
  have HI : impE d l = if validS d l = true then (if 0 ≤ shE d l (mostL l) then (shE d l (mostL l), 0) else (0, 10)) else (0, 1) := rfl
  generalize impE d l = R at HI ⊢
  refine aw_fn (by rw [IsP.eq (P := P)]; exact Try.func12) rfl rfl rfl rfl rfl (by repeat' (first | exact Lo.s _ | exact zah | refine zae ?_ ?_ | refine zai ?_ | refine Lo.cells ?_ | refine Lo.agg _ ?_ | refine Lo.ref _ ?_ | refine Lo.tup _ ?_ | refine Lo.fn _ _ ?_ | refine Lo.sl _ ?_ | intro _)) (by repeat' (first | exact Lo.s _ | exact zah | refine zae ?_ ?_ | refine zai ?_ | refine Lo.cells ?_ | refine Lo.agg _ ?_ | refine Lo.ref _ ?_ | refine Lo.tup _ ?_ | refine Lo.fn _ _ ?_ | refine Lo.sl _ ?_ | intro _)) (by simp only [argF]; rfl) ?_
  repeat (first | refine zag ?_ | refine zap ?_ | refine zad ?_ | refine zaq ?_ | refine zac ?_)
  refine zaf ?_
  refine zab rfl rfl (zaa rfl) (mv_s (.inr rfl) rfl) ?_
  refine zab rfl rfl (zaa rfl) (mv_s (.inr rfl) rfl) ?_
  refine zan ?_
  repeat (first | refine zag ?_ | refine zap ?_ | refine zad ?_ | refine zaq ?_ | refine zac ?_)
  all_goals refine zaf ?_
  all_goals (first | refine zab rfl rfl (zaa rfl) (za3 (.inl rfl) rfl) ?_ | refine zab rfl rfl (zaa rfl) (zbi (.inl rfl) rfl) ?_ | refine zab rfl rfl (zaa rfl) (mv_s (.inl rfl) rfl) ?_ | refine zab rfl rfl (zaa rfl) (za4 (.inl rfl) rfl) ?_)
  all_goals (first | refine zab rfl rfl (zaa rfl) (za3 (.inl rfl) rfl) ?_ | refine zab rfl rfl (zaa rfl) (zbi (.inl rfl) rfl) ?_ | refine zab rfl rfl (zaa rfl) (mv_s (.inl rfl) rfl) ?_ | refine zab rfl rfl (zaa rfl) (za4 (.inl rfl) rfl) ?_)
  all_goals (first | refine zbj rfl rfl (zaa rfl) (za5 rfl rfl ((qValid_pf54 d l)) (zat rfl (zat rfl zbl))) (fun h9 => ?_) (fun h9 => ?_) | refine zbk rfl rfl (zaa rfl) (za5 rfl rfl ((qValid_pf54 d l)) (zat rfl (zat rfl zbl))) (fun h9 => ?_) (fun h9 => ?_))
  all_goals (first | refine zab rfl rfl (zaa rfl) (does_notp rfl rfl) ?_ | refine zab rfl rfl (zaa rfl) (does_not rfl rfl) ?_)
  all_goals refine zan ?_
  all_goals (repeat (first | refine zag ?_ | refine zap ?_ | refine zad ?_ | refine zaq ?_ | refine zac ?_))
  all_goals (first | refine zbq rfl ?_ | refine zbm rfl ?_)
  all_goals (repeat (first | refine zag ?_ | refine zap ?_ | refine zad ?_ | refine zaq ?_ | refine zac ?_))
  · rw [if_pos h9] at HI
    refine zaf ?_
    first | refine zab rfl rfl (zaa rfl) (za3 (.inl rfl) rfl) ?_ | refine zab rfl rfl (zaa rfl) (zbi (.inl rfl) rfl) ?_ | refine zab rfl rfl (zaa rfl) (mv_s (.inl rfl) rfl) ?_ | refine zab rfl rfl (zaa rfl) (za4 (.inl rfl) rfl) ?_
    first | refine zab rfl rfl (zaa rfl) (za3 (.inl rfl) rfl) ?_ | refine zab rfl rfl (zaa rfl) (zbi (.inl rfl) rfl) ?_ | refine zab rfl rfl (zaa rfl) (mv_s (.inl rfl) rfl) ?_ | refine zab rfl rfl (zaa rfl) (za4 (.inl rfl) rfl) ?_
    first | refine zab rfl rfl (zaa rfl) (za3 (.inl rfl) rfl) ?_ | refine zab rfl rfl (zaa rfl) (zbi (.inl rfl) rfl) ?_ | refine zab rfl rfl (zaa rfl) (mv_s (.inl rfl) rfl) ?_ | refine zab rfl rfl (zaa rfl) (za4 (.inl rfl) rfl) ?_
    refine zab rfl rfl (zaa rfl) (za5 rfl rfl ((greatest_pf l (validS_iff h9).1.2.2)) (zat rfl zbl)) ?_
    refine zab rfl rfl (zaa rfl) (za5 rfl rfl ((rShort_pf d l (mostL l) (validS_iff h9).1.2.1 (okC_most h9))) (zat rfl (zat rfl (zat rfl zbl)))) ?_
    refine zab rfl rfl (zaa rfl) (mv_s (.inr rfl) rfl) ?_
    refine zan ?_
    repeat (first | refine zag ?_ | refine zap ?_ | refine zad ?_ | refine zaq ?_ | refine zac ?_)
    all_goals refine zaf ?_
    all_goals refine zab rfl rfl (zaa rfl) (mv_s (.inl rfl) rfl) ?_
    all_goals (first | refine zbj rfl rfl (zaa rfl) (zbd rfl rfl rfl) (fun h17 => ?_) (fun h17 => ?_) | refine zbk rfl rfl (zaa rfl) (zbd rfl rfl rfl) (fun h17 => ?_) (fun h17 => ?_))
    all_goals refine zan ?_
    all_goals (repeat (first | refine zag ?_ | refine zap ?_ | refine zad ?_ | refine zaq ?_ | refine zac ?_))
    all_goals (first | refine zbq rfl ?_ | refine zbm rfl ?_)
    all_goals (repeat (first | refine zag ?_ | refine zap ?_ | refine zad ?_ | refine zaq ?_ | refine zac ?_))
    · rw [if_neg (by omega)] at HI
      refine zaf ?_
      refine zab rfl rfl (zaa rfl) (mv_s (.inr rfl) rfl) ?_
      refine zab rfl rfl (zaa rfl) (mv_s (.inr rfl) rfl) ?_
      refine zan ?_
      repeat (first | refine zag ?_ | refine zap ?_ | refine zad ?_ | refine zaq ?_ | refine zac ?_)
      (refine zbt ?_; repeat (first | refine ath_r ?_ | refine abl_r ?_))
      exact post_ii (N := 0) (.inr rfl) rfl rfl HI
    · rw [if_pos (by omega)] at HI
      refine zaf ?_
      refine zab rfl rfl (zaa rfl) (mv_s (.inl rfl) rfl) ?_
      refine zab rfl rfl (zaa rfl) (mv_s (.inr rfl) rfl) ?_
      refine zab rfl rfl (zaa rfl) (mv_s (.inr rfl) rfl) ?_
      refine zan ?_
      repeat (first | refine zag ?_ | refine zap ?_ | refine zad ?_ | refine zaq ?_ | refine zac ?_)
      (refine zbt ?_; repeat (first | refine ath_r ?_ | refine abl_r ?_))
      exact post_ii (N := 0) (.inr rfl) rfl rfl HI
  · rw [if_neg (by rw [h9]; simp)] at HI
    refine zaf ?_
    refine zab rfl rfl (zaa rfl) (mv_s (.inr rfl) rfl) ?_
    refine zab rfl rfl (zaa rfl) (mv_s (.inr rfl) rfl) ?_
    refine zan ?_
    repeat (first | refine zag ?_ | refine zap ?_ | refine zad ?_ | refine zaq ?_ | refine zac ?_)
    (refine zbt ?_; repeat (first | refine ath_r ?_ | refine abl_r ?_))
    exact post_ii (N := 0) (.inr rfl) rfl rfl HI
/-- the cost of counts -/
def prcP (l : List Sft) (c : List Int) : Nat → Int
  | 0 => 0
  | n + 1 => prcP l c n + (gti l n).cost * gti c n
theorem mul_bd {a b : Int} (h1 : 0 ≤ a) (h2 : a ≤ 1000) (h3 : 0 ≤ b) (h4 : b ≤ 20) : 0 ≤ a * b ∧ a * b ≤ 20000 :=
  ⟨Int.mul_nonneg h1 h3, by have := Int.mul_le_mul h2 h4 h3 (by omega : (0 : Int) ≤ 1000); omega⟩
theorem prcP_bd {d : List Int} {l : List Sft} {c : List Int} (hv : validS d l = true) (h : okC l c) : ∀ n, n ≤ l.length → 0 ≤ prcP l c n ∧ prcP l c n ≤ 20000 * n
  | 0, _ => by simp [prcP]
  | n + 1, hn => by
    have ih := prcP_bd hv h n (by omega)
    have h2 := h.2.2 n (by omega)
    have h3 := ((validS_iff hv).2.2 n (by omega)).1
    have := mul_bd h3.2.1 h3.2.2.1 h2.1 h2.2
    unfold prcP
    omega
set_option maxHeartbeats 1000000 in
theorem price_pf (d : List Int) (l : List Sft) (c : List Int) (hv : validS d l = true) (hc : okC l c) : Pure P 24 [eL eSh l, eL eI c] (eI (prcP l c l.length)) := by
  obtain ⟨⟨q1, q2, q3⟩, qd, ql⟩ := validS_iff hv
  have hcl := hc.1
  refine aw_fn (by rw [IsP.eq (P := P)]; exact Try.func24) rfl rfl rfl rfl rfl (by repeat' (first | exact Lo.s _ | exact zah | refine zae ?_ ?_ | refine zai ?_ | refine Lo.cells ?_ | refine Lo.agg _ ?_ | refine Lo.ref _ ?_ | refine Lo.tup _ ?_ | refine Lo.fn _ _ ?_ | refine Lo.sl _ ?_ | intro _)) (by repeat' (first | exact Lo.s _ | exact zah | refine zae ?_ ?_ | refine zai ?_ | refine Lo.cells ?_ | refine Lo.agg _ ?_ | refine Lo.ref _ ?_ | refine Lo.tup _ ?_ | refine Lo.fn _ _ ?_ | refine Lo.sl _ ?_ | intro _)) (by simp only [argF]; rfl) ?_
  repeat (first | refine zag ?_ | refine zap ?_ | refine zad ?_ | refine zaq ?_ | refine zac ?_)
  refine zaf ?_
  refine zab rfl rfl (zaa rfl) (mv_s (.inr rfl) rfl) ?_
  refine zan ?_
  repeat (first | refine zag ?_ | refine zap ?_ | refine zad ?_ | refine zaq ?_ | refine zac ?_)
  refine zaf ?_
  refine zab rfl rfl (zaa rfl) (mv_s (.inr rfl) rfl) ?_
  refine zan ?_
  repeat (first | refine zag ?_ | refine zap ?_ | refine zad ?_ | refine zaq ?_ | refine zac ?_)
  refine zaf ?_
  first | refine zab rfl rfl (zaa rfl) (za3 (.inl rfl) rfl) ?_ | refine zab rfl rfl (zaa rfl) (zbi (.inl rfl) rfl) ?_ | refine zab rfl rfl (zaa rfl) (mv_s (.inl rfl) rfl) ?_ | refine zab rfl rfl (zaa rfl) (za4 (.inl rfl) rfl) ?_
  first | refine zab rfl rfl (zaa rfl) (za0 rfl ts23 rfl) ?_ | refine zab rfl rfl (zaa rfl) (za7 rfl ts23 rfl) ?_ | refine zab rfl rfl (zaa rfl) (zaw rfl ts23 rfl) ?_ | refine zab rfl rfl (zaa rfl) (zbc rfl ts23 rfl) ?_ | refine zab rfl rfl (zaa rfl) (zax rfl ts23 rfl) ?_
  refine zab rfl rfl (zaa rfl) (mv_s (.inl rfl) rfl) ?_
  refine zan ?_
  repeat (first | refine zag ?_ | refine zap ?_ | refine zad ?_ | refine zaq ?_ | refine zac ?_)
  refine aw_loops (S := Nat) (fun k => [(1, eL eI c), (8, eL eSh l), (9, eI l.length), (10, eI k), (5, eI (prcP l c k))]) (fun _ => []) (fun k => k ≤ l.length) (fun k => l.length - k) 0 (wk_st [] (by decide) trivial ⟨.lo _ (by repeat' (first | exact Lo.s _ | exact zah | refine zae ?_ ?_ | refine zai ?_ | refine Lo.cells ?_ | refine Lo.agg _ ?_ | refine Lo.ref _ ?_ | refine Lo.tup _ ?_ | refine Lo.fn _ _ ?_ | refine Lo.sl _ ?_ | intro _)), .lo _ (by repeat' (first | exact Lo.s _ | exact zah | refine zae ?_ ?_ | refine zai ?_ | refine Lo.cells ?_ | refine Lo.agg _ ?_ | refine Lo.ref _ ?_ | refine Lo.tup _ ?_ | refine Lo.fn _ _ ?_ | refine Lo.sl _ ?_ | intro _)), .lo _ (by repeat' (first | exact Lo.s _ | exact zah | refine zae ?_ ?_ | refine zai ?_ | refine Lo.cells ?_ | refine Lo.agg _ ?_ | refine Lo.ref _ ?_ | refine Lo.tup _ ?_ | refine Lo.fn _ _ ?_ | refine Lo.sl _ ?_ | intro _)), .lo _ (by repeat' (first | exact Lo.s _ | exact zah | refine zae ?_ ?_ | refine zai ?_ | refine Lo.cells ?_ | refine Lo.agg _ ?_ | refine Lo.ref _ ?_ | refine Lo.tup _ ?_ | refine Lo.fn _ _ ?_ | refine Lo.sl _ ?_ | intro _)), .lo _ (by repeat' (first | exact Lo.s _ | exact zah | refine zae ?_ ?_ | refine zai ?_ | refine Lo.cells ?_ | refine Lo.agg _ ?_ | refine Lo.ref _ ?_ | refine Lo.tup _ ?_ | refine Lo.fn _ _ ?_ | refine Lo.sl _ ?_ | intro _)), trivial⟩) (Nat.zero_le _) (fun k hk => ?_)
  repeat (first | refine zag ?_ | refine zap ?_ | refine zad ?_ | refine zaq ?_ | refine zac ?_)
  have hbd := prcP_bd hv hc k hk
  all_goals refine zaf ?_
  all_goals (first | refine zbj rfl rfl (zaa rfl) (zbd rfl rfl rfl) (fun h11 => ?_) (fun h11 => ?_) | refine zbk rfl rfl (zaa rfl) (zbd rfl rfl rfl) (fun h11 => ?_) (fun h11 => ?_))
  all_goals refine zan ?_
  all_goals (repeat (first | refine zag ?_ | refine zap ?_ | refine zad ?_ | refine zaq ?_ | refine zac ?_))
  all_goals (first | refine zbq rfl ?_ | refine zbm rfl ?_)
  all_goals (repeat (first | refine zag ?_ | refine zap ?_ | refine zad ?_ | refine zaq ?_ | refine zac ?_))
  · have hlt : k < l.length := by omega
    have hb1 := (ql k hlt).1
    have hb2 := hc.2.2 k hlt
    have hb := mul_bd hb1.2.1 hb1.2.2.1 hb2.1 hb2.2
    have hnx : prcP l c (k + 1) = prcP l c k + (gti l k).cost * gti c k := rfl
    refine zaf ?_
    refine zab rfl rfl (zaa rfl) (mv_s (.inl rfl) rfl) ?_
    first | refine zab rfl rfl (zaa rfl) (za1 rfl ts23 ti39 rfl rfl rfl (zb5 (by omega)) rfl) ?_ | refine zab rfl rfl (zaa rfl) (zav rfl ts23 ti39 rfl rfl rfl (by omega)) ?_
    first | refine zab rfl rfl (zaa rfl) (za9 rfl ta39 ti39 rfl rfl) ?_ | refine zab rfl rfl (zaa rfl) (zbf rfl ta39 ti39 rfl rfl rfl rfl rfl) ?_ | refine zab rfl rfl (zaa rfl) (za8 rfl ta39 ti39 rfl (Nat.le_of_ble_eq_true rfl)) ?_ | refine zab rfl rfl (zaa rfl) (zbg rfl ta39 ti39 rfl rfl rfl rfl (Nat.le_of_ble_eq_true rfl)) ?_
    refine zab rfl rfl (zaa rfl) (zbu rfl ti39 rfl rfl) ?_
    refine zab rfl rfl (zaa rfl) (mv_s (.inr rfl) rfl) ?_
    refine zb2 rfl (zaa rfl) (zbe rfl ti39 rfl rfl rfl rfl rfl rfl (by decide) (by decide)) ?_
    refine zan ?_
    repeat (first | refine zag ?_ | refine zap ?_ | refine zad ?_ | refine zaq ?_ | refine zac ?_)
    refine zb3 (wk_froz (id := 0) rfl) ?_
    refine zb3 (wk_ref (d := 7) rfl rfl rfl) ?_
    refine aw_draw hmix ?_
    refine adraw_quiet (by kernel_rfl) ?_
    refine zay rfl rfl (zaa rfl) (mv_s (.inl rfl) rfl) ?_
    first | refine zay rfl rfl (zaa rfl) (zal rfl tf39_1 (by decide) rfl) ?_ | refine zay rfl rfl (zaa rfl) (zaj rfl tf39_1 (by decide) rfl) ?_
    first | refine zay rfl rfl (zaa rfl) (zao rfl ta3 rfl) ?_ | refine zay rfl rfl (zaa rfl) (zar rfl ta3 rfl rfl rfl rfl rfl) ?_
    first | refine zay rfl rfl (zaa rfl) (za3 (.inl rfl) rfl) ?_ | refine zay rfl rfl (zaa rfl) (zbi (.inl rfl) rfl) ?_ | refine zay rfl rfl (zaa rfl) (mv_s (.inl rfl) rfl) ?_ | refine zay rfl rfl (zaa rfl) (za4 (.inl rfl) rfl) ?_
    refine zay rfl rfl (zaa rfl) (mv_s (.inl rfl) rfl) ?_
    first | refine zay rfl rfl (zaa rfl) (za1 rfl ts22 ti3 rfl rfl rfl (zb5 (by omega)) rfl) ?_ | refine zay rfl rfl (zaa rfl) (zav rfl ts22 ti3 rfl rfl rfl (by omega)) ?_
    first | refine zay rfl rfl (zaa rfl) (zao rfl ta3 rfl) ?_ | refine zay rfl rfl (zaa rfl) (zar rfl ta3 rfl rfl rfl rfl rfl) ?_
    refine zay rfl rfl (zaa rfl) (does_mul rfl rfl rfl (IntWalk.i64_in _ (by omega))) ?_
    refine zay rfl rfl (zaa rfl) (zbw rfl rfl rfl (IntWalk.i64_in _ (by omega))) ?_
    refine zay rfl rfl (zaa rfl) (mv_s (.inr rfl) rfl) ?_
    refine qx_nil ?_
    repeat (first | refine zag ?_ | refine zap ?_ | refine zad ?_ | refine zaq ?_ | refine zac ?_)
    refine zaf ?_
    refine zab rfl rfl (zaa rfl) (zbw rfl rfl rfl (IntWalk.i64_in _ (by omega))) ?_
    refine zab rfl rfl (zaa rfl) (mv_s (.inl rfl) rfl) ?_
    refine zan ?_
    repeat (first | refine zag ?_ | refine zap ?_ | refine zad ?_ | refine zaq ?_ | refine zac ?_)
    rw [← hnx]
    exact ⟨k + 1, by omega, by omega, wk_st [] (by decide) trivial ⟨.lo _ (by repeat' (first | exact Lo.s _ | exact zah | refine zae ?_ ?_ | refine zai ?_ | refine Lo.cells ?_ | refine Lo.agg _ ?_ | refine Lo.ref _ ?_ | refine Lo.tup _ ?_ | refine Lo.fn _ _ ?_ | refine Lo.sl _ ?_ | intro _)), .lo _ (by repeat' (first | exact Lo.s _ | exact zah | refine zae ?_ ?_ | refine zai ?_ | refine Lo.cells ?_ | refine Lo.agg _ ?_ | refine Lo.ref _ ?_ | refine Lo.tup _ ?_ | refine Lo.fn _ _ ?_ | refine Lo.sl _ ?_ | intro _)), .lo _ (by repeat' (first | exact Lo.s _ | exact zah | refine zae ?_ ?_ | refine zai ?_ | refine Lo.cells ?_ | refine Lo.agg _ ?_ | refine Lo.ref _ ?_ | refine Lo.tup _ ?_ | refine Lo.fn _ _ ?_ | refine Lo.sl _ ?_ | intro _)), .lo _ (by repeat' (first | exact Lo.s _ | exact zah | refine zae ?_ ?_ | refine zai ?_ | refine Lo.cells ?_ | refine Lo.agg _ ?_ | refine Lo.ref _ ?_ | refine Lo.tup _ ?_ | refine Lo.fn _ _ ?_ | refine Lo.sl _ ?_ | intro _)), .lo _ (by repeat' (first | exact Lo.s _ | exact zah | refine zae ?_ ?_ | refine zai ?_ | refine Lo.cells ?_ | refine Lo.agg _ ?_ | refine Lo.ref _ ?_ | refine Lo.tup _ ?_ | refine Lo.fn _ _ ?_ | refine Lo.sl _ ?_ | intro _)), trivial⟩⟩
  · have e : k = l.length := by omega
    subst e
    (refine aw_exit ?_; repeat (first | refine ath_x ?_ | refine abl_hit ?_ | refine abl_miss rfl ?_ | refine zaq ?_ | refine zap ?_ | refine zag ?_ | refine zad ?_ | refine zac ?_))
    refine zaf ?_
    refine zab rfl rfl (zaa rfl) (mv_s (.inl rfl) rfl) ?_
    refine zab rfl rfl (zaa rfl) (mv_s (.inr rfl) rfl) ?_
    refine zan ?_
    repeat (first | refine zag ?_ | refine zap ?_ | refine zad ?_ | refine zaq ?_ | refine zac ?_)
    (refine zbt ?_; repeat (first | refine ath_r ?_ | refine abl_r ?_))
    exact post1 (.inr rfl) rfl rfl
end Go.Proofs.Ytmoipmnhgdmkpaa.Aw
end
