/-
  Texts joined: ShA. Conditions: none.
-/
import Derived.Test.YtmoipmnhgdmkpaaJP3
import Derived.Test.YtmoipmnhgdmkpaaJP4
section
namespace Go.Proofs.Ytmoipmnhgdmkpaa.Aw
set_option linter.unusedSimpArgs false
set_option linter.unusedVariables false
set_option linter.unusedSectionVars false
open Go.RowKit Go.Proofs
variable {P : Program} [IsP P]

theorem all_t {α : Type} [Inhabited α] {p : α → Bool} {l : List α} (h : ∀ j, j < l.length → p (gti l j) = true) : l.all p = true := by
  rw [List.all_eq_true]
  intro a ha
  obtain ⟨j, hj, rfl⟩ := List.mem_iff_getElem.1 ha
  have h2 := gti_get hj
  rw [List.getElem?_eq_getElem hj] at h2
  rw [Option.some.inj h2]; exact h j hj
theorem all_f {α : Type} [Inhabited α] {p : α → Bool} {l : List α} {k : Nat} (hk : k < l.length) (h : p (gti l k) = false) : l.all p = false := by
  rw [List.all_eq_false]
  exact ⟨gti l k, gti_mem hk, by rw [h]; simp⟩
theorem rg_t {n : Nat} {p : Nat → Bool} (h : ∀ j, j < n → p j = true) : (List.range n).all p = true := by
  rw [List.all_eq_true]; intro j hj; exact h j (by simpa using hj)
theorem rg_f {n k : Nat} {p : Nat → Bool} (hk : k < n) (h : p k = false) : (List.range n).all p = false := by
  rw [List.all_eq_false]; exact ⟨k, by simpa using hk, by rw [h]; simp⟩
structure Sft where
  pd : List Int
  cost : Int
  most : Int
instance : Inhabited Sft := ⟨⟨[], 0, 0⟩⟩
def eSh (s : Sft) : AV := .agg [eL eI s.pd, eI s.cost, eI s.most]
theorem lo_Sh (s : Sft) : Lo 0 (eSh s) := .agg _ (zae (zai fun _ => .s _) (zae (.s _) (zae (.s _) zah)))
theorem lo_Int (n : Int) : Lo 0 (eI n) := .s _
theorem indexFS_pf (f : FuncId) (caps : List AV) (p : Sft → Bool) (l : List Sft) (hlo : ∀ a : Sft, Lo 0 (eSh a)) (hlc : Lo 0 (.fn f caps)) (hf : ∀ a ∈ l, Pure P f ([eSh a] ++ caps) (eB (p a))) :
    Pure P 39 [eL eSh l, .fn f caps] (eI (firstAt p l)) := by
  refine aw_fn (by rw [IsP.eq (P := P)]; exact Try.func39) rfl rfl rfl rfl rfl (zae (zai hlo) (zae hlc zah)) (.s _) (by simp only [argF]; rfl) ?_
  refine aw_bdm (d := 0) rfl (fun hmx => ?_)
  unfold maxLen at hmx
  repeat (first | refine zag ?_ | refine zap ?_ | refine zad ?_ | refine zaq ?_ | refine zac ?_)
  refine zaf ?_
  refine zab rfl rfl (zaa rfl) (mv_s (.inr rfl) rfl) ?_
  refine zan ?_
  repeat (first | refine zag ?_ | refine zap ?_ | refine zad ?_ | refine zaq ?_ | refine zac ?_)
  refine zaf ?_
  first | refine zab rfl rfl (zaa rfl) (za3 (.inl rfl) rfl) ?_ | refine zab rfl rfl (zaa rfl) (zbi (.inl rfl) rfl) ?_ | refine zab rfl rfl (zaa rfl) (mv_s (.inl rfl) rfl) ?_ | refine zab rfl rfl (zaa rfl) (za4 (.inl rfl) rfl) ?_
  first | refine zab rfl rfl (zaa rfl) (za0 rfl ts23 rfl) ?_ | refine zab rfl rfl (zaa rfl) (za7 rfl ts23 rfl) ?_ | refine zab rfl rfl (zaa rfl) (zaw rfl ts23 rfl) ?_ | refine zab rfl rfl (zaa rfl) (zbc rfl ts23 rfl) ?_ | refine zab rfl rfl (zaa rfl) (zax rfl ts23 rfl) ?_
  refine zab rfl rfl (zaa rfl) (mv_s (.inl rfl) rfl) ?_
  refine zan ?_
  repeat (first | refine zag ?_ | refine zap ?_ | refine zad ?_ | refine zaq ?_ | refine zac ?_)
  refine aw_loops (S := Nat) (fun k => [(0, eL eSh l), (1, .fn f caps), (7, eI l.length), (8, eI k)]) (fun _ => []) (fun k => k ≤ l.length ∧ ∀ j a, j < k → l[j]? = some a → p a = false) (fun k => l.length - k) 0 (wk_sub _ ⟨rfl, rfl, rfl, rfl, trivial⟩) ⟨by omega, fun j a hj => by omega⟩ (fun k hk => ?_)
  repeat (first | refine zag ?_ | refine zap ?_ | refine zad ?_ | refine zaq ?_ | refine zac ?_)
  refine zaf ?_
  refine zab rfl rfl (zaa rfl) (zbd rfl rfl rfl) ?_
  refine zan ?_
  repeat (first | refine zag ?_ | refine zap ?_ | refine zad ?_ | refine zaq ?_ | refine zac ?_)
  refine aw_if rfl (fun h => ?_) (fun h => ?_)
  · have hlt : k < l.length := by omega
    repeat (first | refine zag ?_ | refine zap ?_ | refine zad ?_ | refine zaq ?_ | refine zac ?_)
    refine zaf ?_
    refine zab rfl rfl (zaa rfl) (mv_s (.inl rfl) rfl) ?_
    refine zab rfl rfl (zaa rfl) (mv_s (.inr rfl) rfl) ?_
    refine zan ?_
    repeat (first | refine zag ?_ | refine zap ?_ | refine zad ?_ | refine zaq ?_ | refine zac ?_)
    have hp := hf (gti l k) (gti_mem hlt)
    refine zaf ?_
    first | refine zab rfl rfl (zaa rfl) (mv_fn (.inl rfl) rfl) ?_ | refine zab rfl rfl (zaa rfl) (mv_s (.inl rfl) rfl) ?_
    first | refine zab rfl rfl (zaa rfl) (za3 (.inl rfl) rfl) ?_ | refine zab rfl rfl (zaa rfl) (zbi (.inl rfl) rfl) ?_ | refine zab rfl rfl (zaa rfl) (mv_s (.inl rfl) rfl) ?_ | refine zab rfl rfl (zaa rfl) (za4 (.inl rfl) rfl) ?_
    refine zab rfl rfl (zaa rfl) (mv_s (.inl rfl) rfl) ?_
    first | refine zab rfl rfl (zaa rfl) (za1 rfl ts23 ti39 rfl rfl rfl (zb5 (by omega)) rfl) ?_ | refine zab rfl rfl (zaa rfl) (zav rfl ts23 ti39 rfl rfl rfl (by omega)) ?_
    first | refine zab rfl rfl (zaa rfl) (za9 rfl ta39 ti39 rfl rfl) ?_ | refine zab rfl rfl (zaa rfl) (zbf rfl ta39 ti39 rfl rfl rfl rfl rfl) ?_ | refine zab rfl rfl (zaa rfl) (za8 rfl ta39 ti39 rfl (Nat.le_of_ble_eq_true rfl)) ?_ | refine zab rfl rfl (zaa rfl) (zbg rfl ta39 ti39 rfl rfl rfl rfl (Nat.le_of_ble_eq_true rfl)) ?_
    refine zab rfl rfl (zaa rfl) (za5 rfl rfl (hp) (zat rfl zbl)) ?_
    refine zan ?_
    repeat (first | refine zag ?_ | refine zap ?_ | refine zad ?_ | refine zaq ?_ | refine zac ?_)
    refine aw_cond rfl (fun h => ?_) (fun h => ?_)
    · repeat (first | refine zag ?_ | refine zap ?_ | refine zad ?_ | refine zaq ?_ | refine zac ?_)
      refine zaf ?_
      refine zab rfl rfl (zaa rfl) (mv_s (.inl rfl) rfl) ?_
      refine zab rfl rfl (zaa rfl) (mv_s (.inr rfl) rfl) ?_
      refine zan ?_
      repeat (first | refine zag ?_ | refine zap ?_ | refine zad ?_ | refine zaq ?_ | refine zac ?_)
      (refine zbt ?_; repeat (first | refine ath_r ?_ | refine abl_r ?_))
      exact post1 (.inr rfl) rfl (congrArg eI (firstAt_some (gti_get hlt) h hk.2).symm)
    · repeat (first | refine zag ?_ | refine zap ?_ | refine zad ?_ | refine zaq ?_ | refine zac ?_)
      refine zaf ?_
      refine zab rfl rfl (zaa rfl) (zbw rfl rfl rfl (IntWalk.i64_in _ (by omega))) ?_
      refine zab rfl rfl (zaa rfl) (mv_s (.inl rfl) rfl) ?_
      refine zan ?_
      repeat (first | refine zag ?_ | refine zap ?_ | refine zad ?_ | refine zaq ?_ | refine zac ?_)
      refine ⟨k + 1, ⟨by omega, fun j a hj ha => ?_⟩, by omega, wk_sub _ ⟨rfl, rfl, rfl, rfl, trivial⟩⟩
      by_cases e : j = k
      · subst e
        rw [gti_get hlt] at ha
        cases ha
        exact h
      · exact hk.2 j a (by omega) ha
  · (refine aw_exit ?_; repeat (first | refine ath_x ?_ | refine abl_hit ?_ | refine abl_miss rfl ?_ | refine zaq ?_ | refine zap ?_ | refine zag ?_ | refine zad ?_ | refine zac ?_))
    refine zaf ?_
    refine zab rfl rfl (zaa rfl) (mv_s (.inr rfl) rfl) ?_
    refine zan ?_
    repeat (first | refine zag ?_ | refine zap ?_ | refine zad ?_ | refine zaq ?_ | refine zac ?_)
    (refine zbt ?_; repeat (first | refine ath_r ?_ | refine abl_r ?_))
    exact post1 (.inr rfl) rfl (congrArg eI (firstAt_none (fun j a hj ha => hk.2 j a (by omega) ha)).symm)
theorem containsFS_pf (f : FuncId) (caps : List AV) (p : Sft → Bool) (l : List Sft) (hlo : ∀ a : Sft, Lo 0 (eSh a)) (hlc : Lo 0 (.fn f caps)) (hf : ∀ a ∈ l, Pure P f ([eSh a] ++ caps) (eB (p a))) :
    Pure P 20 [eL eSh l, .fn f caps] (eB (l.any p)) := by
  refine aw_fn (by rw [IsP.eq (P := P)]; exact Try.func20) rfl rfl rfl rfl rfl (zae (zai hlo) (zae hlc zah)) (.s _) (by simp only [argF]; rfl) ?_
  have hi := indexFS_pf f caps p l hlo hlc hf
  repeat (first | refine zag ?_ | refine zap ?_ | refine zad ?_ | refine zaq ?_ | refine zac ?_)
  refine zaf ?_
  refine zab rfl rfl (zaa rfl) (mv_s (.inr rfl) rfl) ?_
  refine zan ?_
  repeat (first | refine zag ?_ | refine zap ?_ | refine zad ?_ | refine zaq ?_ | refine zac ?_)
  refine zaf ?_
  first | refine zab rfl rfl (zaa rfl) (za3 (.inl rfl) rfl) ?_ | refine zab rfl rfl (zaa rfl) (zbi (.inl rfl) rfl) ?_ | refine zab rfl rfl (zaa rfl) (mv_s (.inl rfl) rfl) ?_ | refine zab rfl rfl (zaa rfl) (za4 (.inl rfl) rfl) ?_
  first | refine zab rfl rfl (zaa rfl) (mv_fn (.inl rfl) rfl) ?_ | refine zab rfl rfl (zaa rfl) (mv_s (.inl rfl) rfl) ?_
  refine zab rfl rfl (zaa rfl) (za5 rfl rfl (hi) (zat rfl (zat rfl zbl))) ?_
  refine zab rfl rfl (zaa rfl) (does_geq rfl rfl rfl) ?_
  refine zab rfl rfl (zaa rfl) (mv_s (.inr rfl) rfl) ?_
  refine zan ?_
  repeat (first | refine zag ?_ | refine zap ?_ | refine zad ?_ | refine zaq ?_ | refine zac ?_)
  (refine zbt ?_; repeat (first | refine ath_r ?_ | refine abl_r ?_))
  exact post1 (.inr rfl) rfl (congrArg eB (firstAt_any p l))
theorem indexFI_pf (f : FuncId) (caps : List AV) (p : Int → Bool) (l : List Int) (hlo : ∀ a : Int, Lo 0 (eI a)) (hlc : Lo 0 (.fn f caps)) (hf : ∀ a ∈ l, Pure P f ([eI a] ++ caps) (eB (p a))) :
    Pure P 49 [eL eI l, .fn f caps] (eI (firstAt p l)) := by
  refine aw_fn (by rw [IsP.eq (P := P)]; exact Try.func49) rfl rfl rfl rfl rfl (zae (zai hlo) (zae hlc zah)) (.s _) (by simp only [argF]; rfl) ?_
  refine aw_bdm (d := 0) rfl (fun hmx => ?_)
  unfold maxLen at hmx
  repeat (first | refine zag ?_ | refine zap ?_ | refine zad ?_ | refine zaq ?_ | refine zac ?_)
  refine zaf ?_
  refine zab rfl rfl (zaa rfl) (mv_s (.inr rfl) rfl) ?_
  refine zan ?_
  repeat (first | refine zag ?_ | refine zap ?_ | refine zad ?_ | refine zaq ?_ | refine zac ?_)
  refine zaf ?_
  first | refine zab rfl rfl (zaa rfl) (za3 (.inl rfl) rfl) ?_ | refine zab rfl rfl (zaa rfl) (zbi (.inl rfl) rfl) ?_ | refine zab rfl rfl (zaa rfl) (mv_s (.inl rfl) rfl) ?_ | refine zab rfl rfl (zaa rfl) (za4 (.inl rfl) rfl) ?_
  first | refine zab rfl rfl (zaa rfl) (za0 rfl ts22 rfl) ?_ | refine zab rfl rfl (zaa rfl) (za7 rfl ts22 rfl) ?_ | refine zab rfl rfl (zaa rfl) (zaw rfl ts22 rfl) ?_ | refine zab rfl rfl (zaa rfl) (zbc rfl ts22 rfl) ?_ | refine zab rfl rfl (zaa rfl) (zax rfl ts22 rfl) ?_
  refine zab rfl rfl (zaa rfl) (mv_s (.inl rfl) rfl) ?_
  refine zan ?_
  repeat (first | refine zag ?_ | refine zap ?_ | refine zad ?_ | refine zaq ?_ | refine zac ?_)
  refine aw_loops (S := Nat) (fun k => [(0, eL eI l), (1, .fn f caps), (7, eI l.length), (8, eI k)]) (fun _ => []) (fun k => k ≤ l.length ∧ ∀ j a, j < k → l[j]? = some a → p a = false) (fun k => l.length - k) 0 (wk_sub _ ⟨rfl, rfl, rfl, rfl, trivial⟩) ⟨by omega, fun j a hj => by omega⟩ (fun k hk => ?_)
  repeat (first | refine zag ?_ | refine zap ?_ | refine zad ?_ | refine zaq ?_ | refine zac ?_)
  refine zaf ?_
  refine zab rfl rfl (zaa rfl) (zbd rfl rfl rfl) ?_
  refine zan ?_
  repeat (first | refine zag ?_ | refine zap ?_ | refine zad ?_ | refine zaq ?_ | refine zac ?_)
  refine aw_if rfl (fun h => ?_) (fun h => ?_)
  · have hlt : k < l.length := by omega
    repeat (first | refine zag ?_ | refine zap ?_ | refine zad ?_ | refine zaq ?_ | refine zac ?_)
    refine zaf ?_
    refine zab rfl rfl (zaa rfl) (mv_s (.inl rfl) rfl) ?_
    refine zab rfl rfl (zaa rfl) (mv_s (.inr rfl) rfl) ?_
    refine zan ?_
    repeat (first | refine zag ?_ | refine zap ?_ | refine zad ?_ | refine zaq ?_ | refine zac ?_)
    have hp := hf (gti l k) (gti_mem hlt)
    refine zaf ?_
    first | refine zab rfl rfl (zaa rfl) (mv_fn (.inl rfl) rfl) ?_ | refine zab rfl rfl (zaa rfl) (mv_s (.inl rfl) rfl) ?_
    first | refine zab rfl rfl (zaa rfl) (za3 (.inl rfl) rfl) ?_ | refine zab rfl rfl (zaa rfl) (zbi (.inl rfl) rfl) ?_ | refine zab rfl rfl (zaa rfl) (mv_s (.inl rfl) rfl) ?_ | refine zab rfl rfl (zaa rfl) (za4 (.inl rfl) rfl) ?_
    refine zab rfl rfl (zaa rfl) (mv_s (.inl rfl) rfl) ?_
    first | refine zab rfl rfl (zaa rfl) (za1 rfl ts22 ti3 rfl rfl rfl (zb5 (by omega)) rfl) ?_ | refine zab rfl rfl (zaa rfl) (zav rfl ts22 ti3 rfl rfl rfl (by omega)) ?_
    first | refine zab rfl rfl (zaa rfl) (zao rfl ta3 rfl) ?_ | refine zab rfl rfl (zaa rfl) (zar rfl ta3 rfl rfl rfl rfl rfl) ?_
    refine zab rfl rfl (zaa rfl) (za5 rfl rfl (hp) (zat rfl zbl)) ?_
    refine zan ?_
    repeat (first | refine zag ?_ | refine zap ?_ | refine zad ?_ | refine zaq ?_ | refine zac ?_)
    refine aw_cond rfl (fun h => ?_) (fun h => ?_)
    · repeat (first | refine zag ?_ | refine zap ?_ | refine zad ?_ | refine zaq ?_ | refine zac ?_)
      refine zaf ?_
      refine zab rfl rfl (zaa rfl) (mv_s (.inl rfl) rfl) ?_
      refine zab rfl rfl (zaa rfl) (mv_s (.inr rfl) rfl) ?_
      refine zan ?_
      repeat (first | refine zag ?_ | refine zap ?_ | refine zad ?_ | refine zaq ?_ | refine zac ?_)
      (refine zbt ?_; repeat (first | refine ath_r ?_ | refine abl_r ?_))
      exact post1 (.inr rfl) rfl (congrArg eI (firstAt_some (gti_get hlt) h hk.2).symm)
    · repeat (first | refine zag ?_ | refine zap ?_ | refine zad ?_ | refine zaq ?_ | refine zac ?_)
      refine zaf ?_
      refine zab rfl rfl (zaa rfl) (zbw rfl rfl rfl (IntWalk.i64_in _ (by omega))) ?_
      refine zab rfl rfl (zaa rfl) (mv_s (.inl rfl) rfl) ?_
      refine zan ?_
      repeat (first | refine zag ?_ | refine zap ?_ | refine zad ?_ | refine zaq ?_ | refine zac ?_)
      refine ⟨k + 1, ⟨by omega, fun j a hj ha => ?_⟩, by omega, wk_sub _ ⟨rfl, rfl, rfl, rfl, trivial⟩⟩
      by_cases e : j = k
      · subst e
        rw [gti_get hlt] at ha
        cases ha
        exact h
      · exact hk.2 j a (by omega) ha
  · (refine aw_exit ?_; repeat (first | refine ath_x ?_ | refine abl_hit ?_ | refine abl_miss rfl ?_ | refine zaq ?_ | refine zap ?_ | refine zag ?_ | refine zad ?_ | refine zac ?_))
    refine zaf ?_
    refine zab rfl rfl (zaa rfl) (mv_s (.inr rfl) rfl) ?_
    refine zan ?_
    repeat (first | refine zag ?_ | refine zap ?_ | refine zad ?_ | refine zaq ?_ | refine zac ?_)
    (refine zbt ?_; repeat (first | refine ath_r ?_ | refine abl_r ?_))
    exact post1 (.inr rfl) rfl (congrArg eI (firstAt_none (fun j a hj ha => hk.2 j a (by omega) ha)).symm)
theorem containsFI_pf (f : FuncId) (caps : List AV) (p : Int → Bool) (l : List Int) (hlo : ∀ a : Int, Lo 0 (eI a)) (hlc : Lo 0 (.fn f caps)) (hf : ∀ a ∈ l, Pure P f ([eI a] ++ caps) (eB (p a))) :
    Pure P 34 [eL eI l, .fn f caps] (eB (l.any p)) := by
  refine aw_fn (by rw [IsP.eq (P := P)]; exact Try.func34) rfl rfl rfl rfl rfl (zae (zai hlo) (zae hlc zah)) (.s _) (by simp only [argF]; rfl) ?_
  have hi := indexFI_pf f caps p l hlo hlc hf
  repeat (first | refine zag ?_ | refine zap ?_ | refine zad ?_ | refine zaq ?_ | refine zac ?_)
  refine zaf ?_
  refine zab rfl rfl (zaa rfl) (mv_s (.inr rfl) rfl) ?_
  refine zan ?_
  repeat (first | refine zag ?_ | refine zap ?_ | refine zad ?_ | refine zaq ?_ | refine zac ?_)
  refine zaf ?_
  first | refine zab rfl rfl (zaa rfl) (za3 (.inl rfl) rfl) ?_ | refine zab rfl rfl (zaa rfl) (zbi (.inl rfl) rfl) ?_ | refine zab rfl rfl (zaa rfl) (mv_s (.inl rfl) rfl) ?_ | refine zab rfl rfl (zaa rfl) (za4 (.inl rfl) rfl) ?_
  first | refine zab rfl rfl (zaa rfl) (mv_fn (.inl rfl) rfl) ?_ | refine zab rfl rfl (zaa rfl) (mv_s (.inl rfl) rfl) ?_
  refine zab rfl rfl (zaa rfl) (za5 rfl rfl (hi) (zat rfl (zat rfl zbl))) ?_
  refine zab rfl rfl (zaa rfl) (does_geq rfl rfl rfl) ?_
  refine zab rfl rfl (zaa rfl) (mv_s (.inr rfl) rfl) ?_
  refine zan ?_
  repeat (first | refine zag ?_ | refine zap ?_ | refine zad ?_ | refine zaq ?_ | refine zac ?_)
  (refine zbt ?_; repeat (first | refine ath_r ?_ | refine abl_r ?_))
  exact post1 (.inr rfl) rfl (congrArg eB (firstAt_any p l))
def bigS (s : Sft) : Bool := decide (30 < (s.pd.length : Int))
theorem few1_pf (s : Sft) : Pure P 21 [eSh s] (eB (bigS s)) := by
  refine aw_fn (by rw [IsP.eq (P := P)]; exact Try.func21) rfl rfl rfl rfl rfl (by repeat' (first | exact Lo.s _ | exact zah | refine zae ?_ ?_ | refine zai ?_ | refine Lo.cells ?_ | refine Lo.agg _ ?_ | refine Lo.ref _ ?_ | refine Lo.tup _ ?_ | refine Lo.fn _ _ ?_ | refine Lo.sl _ ?_ | intro _)) (by repeat' (first | exact Lo.s _ | exact zah | refine zae ?_ ?_ | refine zai ?_ | refine Lo.cells ?_ | refine Lo.agg _ ?_ | refine Lo.ref _ ?_ | refine Lo.tup _ ?_ | refine Lo.fn _ _ ?_ | refine Lo.sl _ ?_ | intro _)) (by simp only [argF]; rfl) ?_
  repeat (first | refine zag ?_ | refine zap ?_ | refine zad ?_ | refine zaq ?_ | refine zac ?_)
  refine zaf ?_
  refine zab rfl rfl (zaa rfl) (does_box rfl rfl rfl rfl) ?_
  refine zbr (wk_froz (id := 0) rfl) (zbr (wk_ref (d := 1) rfl rfl rfl) ?_)
  refine zab rfl rfl (zaa rfl) (mv_s (.inr rfl) rfl) ?_
  refine zan ?_
  repeat (first | refine zag ?_ | refine zap ?_ | refine zad ?_ | refine zaq ?_ | refine zac ?_)
  refine zaf ?_
  first | refine zab rfl rfl (zaa rfl) (zal rfl tf39_0 (by decide) rfl) ?_ | refine zab rfl rfl (zaa rfl) (zaj rfl tf39_0 (by decide) rfl) ?_
  first | refine zab rfl rfl (zaa rfl) (zao rfl ta22 rfl) ?_ | refine zab rfl rfl (zaa rfl) (zar rfl ta22 rfl rfl rfl rfl rfl) ?_
  first | refine zab rfl rfl (zaa rfl) (za0 rfl ts22 rfl) ?_ | refine zab rfl rfl (zaa rfl) (za7 rfl ts22 rfl) ?_ | refine zab rfl rfl (zaa rfl) (zaw rfl ts22 rfl) ?_ | refine zab rfl rfl (zaa rfl) (zbc rfl ts22 rfl) ?_ | refine zab rfl rfl (zaa rfl) (zax rfl ts22 rfl) ?_
  refine zab rfl rfl (zaa rfl) (zbz rfl rfl rfl) ?_
  refine zab rfl rfl (zaa rfl) (mv_s (.inr rfl) rfl) ?_
  refine zan ?_
  repeat (first | refine zag ?_ | refine zap ?_ | refine zad ?_ | refine zaq ?_ | refine zac ?_)
  (refine zbt ?_; repeat (first | refine ath_r ?_ | refine abl_r ?_))
  exact post1 (.inr rfl) rfl rfl
def fewB (d : List Int) (l : List Sft) : Bool := decide ((d.length : Int) ≤ 30) && (decide ((l.length : Int) ≤ 15) && !l.any bigS)
theorem few_pf (d : List Int) (l : List Sft) : Pure P 6 [eL eI d, eL eSh l] (eB (fewB d l)) := by
  have hc := containsFS_pf (P := P) 21 [] bigS l lo_Sh (.fn _ _ (by simp)) (fun a _ => few1_pf a)
  have hd : fewB d l = (decide ((d.length : Int) ≤ 30) && (decide ((l.length : Int) ≤ 15) && !l.any bigS)) := rfl
  generalize l.any bigS = z at hc hd
  generalize fewB d l = R at hd ⊢
  refine aw_fn (by rw [IsP.eq (P := P)]; exact Try.func6) rfl rfl rfl rfl rfl (by repeat' (first | exact Lo.s _ | exact zah | refine zae ?_ ?_ | refine zai ?_ | refine Lo.cells ?_ | refine Lo.agg _ ?_ | refine Lo.ref _ ?_ | refine Lo.tup _ ?_ | refine Lo.fn _ _ ?_ | refine Lo.sl _ ?_ | intro _)) (by repeat' (first | exact Lo.s _ | exact zah | refine zae ?_ ?_ | refine zai ?_ | refine Lo.cells ?_ | refine Lo.agg _ ?_ | refine Lo.ref _ ?_ | refine Lo.tup _ ?_ | refine Lo.fn _ _ ?_ | refine Lo.sl _ ?_ | intro _)) (by simp only [argF]; rfl) ?_
  repeat (first | refine zag ?_ | refine zap ?_ | refine zad ?_ | refine zaq ?_ | refine zac ?_)
  refine zaf ?_
  refine zab rfl rfl (zaa rfl) (mv_s (.inr rfl) rfl) ?_
  refine zan ?_
  repeat (first | refine zag ?_ | refine zap ?_ | refine zad ?_ | refine zaq ?_ | refine zac ?_)
  all_goals refine zaf ?_
  all_goals (first | refine zab rfl rfl (zaa rfl) (za3 (.inl rfl) rfl) ?_ | refine zab rfl rfl (zaa rfl) (zbi (.inl rfl) rfl) ?_ | refine zab rfl rfl (zaa rfl) (mv_s (.inl rfl) rfl) ?_ | refine zab rfl rfl (zaa rfl) (za4 (.inl rfl) rfl) ?_)
  all_goals (first | refine zab rfl rfl (zaa rfl) (za0 rfl ts22 rfl) ?_ | refine zab rfl rfl (zaa rfl) (za7 rfl ts22 rfl) ?_ | refine zab rfl rfl (zaa rfl) (zaw rfl ts22 rfl) ?_ | refine zab rfl rfl (zaa rfl) (zbc rfl ts22 rfl) ?_ | refine zab rfl rfl (zaa rfl) (zax rfl ts22 rfl) ?_)
  all_goals (first | refine zbj rfl rfl (zaa rfl) (does_leq rfl rfl rfl) (fun h7 => ?_) (fun h7 => ?_) | refine zbk rfl rfl (zaa rfl) (does_leq rfl rfl rfl) (fun h7 => ?_) (fun h7 => ?_))
  all_goals refine zab rfl rfl (zaa rfl) (mv_s (.inl rfl) rfl) ?_
  all_goals (first | refine zab rfl rfl (zak rfl rfl rfl) (za3 (.inl rfl) rfl) ?_ | refine zab rfl rfl (zak rfl rfl rfl) (zbi (.inl rfl) rfl) ?_ | refine zab rfl rfl (zak rfl rfl rfl) (mv_s (.inl rfl) rfl) ?_ | refine zab rfl rfl (zak rfl rfl rfl) (za4 (.inl rfl) rfl) ?_ | refine zam rfl rfl (zbs rfl rfl rfl) ?_ | refine zam rfl rfl (zau rfl rfl rfl) ?_)
  all_goals (first | refine zab rfl rfl (zak rfl rfl rfl) (za0 rfl ts23 rfl) ?_ | refine zab rfl rfl (zak rfl rfl rfl) (za7 rfl ts23 rfl) ?_ | refine zab rfl rfl (zak rfl rfl rfl) (zaw rfl ts23 rfl) ?_ | refine zab rfl rfl (zak rfl rfl rfl) (zbc rfl ts23 rfl) ?_ | refine zab rfl rfl (zak rfl rfl rfl) (zax rfl ts23 rfl) ?_ | refine zam rfl rfl (zbs rfl rfl rfl) ?_ | refine zam rfl rfl (zau rfl rfl rfl) ?_)
  all_goals (first | refine zbj rfl rfl (zak rfl rfl rfl) (does_leq rfl rfl rfl) (fun h11 => ?_) (fun h11 => ?_) | refine zbk rfl rfl (zak rfl rfl rfl) (does_leq rfl rfl rfl) (fun h11 => ?_) (fun h11 => ?_) | refine zam rfl rfl (zbs rfl rfl rfl) ?_ | refine zam rfl rfl (zau rfl rfl rfl) ?_)
  all_goals (first | refine zab rfl rfl (zaa rfl) (zb0 rfl rfl rfl) ?_ | refine zab rfl rfl (zaa rfl) (zb1 rfl rfl rfl) ?_ | refine zab rfl rfl (zaa rfl) (zbo rfl rfl rfl) ?_ | refine zab rfl rfl (zaa rfl) (zbp rfl rfl rfl) ?_)
  all_goals refine zab rfl rfl (zaa rfl) (mv_s (.inl rfl) rfl) ?_
  all_goals (first | refine zab rfl rfl (zak rfl rfl rfl) (za3 (.inl rfl) rfl) ?_ | refine zab rfl rfl (zak rfl rfl rfl) (zbi (.inl rfl) rfl) ?_ | refine zab rfl rfl (zak rfl rfl rfl) (mv_s (.inl rfl) rfl) ?_ | refine zab rfl rfl (zak rfl rfl rfl) (za4 (.inl rfl) rfl) ?_ | refine zam rfl rfl (zbs rfl rfl rfl) ?_ | refine zam rfl rfl (zau rfl rfl rfl) ?_)
  all_goals (first | refine zbj rfl rfl (zak rfl rfl rfl) (za5 rfl rfl (hc) (zat rfl (zat rfl zbl))) (fun h15 => ?_) (fun h15 => ?_) | refine zbk rfl rfl (zak rfl rfl rfl) (za5 rfl rfl (hc) (zat rfl (zat rfl zbl))) (fun h15 => ?_) (fun h15 => ?_) | refine zam rfl rfl (zbs rfl rfl rfl) ?_ | refine zam rfl rfl (zau rfl rfl rfl) ?_)
  all_goals (first | refine zab rfl rfl (zak rfl rfl rfl) (does_notp rfl rfl) ?_ | refine zab rfl rfl (zak rfl rfl rfl) (does_not rfl rfl) ?_ | refine zam rfl rfl (zbs rfl rfl rfl) ?_ | refine zam rfl rfl (zau rfl rfl rfl) ?_)
  all_goals (first | refine zab rfl rfl (zaa rfl) (zb0 rfl rfl rfl) ?_ | refine zab rfl rfl (zaa rfl) (zb1 rfl rfl rfl) ?_ | refine zab rfl rfl (zaa rfl) (zbo rfl rfl rfl) ?_ | refine zab rfl rfl (zaa rfl) (zbp rfl rfl rfl) ?_)
  all_goals refine zab rfl rfl (zaa rfl) (mv_s (.inr rfl) rfl) ?_
  all_goals refine zan ?_
  all_goals (repeat (first | refine zag ?_ | refine zap ?_ | refine zad ?_ | refine zaq ?_ | refine zac ?_))
  all_goals (refine zbt ?_; repeat (first | refine ath_r ?_ | refine abl_r ?_))
  all_goals exact post1 (.inr rfl) rfl (congrArg eB (by
    rw [hd]
    first
    | (rw [decide_eq_false (show ¬ ((d.length : Int) ≤ 30) by omega)]; rfl)
    | (rw [decide_eq_true (show ((d.length : Int) ≤ 30) by omega), decide_eq_false (show ¬ ((l.length : Int) ≤ 15) by omega)]; rfl)
    | (rw [decide_eq_true (show ((d.length : Int) ≤ 30) by omega), decide_eq_true (show ((l.length : Int) ≤ 15) by omega), h15]; rfl)))
def needB (n : Int) : Bool := decide (0 ≤ n ∧ n ≤ 100)
theorem svalid1_pf (n : Int) : Pure P 35 [eI n] (eB (!needB n)) := by
  refine aw_fn (by rw [IsP.eq (P := P)]; exact Try.func35) rfl rfl rfl rfl rfl (by repeat' (first | exact Lo.s _ | exact zah | refine zae ?_ ?_ | refine zai ?_ | refine Lo.cells ?_ | refine Lo.agg _ ?_ | refine Lo.ref _ ?_ | refine Lo.tup _ ?_ | refine Lo.fn _ _ ?_ | refine Lo.sl _ ?_ | intro _)) (by repeat' (first | exact Lo.s _ | exact zah | refine zae ?_ ?_ | refine zai ?_ | refine Lo.cells ?_ | refine Lo.agg _ ?_ | refine Lo.ref _ ?_ | refine Lo.tup _ ?_ | refine Lo.fn _ _ ?_ | refine Lo.sl _ ?_ | intro _)) (by simp only [argF]; rfl) ?_
  repeat (first | refine zag ?_ | refine zap ?_ | refine zad ?_ | refine zaq ?_ | refine zac ?_)
  refine zaf ?_
  refine zab rfl rfl (zaa rfl) (mv_s (.inr rfl) rfl) ?_
  refine zan ?_
  repeat (first | refine zag ?_ | refine zap ?_ | refine zad ?_ | refine zaq ?_ | refine zac ?_)
  all_goals refine zaf ?_
  all_goals refine zab rfl rfl (zaa rfl) (mv_s (.inl rfl) rfl) ?_
  all_goals (first | refine zbj rfl rfl (zaa rfl) (zbd rfl rfl rfl) (fun h4 => ?_) (fun h4 => ?_) | refine zbk rfl rfl (zaa rfl) (zbd rfl rfl rfl) (fun h4 => ?_) (fun h4 => ?_))
  all_goals refine zab rfl rfl (zaa rfl) (mv_s (.inl rfl) rfl) ?_
  all_goals (first | refine zab rfl rfl (zak rfl rfl rfl) (mv_s (.inl rfl) rfl) ?_ | refine zam rfl rfl (za2 rfl rfl rfl) ?_ | refine zam rfl rfl (zau rfl rfl rfl) ?_)
  all_goals (first | refine zbj rfl rfl (zak rfl rfl rfl) (zbz rfl rfl rfl) (fun h7 => ?_) (fun h7 => ?_) | refine zbk rfl rfl (zak rfl rfl rfl) (zbz rfl rfl rfl) (fun h7 => ?_) (fun h7 => ?_) | refine zam rfl rfl (za2 rfl rfl rfl) ?_ | refine zam rfl rfl (zau rfl rfl rfl) ?_)
  all_goals (first | refine zab rfl rfl (zaa rfl) (zb0 rfl rfl rfl) ?_ | refine zab rfl rfl (zaa rfl) (zb1 rfl rfl rfl) ?_ | refine zab rfl rfl (zaa rfl) (zbo rfl rfl rfl) ?_ | refine zab rfl rfl (zaa rfl) (zbp rfl rfl rfl) ?_)
  all_goals refine zab rfl rfl (zaa rfl) (mv_s (.inr rfl) rfl) ?_
  all_goals refine zan ?_
  all_goals (repeat (first | refine zag ?_ | refine zap ?_ | refine zad ?_ | refine zaq ?_ | refine zac ?_))
  all_goals (refine zbt ?_; repeat (first | refine ath_r ?_ | refine abl_r ?_))
  all_goals exact post1 (.inr rfl) rfl (congrArg eB (by
    unfold needB
    first
    | (rw [decide_eq_true (by omega)]; rfl)
    | (rw [decide_eq_false (by omega)]; rfl)))
/-- period k is one of n, and behind the period before it -/
def perB (n : Nat) (l : List Int) (k : Nat) : Bool := decide (0 ≤ gti l k ∧ gti l k < (n : Int) ∧ (0 < k → gti l (k - 1) < gti l k))
def headS (s : Sft) : Bool := decide (s.pd.length ≠ 0 ∧ 0 ≤ s.cost ∧ s.cost ≤ 1000 ∧ 0 ≤ s.most ∧ s.most ≤ 20)
def sftB (n : Nat) (s : Sft) : Bool := headS s && (List.range s.pd.length).all (perB n s.pd)
def headV (d : List Int) (l : List Sft) : Bool := decide (1 ≤ d.length ∧ d.length ≤ 24 ∧ l.length ≤ 12) && d.all needB
def validS (d : List Int) (l : List Sft) : Bool := headV d l && l.all (sftB d.length)
theorem headV_t {d : List Int} {l : List Sft} (h : 1 ≤ d.length ∧ d.length ≤ 24 ∧ l.length ≤ 12) (h2 : d.all needB = true) : headV d l = true := by
  unfold headV; rw [decide_eq_true h, h2]; rfl
theorem headV_f {d : List Int} {l : List Sft} (h : ¬ (1 ≤ d.length ∧ d.length ≤ 24 ∧ l.length ≤ 12)) : validS d l = false := by
  unfold validS headV; rw [decide_eq_false h]; rfl
theorem headV_f2 {d : List Int} {l : List Sft} (h : d.all needB = false) : validS d l = false := by
  unfold validS headV; rw [h, Bool.and_false]; rfl
theorem validS_f {d : List Int} {l : List Sft} {k : Nat} (hk : k < l.length) (h : sftB d.length (gti l k) = false) : validS d l = false := by
  unfold validS; rw [all_f hk h, Bool.and_false]
theorem validS_t {d : List Int} {l : List Sft} (h : headV d l = true) (h2 : ∀ j, j < l.length → sftB d.length (gti l j) = true) : validS d l = true := by
  unfold validS; rw [h, all_t h2]; rfl
theorem sftB_h {n : Nat} {s : Sft} (h : headS s = false) : sftB n s = false := by unfold sftB; rw [h]; rfl
theorem sftB_f {n k : Nat} {s : Sft} (hk : k < s.pd.length) (h : perB n s.pd k = false) : sftB n s = false := by unfold sftB; rw [rg_f hk h, Bool.and_false]
theorem sftB_t {n : Nat} {s : Sft} (h : headS s = true) (h2 : ∀ j, j < s.pd.length → perB n s.pd j = true) : sftB n s = true := by unfold sftB; rw [h, rg_t h2]; rfl
theorem validS_iff {d : List Int} {l : List Sft} (h : validS d l = true) : (1 ≤ d.length ∧ d.length ≤ 24 ∧ l.length ≤ 12) ∧ (∀ k, k < d.length → 0 ≤ gti d k ∧ gti d k ≤ 100) ∧ ∀ i, i < l.length → ((gti l i).pd.length ≠ 0 ∧ 0 ≤ (gti l i).cost ∧ (gti l i).cost ≤ 1000 ∧ 0 ≤ (gti l i).most ∧ (gti l i).most ≤ 20) ∧ ∀ k, k < (gti l i).pd.length → 0 ≤ gti (gti l i).pd k ∧ gti (gti l i).pd k < (d.length : Int) ∧ (0 < k → gti (gti l i).pd (k - 1) < gti (gti l i).pd k) := by
  unfold validS headV at h
  rw [Bool.and_eq_true, Bool.and_eq_true, decide_eq_true_eq] at h
  refine ⟨h.1.1, fun k hk => ?_, fun i hi => ?_⟩
  · have := List.all_eq_true.1 h.1.2 _ (gti_mem hk)
    unfold needB at this
    rwa [decide_eq_true_eq] at this
  · have h1 := List.all_eq_true.1 h.2 _ (gti_mem hi)
    unfold sftB headS at h1
    rw [Bool.and_eq_true, decide_eq_true_eq] at h1
    refine ⟨h1.1, fun k hk => ?_⟩
    have h2 := List.all_eq_true.1 h1.2 k (by simpa using hk)
    unfold perB at h2
    rwa [decide_eq_true_eq] at h2
set_option maxHeartbeats 1000000 in
theorem sValid_pf54 (d : List Int) (l : List Sft) : Pure P 15 [eL eI d, eL eSh l] (eB (validS d l)) := by
  have hc := containsFI_pf (P := P) 35 [] (fun n => !needB n) d lo_Int (.fn _ _ (by simp)) (fun a _ => svalid1_pf a)
  have hda : d.all needB = !(d.any fun n => !needB n) := by rw [List.all_eq_not_any_not]
  generalize (d.any fun n => !needB n) = z at hc hda
  refine aw_fn (by rw [IsP.eq (P := P)]; exact Try.func15) rfl rfl rfl rfl rfl (by repeat' (first | exact Lo.s _ | exact zah | refine zae ?_ ?_ | refine zai ?_ | refine Lo.cells ?_ | refine Lo.agg _ ?_ | refine Lo.ref _ ?_ | refine Lo.tup _ ?_ | refine Lo.fn _ _ ?_ | refine Lo.sl _ ?_ | intro _)) (by repeat' (first | exact Lo.s _ | exact zah | refine zae ?_ ?_ | refine zai ?_ | refine Lo.cells ?_ | refine Lo.agg _ ?_ | refine Lo.ref _ ?_ | refine Lo.tup _ ?_ | refine Lo.fn _ _ ?_ | refine Lo.sl _ ?_ | intro _)) (by simp only [argF]; rfl) ?_
  repeat (first | refine zag ?_ | refine zap ?_ | refine zad ?_ | refine zaq ?_ | refine zac ?_)
  refine aw_bdm (d := 0) rfl (fun hm1 => ?_)
  refine aw_bdm (d := 1) rfl (fun hm2 => ?_)
  unfold maxLen at hm1 hm2
  refine zaf ?_
  refine zab rfl rfl (zaa rfl) (mv_s (.inr rfl) rfl) ?_
  refine zan ?_
  repeat (first | refine zag ?_ | refine zap ?_ | refine zad ?_ | refine zaq ?_ | refine zac ?_)
  all_goals refine zaf ?_
  all_goals (first | refine zab rfl rfl (zaa rfl) (za3 (.inl rfl) rfl) ?_ | refine zab rfl rfl (zaa rfl) (zbi (.inl rfl) rfl) ?_ | refine zab rfl rfl (zaa rfl) (mv_s (.inl rfl) rfl) ?_ | refine zab rfl rfl (zaa rfl) (za4 (.inl rfl) rfl) ?_)
  all_goals (first | refine zab rfl rfl (zaa rfl) (za0 rfl ts22 rfl) ?_ | refine zab rfl rfl (zaa rfl) (za7 rfl ts22 rfl) ?_ | refine zab rfl rfl (zaa rfl) (zaw rfl ts22 rfl) ?_ | refine zab rfl rfl (zaa rfl) (zbc rfl ts22 rfl) ?_ | refine zab rfl rfl (zaa rfl) (zax rfl ts22 rfl) ?_)
  all_goals (first | refine zbj rfl rfl (zaa rfl) (zbd rfl rfl rfl) (fun h11 => ?_) (fun h11 => ?_) | refine zbk rfl rfl (zaa rfl) (zbd rfl rfl rfl) (fun h11 => ?_) (fun h11 => ?_))
  all_goals refine zab rfl rfl (zaa rfl) (mv_s (.inl rfl) rfl) ?_
  all_goals (first | refine zab rfl rfl (zak rfl rfl rfl) (za3 (.inl rfl) rfl) ?_ | refine zab rfl rfl (zak rfl rfl rfl) (zbi (.inl rfl) rfl) ?_ | refine zab rfl rfl (zak rfl rfl rfl) (mv_s (.inl rfl) rfl) ?_ | refine zab rfl rfl (zak rfl rfl rfl) (za4 (.inl rfl) rfl) ?_ | refine zam rfl rfl (za2 rfl rfl rfl) ?_ | refine zam rfl rfl (zau rfl rfl rfl) ?_)
  all_goals (first | refine zab rfl rfl (zak rfl rfl rfl) (za0 rfl ts22 rfl) ?_ | refine zab rfl rfl (zak rfl rfl rfl) (za7 rfl ts22 rfl) ?_ | refine zab rfl rfl (zak rfl rfl rfl) (zaw rfl ts22 rfl) ?_ | refine zab rfl rfl (zak rfl rfl rfl) (zbc rfl ts22 rfl) ?_ | refine zab rfl rfl (zak rfl rfl rfl) (zax rfl ts22 rfl) ?_ | refine zam rfl rfl (za2 rfl rfl rfl) ?_ | refine zam rfl rfl (zau rfl rfl rfl) ?_)
  all_goals (first | refine zbj rfl rfl (zak rfl rfl rfl) (zbz rfl rfl rfl) (fun h15 => ?_) (fun h15 => ?_) | refine zbk rfl rfl (zak rfl rfl rfl) (zbz rfl rfl rfl) (fun h15 => ?_) (fun h15 => ?_) | refine zam rfl rfl (za2 rfl rfl rfl) ?_ | refine zam rfl rfl (zau rfl rfl rfl) ?_)
  all_goals (first | refine zab rfl rfl (zaa rfl) (zb0 rfl rfl rfl) ?_ | refine zab rfl rfl (zaa rfl) (zb1 rfl rfl rfl) ?_ | refine zab rfl rfl (zaa rfl) (zbo rfl rfl rfl) ?_ | refine zab rfl rfl (zaa rfl) (zbp rfl rfl rfl) ?_)
  all_goals refine zab rfl rfl (zaa rfl) (mv_s (.inl rfl) rfl) ?_
  all_goals (first | refine zab rfl rfl (zak rfl rfl rfl) (za3 (.inl rfl) rfl) ?_ | refine zab rfl rfl (zak rfl rfl rfl) (zbi (.inl rfl) rfl) ?_ | refine zab rfl rfl (zak rfl rfl rfl) (mv_s (.inl rfl) rfl) ?_ | refine zab rfl rfl (zak rfl rfl rfl) (za4 (.inl rfl) rfl) ?_ | refine zam rfl rfl (za2 rfl rfl rfl) ?_ | refine zam rfl rfl (zau rfl rfl rfl) ?_)
  all_goals (first | refine zab rfl rfl (zak rfl rfl rfl) (za0 rfl ts23 rfl) ?_ | refine zab rfl rfl (zak rfl rfl rfl) (za7 rfl ts23 rfl) ?_ | refine zab rfl rfl (zak rfl rfl rfl) (zaw rfl ts23 rfl) ?_ | refine zab rfl rfl (zak rfl rfl rfl) (zbc rfl ts23 rfl) ?_ | refine zab rfl rfl (zak rfl rfl rfl) (zax rfl ts23 rfl) ?_ | refine zam rfl rfl (za2 rfl rfl rfl) ?_ | refine zam rfl rfl (zau rfl rfl rfl) ?_)
  all_goals (first | refine zbj rfl rfl (zak rfl rfl rfl) (zbz rfl rfl rfl) (fun h20 => ?_) (fun h20 => ?_) | refine zbk rfl rfl (zak rfl rfl rfl) (zbz rfl rfl rfl) (fun h20 => ?_) (fun h20 => ?_) | refine zam rfl rfl (za2 rfl rfl rfl) ?_ | refine zam rfl rfl (zau rfl rfl rfl) ?_)
  all_goals (first | refine zab rfl rfl (zaa rfl) (zb0 rfl rfl rfl) ?_ | refine zab rfl rfl (zaa rfl) (zb1 rfl rfl rfl) ?_ | refine zab rfl rfl (zaa rfl) (zbo rfl rfl rfl) ?_ | refine zab rfl rfl (zaa rfl) (zbp rfl rfl rfl) ?_)
  all_goals refine zab rfl rfl (zaa rfl) (mv_s (.inl rfl) rfl) ?_
  all_goals (first | refine zab rfl rfl (zak rfl rfl rfl) (za3 (.inl rfl) rfl) ?_ | refine zab rfl rfl (zak rfl rfl rfl) (zbi (.inl rfl) rfl) ?_ | refine zab rfl rfl (zak rfl rfl rfl) (mv_s (.inl rfl) rfl) ?_ | refine zab rfl rfl (zak rfl rfl rfl) (za4 (.inl rfl) rfl) ?_ | refine zam rfl rfl (za2 rfl rfl rfl) ?_ | refine zam rfl rfl (zau rfl rfl rfl) ?_)
  all_goals (first | refine zbj rfl rfl (zak rfl rfl rfl) (za5 rfl rfl (hc) (zat rfl (zat rfl zbl))) (fun h24 => ?_) (fun h24 => ?_) | refine zbk rfl rfl (zak rfl rfl rfl) (za5 rfl rfl (hc) (zat rfl (zat rfl zbl))) (fun h24 => ?_) (fun h24 => ?_) | refine zam rfl rfl (za2 rfl rfl rfl) ?_ | refine zam rfl rfl (zau rfl rfl rfl) ?_)
  all_goals (first | refine zab rfl rfl (zaa rfl) (zb0 rfl rfl rfl) ?_ | refine zab rfl rfl (zaa rfl) (zb1 rfl rfl rfl) ?_ | refine zab rfl rfl (zaa rfl) (zbo rfl rfl rfl) ?_ | refine zab rfl rfl (zaa rfl) (zbp rfl rfl rfl) ?_)
  all_goals refine zan ?_
  all_goals (repeat (first | refine zag ?_ | refine zap ?_ | refine zad ?_ | refine zaq ?_ | refine zac ?_))
  all_goals (first | refine zbq rfl ?_ | refine zbm rfl ?_)
  all_goals (repeat (first | refine zag ?_ | refine zap ?_ | refine zad ?_ | refine zaq ?_ | refine zac ?_))
  all_goals first
    | skip
      refine zaf ?_
      refine zab rfl rfl (zaa rfl) (mv_s (.inr rfl) rfl) ?_
      refine zan ?_
      repeat (first | refine zag ?_ | refine zap ?_ | refine zad ?_ | refine zaq ?_ | refine zac ?_)
      (refine zbt ?_; repeat (first | refine ath_r ?_ | refine abl_r ?_))
      exact post1 (.inr rfl) rfl (congrArg eB (by
        first
        | (rw [headV_f (by omega)])
        | (rw [headV_f2 (by rw [hda, h24]; rfl)])))
    | skip
  have hh : headV d l = true := headV_t (by omega) (by rw [hda, h24]; rfl)
  refine zaf ?_
  first | refine zab rfl rfl (zaa rfl) (za3 (.inl rfl) rfl) ?_ | refine zab rfl rfl (zaa rfl) (zbi (.inl rfl) rfl) ?_ | refine zab rfl rfl (zaa rfl) (mv_s (.inl rfl) rfl) ?_ | refine zab rfl rfl (zaa rfl) (za4 (.inl rfl) rfl) ?_
  first | refine zab rfl rfl (zaa rfl) (za0 rfl ts23 rfl) ?_ | refine zab rfl rfl (zaa rfl) (za7 rfl ts23 rfl) ?_ | refine zab rfl rfl (zaa rfl) (zaw rfl ts23 rfl) ?_ | refine zab rfl rfl (zaa rfl) (zbc rfl ts23 rfl) ?_ | refine zab rfl rfl (zaa rfl) (zax rfl ts23 rfl) ?_
  refine zab rfl rfl (zaa rfl) (mv_s (.inl rfl) rfl) ?_
  refine zan ?_
  repeat (first | refine zag ?_ | refine zap ?_ | refine zad ?_ | refine zaq ?_ | refine zac ?_)
  refine aw_loops (S := Nat) (fun k => [(0, eL eI d), (1, eL eSh l), (26, eL eSh l), (27, eI l.length), (28, eI k)]) (fun _ => []) (fun k => k ≤ l.length ∧ ∀ j, j < k → sftB d.length (gti l j) = true) (fun k => l.length - k) 0 (wk_st [] (by decide) trivial ⟨.lo _ (by repeat' (first | exact Lo.s _ | exact zah | refine zae ?_ ?_ | refine zai ?_ | refine Lo.cells ?_ | refine Lo.agg _ ?_ | refine Lo.ref _ ?_ | refine Lo.tup _ ?_ | refine Lo.fn _ _ ?_ | refine Lo.sl _ ?_ | intro _)), .lo _ (by repeat' (first | exact Lo.s _ | exact zah | refine zae ?_ ?_ | refine zai ?_ | refine Lo.cells ?_ | refine Lo.agg _ ?_ | refine Lo.ref _ ?_ | refine Lo.tup _ ?_ | refine Lo.fn _ _ ?_ | refine Lo.sl _ ?_ | intro _)), .lo _ (by repeat' (first | exact Lo.s _ | exact zah | refine zae ?_ ?_ | refine zai ?_ | refine Lo.cells ?_ | refine Lo.agg _ ?_ | refine Lo.ref _ ?_ | refine Lo.tup _ ?_ | refine Lo.fn _ _ ?_ | refine Lo.sl _ ?_ | intro _)), .lo _ (by repeat' (first | exact Lo.s _ | exact zah | refine zae ?_ ?_ | refine zai ?_ | refine Lo.cells ?_ | refine Lo.agg _ ?_ | refine Lo.ref _ ?_ | refine Lo.tup _ ?_ | refine Lo.fn _ _ ?_ | refine Lo.sl _ ?_ | intro _)), .lo _ (by repeat' (first | exact Lo.s _ | exact zah | refine zae ?_ ?_ | refine zai ?_ | refine Lo.cells ?_ | refine Lo.agg _ ?_ | refine Lo.ref _ ?_ | refine Lo.tup _ ?_ | refine Lo.fn _ _ ?_ | refine Lo.sl _ ?_ | intro _)), trivial⟩) ⟨by omega, fun j hj => by omega⟩ (fun k hk => ?_)
  obtain ⟨hk, hall⟩ := hk
  repeat (first | refine zag ?_ | refine zap ?_ | refine zad ?_ | refine zaq ?_ | refine zac ?_)
  all_goals refine zaf ?_
  all_goals (first | refine zbj rfl rfl (zaa rfl) (zbd rfl rfl rfl) (fun h29 => ?_) (fun h29 => ?_) | refine zbk rfl rfl (zaa rfl) (zbd rfl rfl rfl) (fun h29 => ?_) (fun h29 => ?_))
  all_goals refine zan ?_
  all_goals (repeat (first | refine zag ?_ | refine zap ?_ | refine zad ?_ | refine zaq ?_ | refine zac ?_))
  all_goals (first | refine zbq rfl ?_ | refine zbm rfl ?_)
  all_goals (repeat (first | refine zag ?_ | refine zap ?_ | refine zad ?_ | refine zaq ?_ | refine zac ?_))
  · have hlt : k < l.length := by omega
    obtain ⟨s, hs⟩ : ∃ s, gti l k = s := ⟨_, rfl⟩
    have hix : (l.map eSh)[k]? = some (eSh s) := by rw [← hs]; exact zb5 hlt
    refine zaf ?_
    first | refine zab rfl rfl (zaa rfl) (za1 rfl ts23 ti39 rfl rfl rfl hix rfl) ?_ | refine zab rfl rfl (zaa rfl) (zav rfl ts23 ti39 rfl rfl rfl hix) ?_
    first | refine zab rfl rfl (zaa rfl) (za9 rfl ta39 ti39 rfl rfl) ?_ | refine zab rfl rfl (zaa rfl) (zbf rfl ta39 ti39 rfl rfl rfl rfl rfl) ?_ | refine zab rfl rfl (zaa rfl) (za8 rfl ta39 ti39 rfl (Nat.le_of_ble_eq_true rfl)) ?_ | refine zab rfl rfl (zaa rfl) (zbg rfl ta39 ti39 rfl rfl rfl rfl (Nat.le_of_ble_eq_true rfl)) ?_
    refine zab rfl rfl (zaa rfl) (zbu rfl ti39 rfl rfl) ?_
    refine zb2 rfl (zaa rfl) (zbe rfl ti39 rfl rfl rfl rfl rfl rfl (by decide) (by decide)) ?_
    refine zan ?_
    repeat (first | refine zag ?_ | refine zap ?_ | refine zad ?_ | refine zaq ?_ | refine zac ?_)
    refine zb3 (wk_froz (id := 0) rfl) ?_
    refine zb3 (wk_ref (d := 6) rfl rfl rfl) ?_
    all_goals refine zaf ?_
    all_goals (first | refine zab rfl rfl (zaa rfl) (zal rfl tf39_0 (by decide) rfl) ?_ | refine zab rfl rfl (zaa rfl) (zaj rfl tf39_0 (by decide) rfl) ?_)
    all_goals (first | refine zab rfl rfl (zaa rfl) (zao rfl ta22 rfl) ?_ | refine zab rfl rfl (zaa rfl) (zar rfl ta22 rfl rfl rfl rfl rfl) ?_)
    all_goals (first | refine zab rfl rfl (zaa rfl) (za0 rfl ts22 rfl) ?_ | refine zab rfl rfl (zaa rfl) (za7 rfl ts22 rfl) ?_ | refine zab rfl rfl (zaa rfl) (zaw rfl ts22 rfl) ?_ | refine zab rfl rfl (zaa rfl) (zbc rfl ts22 rfl) ?_ | refine zab rfl rfl (zaa rfl) (zax rfl ts22 rfl) ?_)
    all_goals (first | refine zbj rfl rfl (zaa rfl) (does_eql rfl rfl rfl) (fun h35 => ?_) (fun h35 => ?_) | refine zbk rfl rfl (zaa rfl) (does_eql rfl rfl rfl) (fun h35 => ?_) (fun h35 => ?_))
    all_goals refine zab rfl rfl (zaa rfl) (mv_s (.inl rfl) rfl) ?_
    all_goals (first | refine zab rfl rfl (zak rfl rfl rfl) (zal rfl tf39_1 (by decide) rfl) ?_ | refine zab rfl rfl (zak rfl rfl rfl) (zaj rfl tf39_1 (by decide) rfl) ?_ | refine zam rfl rfl (za2 rfl rfl rfl) ?_ | refine zam rfl rfl (zau rfl rfl rfl) ?_)
    all_goals (first | refine zab rfl rfl (zak rfl rfl rfl) (zao rfl ta3 rfl) ?_ | refine zab rfl rfl (zak rfl rfl rfl) (zar rfl ta3 rfl rfl rfl rfl rfl) ?_ | refine zam rfl rfl (za2 rfl rfl rfl) ?_ | refine zam rfl rfl (zau rfl rfl rfl) ?_)
    all_goals (first | refine zbj rfl rfl (zak rfl rfl rfl) (zbd rfl rfl rfl) (fun h39 => ?_) (fun h39 => ?_) | refine zbk rfl rfl (zak rfl rfl rfl) (zbd rfl rfl rfl) (fun h39 => ?_) (fun h39 => ?_) | refine zam rfl rfl (za2 rfl rfl rfl) ?_ | refine zam rfl rfl (zau rfl rfl rfl) ?_)
    all_goals (first | refine zab rfl rfl (zaa rfl) (zb0 rfl rfl rfl) ?_ | refine zab rfl rfl (zaa rfl) (zb1 rfl rfl rfl) ?_ | refine zab rfl rfl (zaa rfl) (zbo rfl rfl rfl) ?_ | refine zab rfl rfl (zaa rfl) (zbp rfl rfl rfl) ?_)
    all_goals refine zab rfl rfl (zaa rfl) (mv_s (.inl rfl) rfl) ?_
    all_goals (first | refine zab rfl rfl (zak rfl rfl rfl) (zal rfl tf39_1 (by decide) rfl) ?_ | refine zab rfl rfl (zak rfl rfl rfl) (zaj rfl tf39_1 (by decide) rfl) ?_ | refine zam rfl rfl (za2 rfl rfl rfl) ?_ | refine zam rfl rfl (zau rfl rfl rfl) ?_)
    all_goals (first | refine zab rfl rfl (zak rfl rfl rfl) (zao rfl ta3 rfl) ?_ | refine zab rfl rfl (zak rfl rfl rfl) (zar rfl ta3 rfl rfl rfl rfl rfl) ?_ | refine zam rfl rfl (za2 rfl rfl rfl) ?_ | refine zam rfl rfl (zau rfl rfl rfl) ?_)
    all_goals (first | refine zbj rfl rfl (zak rfl rfl rfl) (zbz rfl rfl rfl) (fun h44 => ?_) (fun h44 => ?_) | refine zbk rfl rfl (zak rfl rfl rfl) (zbz rfl rfl rfl) (fun h44 => ?_) (fun h44 => ?_) | refine zam rfl rfl (za2 rfl rfl rfl) ?_ | refine zam rfl rfl (zau rfl rfl rfl) ?_)
    all_goals (first | refine zab rfl rfl (zaa rfl) (zb0 rfl rfl rfl) ?_ | refine zab rfl rfl (zaa rfl) (zb1 rfl rfl rfl) ?_ | refine zab rfl rfl (zaa rfl) (zbo rfl rfl rfl) ?_ | refine zab rfl rfl (zaa rfl) (zbp rfl rfl rfl) ?_)
    all_goals refine zab rfl rfl (zaa rfl) (mv_s (.inl rfl) rfl) ?_
    all_goals (first | refine zab rfl rfl (zak rfl rfl rfl) (zal rfl tf39_2 (by decide) rfl) ?_ | refine zab rfl rfl (zak rfl rfl rfl) (zaj rfl tf39_2 (by decide) rfl) ?_ | refine zam rfl rfl (za2 rfl rfl rfl) ?_ | refine zam rfl rfl (zau rfl rfl rfl) ?_)
    all_goals (first | refine zab rfl rfl (zak rfl rfl rfl) (zao rfl ta3 rfl) ?_ | refine zab rfl rfl (zak rfl rfl rfl) (zar rfl ta3 rfl rfl rfl rfl rfl) ?_ | refine zam rfl rfl (za2 rfl rfl rfl) ?_ | refine zam rfl rfl (zau rfl rfl rfl) ?_)
    all_goals (first | refine zbj rfl rfl (zak rfl rfl rfl) (zbd rfl rfl rfl) (fun h49 => ?_) (fun h49 => ?_) | refine zbk rfl rfl (zak rfl rfl rfl) (zbd rfl rfl rfl) (fun h49 => ?_) (fun h49 => ?_) | refine zam rfl rfl (za2 rfl rfl rfl) ?_ | refine zam rfl rfl (zau rfl rfl rfl) ?_)
    all_goals (first | refine zab rfl rfl (zaa rfl) (zb0 rfl rfl rfl) ?_ | refine zab rfl rfl (zaa rfl) (zb1 rfl rfl rfl) ?_ | refine zab rfl rfl (zaa rfl) (zbo rfl rfl rfl) ?_ | refine zab rfl rfl (zaa rfl) (zbp rfl rfl rfl) ?_)
    all_goals refine zab rfl rfl (zaa rfl) (mv_s (.inl rfl) rfl) ?_
    all_goals (first | refine zab rfl rfl (zak rfl rfl rfl) (zal rfl tf39_2 (by decide) rfl) ?_ | refine zab rfl rfl (zak rfl rfl rfl) (zaj rfl tf39_2 (by decide) rfl) ?_ | refine zam rfl rfl (za2 rfl rfl rfl) ?_ | refine zam rfl rfl (zau rfl rfl rfl) ?_)
    all_goals (first | refine zab rfl rfl (zak rfl rfl rfl) (zao rfl ta3 rfl) ?_ | refine zab rfl rfl (zak rfl rfl rfl) (zar rfl ta3 rfl rfl rfl rfl rfl) ?_ | refine zam rfl rfl (za2 rfl rfl rfl) ?_ | refine zam rfl rfl (zau rfl rfl rfl) ?_)
    all_goals (first | refine zbj rfl rfl (zak rfl rfl rfl) (zbz rfl rfl rfl) (fun h54 => ?_) (fun h54 => ?_) | refine zbk rfl rfl (zak rfl rfl rfl) (zbz rfl rfl rfl) (fun h54 => ?_) (fun h54 => ?_) | refine zam rfl rfl (za2 rfl rfl rfl) ?_ | refine zam rfl rfl (zau rfl rfl rfl) ?_)
    all_goals (first | refine zab rfl rfl (zaa rfl) (zb0 rfl rfl rfl) ?_ | refine zab rfl rfl (zaa rfl) (zb1 rfl rfl rfl) ?_ | refine zab rfl rfl (zaa rfl) (zbo rfl rfl rfl) ?_ | refine zab rfl rfl (zaa rfl) (zbp rfl rfl rfl) ?_)
    all_goals refine zan ?_
    all_goals (repeat (first | refine zag ?_ | refine zap ?_ | refine zad ?_ | refine zaq ?_ | refine zac ?_))
    all_goals (first | refine zbq rfl ?_ | refine zbm rfl ?_)
    all_goals (repeat (first | refine zag ?_ | refine zap ?_ | refine zad ?_ | refine zaq ?_ | refine zac ?_))
    all_goals first
      | skip
        refine zaf ?_
        refine zab rfl rfl (zaa rfl) (mv_s (.inr rfl) rfl) ?_
        refine zan ?_
        repeat (first | refine zag ?_ | refine zap ?_ | refine zad ?_ | refine zaq ?_ | refine zac ?_)
        (refine zbt ?_; repeat (first | refine ath_r ?_ | refine abl_r ?_))
        exact post1 (.inr rfl) rfl (congrArg eB (validS_f hlt (by rw [hs]; exact sftB_h (decide_eq_false (by omega)))).symm)
      | skip
    have hhs : headS s = true := decide_eq_true (by omega)
    refine zaf ?_
    first | refine zab rfl rfl (zaa rfl) (zal rfl tf39_0 (by decide) rfl) ?_ | refine zab rfl rfl (zaa rfl) (zaj rfl tf39_0 (by decide) rfl) ?_
    first | refine zab rfl rfl (zaa rfl) (zao rfl ta22 rfl) ?_ | refine zab rfl rfl (zaa rfl) (zar rfl ta22 rfl rfl rfl rfl rfl) ?_
    first | refine zab rfl rfl (zaa rfl) (za0 rfl ts22 rfl) ?_ | refine zab rfl rfl (zaa rfl) (za7 rfl ts22 rfl) ?_ | refine zab rfl rfl (zaa rfl) (zaw rfl ts22 rfl) ?_ | refine zab rfl rfl (zaa rfl) (zbc rfl ts22 rfl) ?_ | refine zab rfl rfl (zaa rfl) (zax rfl ts22 rfl) ?_
    refine zab rfl rfl (zaa rfl) (mv_s (.inl rfl) rfl) ?_
    refine zan ?_
    repeat (first | refine zag ?_ | refine zap ?_ | refine zad ?_ | refine zaq ?_ | refine zac ?_)
    refine aw_bdm (d := 57) rfl (fun hm3 => ?_)
    unfold maxLen at hm3
    refine aw_loops (S := Nat) (fun j => [(0, eL eI d), (1, eL eSh l), (26, eL eSh l), (27, eI l.length), (28, eI k), (6, .ref (eSh s).cells), (57, eL eI s.pd), (58, eI s.pd.length), (59, eI j)]) (fun _ => []) (fun j => j ≤ s.pd.length ∧ ∀ i, i < j → perB d.length s.pd i = true) (fun j => s.pd.length - j) 0 (wk_st [] (by decide) trivial ⟨.lo _ (by repeat' (first | exact Lo.s _ | exact zah | refine zae ?_ ?_ | refine zai ?_ | refine Lo.cells ?_ | refine Lo.agg _ ?_ | refine Lo.ref _ ?_ | refine Lo.tup _ ?_ | refine Lo.fn _ _ ?_ | refine Lo.sl _ ?_ | intro _)), .lo _ (by repeat' (first | exact Lo.s _ | exact zah | refine zae ?_ ?_ | refine zai ?_ | refine Lo.cells ?_ | refine Lo.agg _ ?_ | refine Lo.ref _ ?_ | refine Lo.tup _ ?_ | refine Lo.fn _ _ ?_ | refine Lo.sl _ ?_ | intro _)), .lo _ (by repeat' (first | exact Lo.s _ | exact zah | refine zae ?_ ?_ | refine zai ?_ | refine Lo.cells ?_ | refine Lo.agg _ ?_ | refine Lo.ref _ ?_ | refine Lo.tup _ ?_ | refine Lo.fn _ _ ?_ | refine Lo.sl _ ?_ | intro _)), .lo _ (by repeat' (first | exact Lo.s _ | exact zah | refine zae ?_ ?_ | refine zai ?_ | refine Lo.cells ?_ | refine Lo.agg _ ?_ | refine Lo.ref _ ?_ | refine Lo.tup _ ?_ | refine Lo.fn _ _ ?_ | refine Lo.sl _ ?_ | intro _)), .lo _ (by repeat' (first | exact Lo.s _ | exact zah | refine zae ?_ ?_ | refine zai ?_ | refine Lo.cells ?_ | refine Lo.agg _ ?_ | refine Lo.ref _ ?_ | refine Lo.tup _ ?_ | refine Lo.fn _ _ ?_ | refine Lo.sl _ ?_ | intro _)), .lo _ (by repeat' (first | exact Lo.s _ | exact zah | refine zae ?_ ?_ | refine zai ?_ | refine Lo.cells ?_ | refine Lo.agg _ ?_ | refine Lo.ref _ ?_ | refine Lo.tup _ ?_ | refine Lo.fn _ _ ?_ | refine Lo.sl _ ?_ | intro _)), .lo _ (by repeat' (first | exact Lo.s _ | exact zah | refine zae ?_ ?_ | refine zai ?_ | refine Lo.cells ?_ | refine Lo.agg _ ?_ | refine Lo.ref _ ?_ | refine Lo.tup _ ?_ | refine Lo.fn _ _ ?_ | refine Lo.sl _ ?_ | intro _)), .lo _ (by repeat' (first | exact Lo.s _ | exact zah | refine zae ?_ ?_ | refine zai ?_ | refine Lo.cells ?_ | refine Lo.agg _ ?_ | refine Lo.ref _ ?_ | refine Lo.tup _ ?_ | refine Lo.fn _ _ ?_ | refine Lo.sl _ ?_ | intro _)), .lo _ (by repeat' (first | exact Lo.s _ | exact zah | refine zae ?_ ?_ | refine zai ?_ | refine Lo.cells ?_ | refine Lo.agg _ ?_ | refine Lo.ref _ ?_ | refine Lo.tup _ ?_ | refine Lo.fn _ _ ?_ | refine Lo.sl _ ?_ | intro _)), trivial⟩) ⟨by omega, fun j hj => by omega⟩ (fun j hj => ?_)
    obtain ⟨hj, hper⟩ := hj
    repeat (first | refine zag ?_ | refine zap ?_ | refine zad ?_ | refine zaq ?_ | refine zac ?_)
    all_goals refine zaf ?_
    all_goals (first | refine zbj rfl rfl (zaa rfl) (zbd rfl rfl rfl) (fun h60 => ?_) (fun h60 => ?_) | refine zbk rfl rfl (zaa rfl) (zbd rfl rfl rfl) (fun h60 => ?_) (fun h60 => ?_))
    all_goals refine zan ?_
    all_goals (repeat (first | refine zag ?_ | refine zap ?_ | refine zad ?_ | refine zaq ?_ | refine zac ?_))
    all_goals (first | refine zbq rfl ?_ | refine zbm rfl ?_)
    all_goals (repeat (first | refine zag ?_ | refine zap ?_ | refine zad ?_ | refine zaq ?_ | refine zac ?_))
    · have hlt2 : j < s.pd.length := by omega
      refine zaf ?_
      refine zab rfl rfl (zaa rfl) (mv_s (.inl rfl) rfl) ?_
      first | refine zab rfl rfl (zaa rfl) (za1 rfl ts22 ti3 rfl rfl rfl (zb5 (by omega)) rfl) ?_ | refine zab rfl rfl (zaa rfl) (zav rfl ts22 ti3 rfl rfl rfl (by omega)) ?_
      first | refine zab rfl rfl (zaa rfl) (zao rfl ta3 rfl) ?_ | refine zab rfl rfl (zaa rfl) (zar rfl ta3 rfl rfl rfl rfl rfl) ?_
      refine zab rfl rfl (zaa rfl) (mv_s (.inr rfl) rfl) ?_
      refine zab rfl rfl (zaa rfl) (mv_s (.inr rfl) rfl) ?_
      refine zan ?_
      repeat (first | refine zag ?_ | refine zap ?_ | refine zad ?_ | refine zaq ?_ | refine zac ?_)
      all_goals refine zaf ?_
      all_goals refine zab rfl rfl (zaa rfl) (mv_s (.inl rfl) rfl) ?_
      all_goals (first | refine zbj rfl rfl (zaa rfl) (zbd rfl rfl rfl) (fun h65 => ?_) (fun h65 => ?_) | refine zbk rfl rfl (zaa rfl) (zbd rfl rfl rfl) (fun h65 => ?_) (fun h65 => ?_))
      all_goals refine zab rfl rfl (zaa rfl) (mv_s (.inl rfl) rfl) ?_
      all_goals (first | refine zab rfl rfl (zak rfl rfl rfl) (mv_s (.inl rfl) rfl) ?_ | refine zam rfl rfl (za2 rfl rfl rfl) ?_ | refine zam rfl rfl (zau rfl rfl rfl) ?_)
      all_goals (first | refine zab rfl rfl (zak rfl rfl rfl) (za3 (.inl rfl) rfl) ?_ | refine zab rfl rfl (zak rfl rfl rfl) (zbi (.inl rfl) rfl) ?_ | refine zab rfl rfl (zak rfl rfl rfl) (mv_s (.inl rfl) rfl) ?_ | refine zab rfl rfl (zak rfl rfl rfl) (za4 (.inl rfl) rfl) ?_ | refine zam rfl rfl (za2 rfl rfl rfl) ?_ | refine zam rfl rfl (zau rfl rfl rfl) ?_)
      all_goals (first | refine zab rfl rfl (zak rfl rfl rfl) (za0 rfl ts22 rfl) ?_ | refine zab rfl rfl (zak rfl rfl rfl) (za7 rfl ts22 rfl) ?_ | refine zab rfl rfl (zak rfl rfl rfl) (zaw rfl ts22 rfl) ?_ | refine zab rfl rfl (zak rfl rfl rfl) (zbc rfl ts22 rfl) ?_ | refine zab rfl rfl (zak rfl rfl rfl) (zax rfl ts22 rfl) ?_ | refine zam rfl rfl (za2 rfl rfl rfl) ?_ | refine zam rfl rfl (zau rfl rfl rfl) ?_)
      all_goals (first | refine zbj rfl rfl (zak rfl rfl rfl) (does_geq rfl rfl rfl) (fun h70 => ?_) (fun h70 => ?_) | refine zbk rfl rfl (zak rfl rfl rfl) (does_geq rfl rfl rfl) (fun h70 => ?_) (fun h70 => ?_) | refine zam rfl rfl (za2 rfl rfl rfl) ?_ | refine zam rfl rfl (zau rfl rfl rfl) ?_)
      all_goals (first | refine zab rfl rfl (zaa rfl) (zb0 rfl rfl rfl) ?_ | refine zab rfl rfl (zaa rfl) (zb1 rfl rfl rfl) ?_ | refine zab rfl rfl (zaa rfl) (zbo rfl rfl rfl) ?_ | refine zab rfl rfl (zaa rfl) (zbp rfl rfl rfl) ?_)
      all_goals refine zab rfl rfl (zaa rfl) (mv_s (.inl rfl) rfl) ?_
      all_goals (first | refine zab rfl rfl (zak rfl rfl rfl) (mv_s (.inl rfl) rfl) ?_ | refine zam rfl rfl (za2 rfl rfl rfl) ?_ | refine zam rfl rfl (zau rfl rfl rfl) ?_)
      all_goals (first | refine zbj rfl rfl (zak rfl rfl rfl) (zbz rfl rfl rfl) (fun h74 => ?_) (fun h74 => ?_) | refine zbk rfl rfl (zak rfl rfl rfl) (zbz rfl rfl rfl) (fun h74 => ?_) (fun h74 => ?_) | refine zam rfl rfl (za2 rfl rfl rfl) ?_ | refine zam rfl rfl (zau rfl rfl rfl) ?_)
      all_goals (first | refine zab rfl rfl (zak rfl rfl rfl) (mv_s (.inl rfl) rfl) ?_ | refine zam rfl rfl (za2 rfl rfl rfl) ?_ | refine zam rfl rfl (zau rfl rfl rfl) ?_)
      all_goals (first | refine zab rfl rfl (zak rfl rfl rfl) (zal rfl tf39_0 (by decide) rfl) ?_ | refine zab rfl rfl (zak rfl rfl rfl) (zaj rfl tf39_0 (by decide) rfl) ?_ | refine zam rfl rfl (zbs rfl rfl rfl) ?_ | refine zam rfl rfl (zau rfl rfl rfl) ?_)
      all_goals (first | refine zab rfl rfl (zak rfl rfl rfl) (zao rfl ta22 rfl) ?_ | refine zab rfl rfl (zak rfl rfl rfl) (zar rfl ta22 rfl rfl rfl rfl rfl) ?_ | refine zam rfl rfl (zbs rfl rfl rfl) ?_ | refine zam rfl rfl (zau rfl rfl rfl) ?_)
      all_goals (first | refine zab rfl rfl (zak rfl rfl rfl) (mv_s (.inl rfl) rfl) ?_ | refine zam rfl rfl (zbs rfl rfl rfl) ?_ | refine zam rfl rfl (zau rfl rfl rfl) ?_)
      all_goals (first | refine zab rfl rfl (zak rfl rfl rfl) (does_sub rfl rfl rfl (IntWalk.i64_in _ (by omega))) ?_ | refine zam rfl rfl (zbs rfl rfl rfl) ?_ | refine zam rfl rfl (zau rfl rfl rfl) ?_)
      all_goals (first | refine zab rfl rfl (zak rfl rfl rfl) (za1 rfl ts22 ti3 rfl rfl (by omega) (zb5 (k := j - 1) (by omega)) rfl) ?_ | refine zab rfl rfl (zak rfl rfl rfl) (zav rfl ts22 ti3 rfl rfl (by omega) (zb5 (k := j - 1) (by omega))) ?_ | refine zam rfl rfl (zbs rfl rfl rfl) ?_ | refine zam rfl rfl (zau rfl rfl rfl) ?_)
      all_goals (first | refine zab rfl rfl (zak rfl rfl rfl) (zao rfl ta3 rfl) ?_ | refine zab rfl rfl (zak rfl rfl rfl) (zar rfl ta3 rfl rfl rfl rfl rfl) ?_ | refine zam rfl rfl (zbs rfl rfl rfl) ?_ | refine zam rfl rfl (zau rfl rfl rfl) ?_)
      all_goals (first | refine zab rfl rfl (zak rfl rfl rfl) (mv_s (.inl rfl) rfl) ?_ | refine zam rfl rfl (zbs rfl rfl rfl) ?_ | refine zam rfl rfl (zau rfl rfl rfl) ?_)
      all_goals (first | refine zbj rfl rfl (zak rfl rfl rfl) (does_geq rfl rfl rfl) (fun h83 => ?_) (fun h83 => ?_) | refine zbk rfl rfl (zak rfl rfl rfl) (does_geq rfl rfl rfl) (fun h83 => ?_) (fun h83 => ?_) | refine zam rfl rfl (zbs rfl rfl rfl) ?_ | refine zam rfl rfl (zau rfl rfl rfl) ?_)
      all_goals (first | refine zab rfl rfl (zak rfl rfl rfl) (zb0 rfl rfl rfl) ?_ | refine zab rfl rfl (zak rfl rfl rfl) (zb1 rfl rfl rfl) ?_ | refine zab rfl rfl (zak rfl rfl rfl) (zbo rfl rfl rfl) ?_ | refine zab rfl rfl (zak rfl rfl rfl) (zbp rfl rfl rfl) ?_ | refine zam rfl rfl (za2 rfl rfl rfl) ?_ | refine zam rfl rfl (zau rfl rfl rfl) ?_)
      all_goals (first | refine zab rfl rfl (zaa rfl) (zb0 rfl rfl rfl) ?_ | refine zab rfl rfl (zaa rfl) (zb1 rfl rfl rfl) ?_ | refine zab rfl rfl (zaa rfl) (zbo rfl rfl rfl) ?_ | refine zab rfl rfl (zaa rfl) (zbp rfl rfl rfl) ?_)
      all_goals refine zan ?_
      all_goals (repeat (first | refine zag ?_ | refine zap ?_ | refine zad ?_ | refine zaq ?_ | refine zac ?_))
      all_goals (first | refine zbq rfl ?_ | refine zbm rfl ?_)
      all_goals (repeat (first | refine zag ?_ | refine zap ?_ | refine zad ?_ | refine zaq ?_ | refine zac ?_))
      all_goals first
        | skip
          refine zaf ?_
          refine zab rfl rfl (zaa rfl) (mv_s (.inr rfl) rfl) ?_
          refine zan ?_
          repeat (first | refine zag ?_ | refine zap ?_ | refine zad ?_ | refine zaq ?_ | refine zac ?_)
          (refine zbt ?_; repeat (first | refine ath_r ?_ | refine abl_r ?_))
          exact post1 (.inr rfl) rfl (congrArg eB (validS_f hlt (by rw [hs]; exact sftB_f hlt2 (decide_eq_false (by omega)))).symm)
        | skip
          refine zaf ?_
          refine zab rfl rfl (zaa rfl) (zbw rfl rfl rfl (IntWalk.i64_in _ (by omega))) ?_
          refine zab rfl rfl (zaa rfl) (mv_s (.inl rfl) rfl) ?_
          refine zan ?_
          repeat (first | refine zag ?_ | refine zap ?_ | refine zad ?_ | refine zaq ?_ | refine zac ?_)
          refine ⟨j + 1, ⟨by omega, fun i hi => ?_⟩, by omega, wk_st [] (by decide) trivial ⟨.lo _ (by repeat' (first | exact Lo.s _ | exact zah | refine zae ?_ ?_ | refine zai ?_ | refine Lo.cells ?_ | refine Lo.agg _ ?_ | refine Lo.ref _ ?_ | refine Lo.tup _ ?_ | refine Lo.fn _ _ ?_ | refine Lo.sl _ ?_ | intro _)), .lo _ (by repeat' (first | exact Lo.s _ | exact zah | refine zae ?_ ?_ | refine zai ?_ | refine Lo.cells ?_ | refine Lo.agg _ ?_ | refine Lo.ref _ ?_ | refine Lo.tup _ ?_ | refine Lo.fn _ _ ?_ | refine Lo.sl _ ?_ | intro _)), .lo _ (by repeat' (first | exact Lo.s _ | exact zah | refine zae ?_ ?_ | refine zai ?_ | refine Lo.cells ?_ | refine Lo.agg _ ?_ | refine Lo.ref _ ?_ | refine Lo.tup _ ?_ | refine Lo.fn _ _ ?_ | refine Lo.sl _ ?_ | intro _)), .lo _ (by repeat' (first | exact Lo.s _ | exact zah | refine zae ?_ ?_ | refine zai ?_ | refine Lo.cells ?_ | refine Lo.agg _ ?_ | refine Lo.ref _ ?_ | refine Lo.tup _ ?_ | refine Lo.fn _ _ ?_ | refine Lo.sl _ ?_ | intro _)), .lo _ (by repeat' (first | exact Lo.s _ | exact zah | refine zae ?_ ?_ | refine zai ?_ | refine Lo.cells ?_ | refine Lo.agg _ ?_ | refine Lo.ref _ ?_ | refine Lo.tup _ ?_ | refine Lo.fn _ _ ?_ | refine Lo.sl _ ?_ | intro _)), .lo _ (by repeat' (first | exact Lo.s _ | exact zah | refine zae ?_ ?_ | refine zai ?_ | refine Lo.cells ?_ | refine Lo.agg _ ?_ | refine Lo.ref _ ?_ | refine Lo.tup _ ?_ | refine Lo.fn _ _ ?_ | refine Lo.sl _ ?_ | intro _)), .lo _ (by repeat' (first | exact Lo.s _ | exact zah | refine zae ?_ ?_ | refine zai ?_ | refine Lo.cells ?_ | refine Lo.agg _ ?_ | refine Lo.ref _ ?_ | refine Lo.tup _ ?_ | refine Lo.fn _ _ ?_ | refine Lo.sl _ ?_ | intro _)), .lo _ (by repeat' (first | exact Lo.s _ | exact zah | refine zae ?_ ?_ | refine zai ?_ | refine Lo.cells ?_ | refine Lo.agg _ ?_ | refine Lo.ref _ ?_ | refine Lo.tup _ ?_ | refine Lo.fn _ _ ?_ | refine Lo.sl _ ?_ | intro _)), .lo _ (by repeat' (first | exact Lo.s _ | exact zah | refine zae ?_ ?_ | refine zai ?_ | refine Lo.cells ?_ | refine Lo.agg _ ?_ | refine Lo.ref _ ?_ | refine Lo.tup _ ?_ | refine Lo.fn _ _ ?_ | refine Lo.sl _ ?_ | intro _)), trivial⟩⟩
          by_cases e : i = j
          · subst e; exact decide_eq_true (by omega)
          · exact hper i (by omega)
    · (refine aw_exit ?_; repeat (first | refine ath_x ?_ | refine abl_hit ?_ | refine abl_miss rfl ?_ | refine zaq ?_ | refine zap ?_ | refine zag ?_ | refine zad ?_ | refine zac ?_))
      refine zaf ?_
      refine zab rfl rfl (zaa rfl) (zbw rfl rfl rfl (IntWalk.i64_in _ (by omega))) ?_
      refine zab rfl rfl (zaa rfl) (mv_s (.inl rfl) rfl) ?_
      refine zan ?_
      repeat (first | refine zag ?_ | refine zap ?_ | refine zad ?_ | refine zaq ?_ | refine zac ?_)
      refine ⟨k + 1, ⟨by omega, fun i hi => ?_⟩, by omega, wk_st [] (by decide) trivial ⟨.lo _ (by repeat' (first | exact Lo.s _ | exact zah | refine zae ?_ ?_ | refine zai ?_ | refine Lo.cells ?_ | refine Lo.agg _ ?_ | refine Lo.ref _ ?_ | refine Lo.tup _ ?_ | refine Lo.fn _ _ ?_ | refine Lo.sl _ ?_ | intro _)), .lo _ (by repeat' (first | exact Lo.s _ | exact zah | refine zae ?_ ?_ | refine zai ?_ | refine Lo.cells ?_ | refine Lo.agg _ ?_ | refine Lo.ref _ ?_ | refine Lo.tup _ ?_ | refine Lo.fn _ _ ?_ | refine Lo.sl _ ?_ | intro _)), .lo _ (by repeat' (first | exact Lo.s _ | exact zah | refine zae ?_ ?_ | refine zai ?_ | refine Lo.cells ?_ | refine Lo.agg _ ?_ | refine Lo.ref _ ?_ | refine Lo.tup _ ?_ | refine Lo.fn _ _ ?_ | refine Lo.sl _ ?_ | intro _)), .lo _ (by repeat' (first | exact Lo.s _ | exact zah | refine zae ?_ ?_ | refine zai ?_ | refine Lo.cells ?_ | refine Lo.agg _ ?_ | refine Lo.ref _ ?_ | refine Lo.tup _ ?_ | refine Lo.fn _ _ ?_ | refine Lo.sl _ ?_ | intro _)), .lo _ (by repeat' (first | exact Lo.s _ | exact zah | refine zae ?_ ?_ | refine zai ?_ | refine Lo.cells ?_ | refine Lo.agg _ ?_ | refine Lo.ref _ ?_ | refine Lo.tup _ ?_ | refine Lo.fn _ _ ?_ | refine Lo.sl _ ?_ | intro _)), trivial⟩⟩
      by_cases e : i = k
      · subst e; rw [hs]; exact sftB_t hhs (fun i hi => hper i (by omega))
      · exact hall i (by omega)
  · (refine aw_exit ?_; repeat (first | refine ath_x ?_ | refine abl_hit ?_ | refine abl_miss rfl ?_ | refine zaq ?_ | refine zap ?_ | refine zag ?_ | refine zad ?_ | refine zac ?_))
    refine zaf ?_
    refine zab rfl rfl (zaa rfl) (mv_s (.inr rfl) rfl) ?_
    refine zan ?_
    repeat (first | refine zag ?_ | refine zap ?_ | refine zad ?_ | refine zaq ?_ | refine zac ?_)
    (refine zbt ?_; repeat (first | refine ath_r ?_ | refine abl_r ?_))
    exact post1 (.inr rfl) rfl (congrArg eB (validS_t hh (fun j hj => hall j (by omega))).symm)
end Go.Proofs.Ytmoipmnhgdmkpaa.Aw
end
