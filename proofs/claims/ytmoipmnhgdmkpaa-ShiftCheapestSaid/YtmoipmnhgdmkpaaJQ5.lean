/-
  Texts joined: ShA, ShB, ShC, AwM. Conditions: none.
-/
import Derived.Test.YtmoipmnhgdmkpaaJQ3
import Derived.Test.YtmoipmnhgdmkpaaJQ4
import Derived.Test.YtmoipmnhgdmkpaaJQ2
section
namespace Go.Proofs.Ytmoipmnhgdmkpaa.Aw
set_option linter.unusedSimpArgs false
set_option linter.unusedVariables false
set_option linter.unusedSectionVars false
open Go.RowKit Go.Proofs
variable {P : Program} [IsP P]

theorem all_t {α : Type} [Inhabited α] {p : α → Bool} {l : List α} (h : ∀ j, j < l.length → p (gti l j) = true) : l.all p = true := by
  rw [List.all_eq_true]
  intro a ha
  obtain ⟨j, hj, rfl⟩ := List.mem_iff_getElem.1 ha
  have h2 := gti_get hj
  rw [List.getElem?_eq_getElem hj] at h2
  rw [Option.some.inj h2]; exact h j hj
theorem all_f {α : Type} [Inhabited α] {p : α → Bool} {l : List α} {k : Nat} (hk : k < l.length) (h : p (gti l k) = false) : l.all p = false := by
  rw [List.all_eq_false]
  exact ⟨gti l k, gti_mem hk, by rw [h]; simp⟩
theorem rg_t {n : Nat} {p : Nat → Bool} (h : ∀ j, j < n → p j = true) : (List.range n).all p = true := by
  rw [List.all_eq_true]; intro j hj; exact h j (by simpa using hj)
theorem rg_f {n k : Nat} {p : Nat → Bool} (hk : k < n) (h : p k = false) : (List.range n).all p = false := by
  rw [List.all_eq_false]; exact ⟨k, by simpa using hk, by rw [h]; simp⟩
structure Sft where
  pd : List Int
  cost : Int
  most : Int
instance : Inhabited Sft := ⟨⟨[], 0, 0⟩⟩
def eSh (s : Sft) : AV := .agg [eL eI s.pd, eI s.cost, eI s.most]
theorem lo_Sh (s : Sft) : Lo 0 (eSh s) := .agg _ (zad (zak fun _ => .s _) (zad (.s _) (zad (.s _) zai)))
theorem lo_Int (n : Int) : Lo 0 (eI n) := .s _
theorem indexFS_pf (f : FuncId) (caps : List AV) (p : Sft → Bool) (l : List Sft) (hlo : ∀ a : Sft, Lo 0 (eSh a)) (hlc : Lo 0 (.fn f caps)) (hf : ∀ a ∈ l, Pure P f ([eSh a] ++ caps) (eB (p a))) :
    Pure P 39 [eL eSh l, .fn f caps] (eI (firstAt p l)) := by
  refine aw_fn (by rw [IsP.eq (P := P)]; exact Try.func39) rfl rfl rfl rfl rfl (zad (zak hlo) (zad hlc zai)) (.s _) (by simp only [argF]; rfl) ?_
  refine aw_bdm (d := 0) rfl (fun hmx => ?_)
  unfold maxLen at hmx
  repeat (first | refine zag ?_ | refine zap ?_ | refine zae ?_ | refine zar ?_ | refine zac ?_)
  refine zaf ?_
  refine zab rfl rfl (zaa rfl) (mv_s (.inr rfl) rfl) ?_
  refine zam ?_
  repeat (first | refine zag ?_ | refine zap ?_ | refine zae ?_ | refine zar ?_ | refine zac ?_)
  refine zaf ?_
  first | refine zab rfl rfl (zaa rfl) (za9 (.inl rfl) rfl) ?_ | refine zab rfl rfl (zaa rfl) (zbp (.inl rfl) rfl) ?_ | refine zab rfl rfl (zaa rfl) (mv_s (.inl rfl) rfl) ?_ | refine zab rfl rfl (zaa rfl) (zba (.inl rfl) rfl) ?_
  first | refine zab rfl rfl (zaa rfl) (za3 rfl ts23 rfl) ?_ | refine zab rfl rfl (zaa rfl) (za8 rfl ts23 rfl) ?_ | refine zab rfl rfl (zaa rfl) (za0 rfl ts23 rfl) ?_ | refine zab rfl rfl (zaa rfl) (zbe rfl ts23 rfl) ?_ | refine zab rfl rfl (zaa rfl) (za1 rfl ts23 rfl) ?_
  refine zab rfl rfl (zaa rfl) (mv_s (.inl rfl) rfl) ?_
  refine zam ?_
  repeat (first | refine zag ?_ | refine zap ?_ | refine zae ?_ | refine zar ?_ | refine zac ?_)
  refine aw_loops (S := Nat) (fun k => [(0, eL eSh l), (1, .fn f caps), (7, eI l.length), (8, eI k)]) (fun _ => []) (fun k => k ≤ l.length ∧ ∀ j a, j < k → l[j]? = some a → p a = false) (fun k => l.length - k) 0 (wk_sub _ ⟨rfl, rfl, rfl, rfl, trivial⟩) ⟨by omega, fun j a hj => by omega⟩ (fun k hk => ?_)
  repeat (first | refine zag ?_ | refine zap ?_ | refine zae ?_ | refine zar ?_ | refine zac ?_)
  refine zaf ?_
  refine zab rfl rfl (zaa rfl) (zbh rfl rfl rfl) ?_
  refine zam ?_
  repeat (first | refine zag ?_ | refine zap ?_ | refine zae ?_ | refine zar ?_ | refine zac ?_)
  refine aw_if rfl (fun h => ?_) (fun h => ?_)
  · have hlt : k < l.length := by omega
    repeat (first | refine zag ?_ | refine zap ?_ | refine zae ?_ | refine zar ?_ | refine zac ?_)
    refine zaf ?_
    refine zab rfl rfl (zaa rfl) (mv_s (.inl rfl) rfl) ?_
    refine zab rfl rfl (zaa rfl) (mv_s (.inr rfl) rfl) ?_
    refine zam ?_
    repeat (first | refine zag ?_ | refine zap ?_ | refine zae ?_ | refine zar ?_ | refine zac ?_)
    have hp := hf (gti l k) (gti_mem hlt)
    refine zaf ?_
    first | refine zab rfl rfl (zaa rfl) (mv_fn (.inl rfl) rfl) ?_ | refine zab rfl rfl (zaa rfl) (mv_s (.inl rfl) rfl) ?_
    first | refine zab rfl rfl (zaa rfl) (za9 (.inl rfl) rfl) ?_ | refine zab rfl rfl (zaa rfl) (zbp (.inl rfl) rfl) ?_ | refine zab rfl rfl (zaa rfl) (mv_s (.inl rfl) rfl) ?_ | refine zab rfl rfl (zaa rfl) (zba (.inl rfl) rfl) ?_
    refine zab rfl rfl (zaa rfl) (mv_s (.inl rfl) rfl) ?_
    first | refine zab rfl rfl (zaa rfl) (zaz rfl ts23 ti39 rfl rfl rfl (ix_map (by omega)) rfl) ?_ | refine zab rfl rfl (zaa rfl) (zay rfl ts23 ti39 rfl rfl rfl (by omega)) ?_
    first | refine zab rfl rfl (zaa rfl) (zax rfl ta39 ti39 rfl rfl) ?_ | refine zab rfl rfl (zaa rfl) (za6 rfl ta39 ti39 rfl rfl rfl rfl rfl) ?_ | refine zab rfl rfl (zaa rfl) (zav rfl ta39 ti39 rfl (Nat.le_of_ble_eq_true rfl)) ?_ | refine zab rfl rfl (zaa rfl) (za7 rfl ta39 ti39 rfl rfl rfl rfl (Nat.le_of_ble_eq_true rfl)) ?_
    refine zab rfl rfl (zaa rfl) (za2 rfl rfl (hp) (zat rfl zbl)) ?_
    refine zam ?_
    repeat (first | refine zag ?_ | refine zap ?_ | refine zae ?_ | refine zar ?_ | refine zac ?_)
    refine aw_cond rfl (fun h => ?_) (fun h => ?_)
    · repeat (first | refine zag ?_ | refine zap ?_ | refine zae ?_ | refine zar ?_ | refine zac ?_)
      refine zaf ?_
      refine zab rfl rfl (zaa rfl) (mv_s (.inl rfl) rfl) ?_
      refine zab rfl rfl (zaa rfl) (mv_s (.inr rfl) rfl) ?_
      refine zam ?_
      repeat (first | refine zag ?_ | refine zap ?_ | refine zae ?_ | refine zar ?_ | refine zac ?_)
      (refine zbw ?_; repeat (first | refine ath_r ?_ | refine abl_r ?_))
      exact post1 (.inr rfl) rfl (congrArg eI (firstAt_some (gti_get hlt) h hk.2).symm)
    · repeat (first | refine zag ?_ | refine zap ?_ | refine zae ?_ | refine zar ?_ | refine zac ?_)
      refine zaf ?_
      refine zab rfl rfl (zaa rfl) (does_add rfl rfl rfl (IntWalk.i64_in _ (by omega))) ?_
      refine zab rfl rfl (zaa rfl) (mv_s (.inl rfl) rfl) ?_
      refine zam ?_
      repeat (first | refine zag ?_ | refine zap ?_ | refine zae ?_ | refine zar ?_ | refine zac ?_)
      refine ⟨k + 1, ⟨by omega, fun j a hj ha => ?_⟩, by omega, wk_sub _ ⟨rfl, rfl, rfl, rfl, trivial⟩⟩
      by_cases e : j = k
      · subst e
        rw [gti_get hlt] at ha
        cases ha
        exact h
      · exact hk.2 j a (by omega) ha
  · (refine aw_exit ?_; repeat (first | refine ath_x ?_ | refine abl_hit ?_ | refine abl_miss rfl ?_ | refine zar ?_ | refine zap ?_ | refine zag ?_ | refine zae ?_ | refine zac ?_))
    refine zaf ?_
    refine zab rfl rfl (zaa rfl) (mv_s (.inr rfl) rfl) ?_
    refine zam ?_
    repeat (first | refine zag ?_ | refine zap ?_ | refine zae ?_ | refine zar ?_ | refine zac ?_)
    (refine zbw ?_; repeat (first | refine ath_r ?_ | refine abl_r ?_))
    exact post1 (.inr rfl) rfl (congrArg eI (firstAt_none (fun j a hj ha => hk.2 j a (by omega) ha)).symm)
theorem containsFS_pf (f : FuncId) (caps : List AV) (p : Sft → Bool) (l : List Sft) (hlo : ∀ a : Sft, Lo 0 (eSh a)) (hlc : Lo 0 (.fn f caps)) (hf : ∀ a ∈ l, Pure P f ([eSh a] ++ caps) (eB (p a))) :
    Pure P 20 [eL eSh l, .fn f caps] (eB (l.any p)) := by
  refine aw_fn (by rw [IsP.eq (P := P)]; exact Try.func20) rfl rfl rfl rfl rfl (zad (zak hlo) (zad hlc zai)) (.s _) (by simp only [argF]; rfl) ?_
  have hi := indexFS_pf f caps p l hlo hlc hf
  repeat (first | refine zag ?_ | refine zap ?_ | refine zae ?_ | refine zar ?_ | refine zac ?_)
  refine zaf ?_
  refine zab rfl rfl (zaa rfl) (mv_s (.inr rfl) rfl) ?_
  refine zam ?_
  repeat (first | refine zag ?_ | refine zap ?_ | refine zae ?_ | refine zar ?_ | refine zac ?_)
  refine zaf ?_
  first | refine zab rfl rfl (zaa rfl) (za9 (.inl rfl) rfl) ?_ | refine zab rfl rfl (zaa rfl) (zbp (.inl rfl) rfl) ?_ | refine zab rfl rfl (zaa rfl) (mv_s (.inl rfl) rfl) ?_ | refine zab rfl rfl (zaa rfl) (zba (.inl rfl) rfl) ?_
  first | refine zab rfl rfl (zaa rfl) (mv_fn (.inl rfl) rfl) ?_ | refine zab rfl rfl (zaa rfl) (mv_s (.inl rfl) rfl) ?_
  refine zab rfl rfl (zaa rfl) (za2 rfl rfl (hi) (zat rfl (zat rfl zbl))) ?_
  refine zab rfl rfl (zaa rfl) (does_geq rfl rfl rfl) ?_
  refine zab rfl rfl (zaa rfl) (mv_s (.inr rfl) rfl) ?_
  refine zam ?_
  repeat (first | refine zag ?_ | refine zap ?_ | refine zae ?_ | refine zar ?_ | refine zac ?_)
  (refine zbw ?_; repeat (first | refine ath_r ?_ | refine abl_r ?_))
  exact post1 (.inr rfl) rfl (congrArg eB (firstAt_any p l))
theorem indexFI_pf (f : FuncId) (caps : List AV) (p : Int → Bool) (l : List Int) (hlo : ∀ a : Int, Lo 0 (eI a)) (hlc : Lo 0 (.fn f caps)) (hf : ∀ a ∈ l, Pure P f ([eI a] ++ caps) (eB (p a))) :
    Pure P 49 [eL eI l, .fn f caps] (eI (firstAt p l)) := by
  refine aw_fn (by rw [IsP.eq (P := P)]; exact Try.func49) rfl rfl rfl rfl rfl (zad (zak hlo) (zad hlc zai)) (.s _) (by simp only [argF]; rfl) ?_
  refine aw_bdm (d := 0) rfl (fun hmx => ?_)
  unfold maxLen at hmx
  repeat (first | refine zag ?_ | refine zap ?_ | refine zae ?_ | refine zar ?_ | refine zac ?_)
  refine zaf ?_
  refine zab rfl rfl (zaa rfl) (mv_s (.inr rfl) rfl) ?_
  refine zam ?_
  repeat (first | refine zag ?_ | refine zap ?_ | refine zae ?_ | refine zar ?_ | refine zac ?_)
  refine zaf ?_
  first | refine zab rfl rfl (zaa rfl) (za9 (.inl rfl) rfl) ?_ | refine zab rfl rfl (zaa rfl) (zbp (.inl rfl) rfl) ?_ | refine zab rfl rfl (zaa rfl) (mv_s (.inl rfl) rfl) ?_ | refine zab rfl rfl (zaa rfl) (zba (.inl rfl) rfl) ?_
  first | refine zab rfl rfl (zaa rfl) (za3 rfl ts22 rfl) ?_ | refine zab rfl rfl (zaa rfl) (za8 rfl ts22 rfl) ?_ | refine zab rfl rfl (zaa rfl) (za0 rfl ts22 rfl) ?_ | refine zab rfl rfl (zaa rfl) (zbe rfl ts22 rfl) ?_ | refine zab rfl rfl (zaa rfl) (za1 rfl ts22 rfl) ?_
  refine zab rfl rfl (zaa rfl) (mv_s (.inl rfl) rfl) ?_
  refine zam ?_
  repeat (first | refine zag ?_ | refine zap ?_ | refine zae ?_ | refine zar ?_ | refine zac ?_)
  refine aw_loops (S := Nat) (fun k => [(0, eL eI l), (1, .fn f caps), (7, eI l.length), (8, eI k)]) (fun _ => []) (fun k => k ≤ l.length ∧ ∀ j a, j < k → l[j]? = some a → p a = false) (fun k => l.length - k) 0 (wk_sub _ ⟨rfl, rfl, rfl, rfl, trivial⟩) ⟨by omega, fun j a hj => by omega⟩ (fun k hk => ?_)
  repeat (first | refine zag ?_ | refine zap ?_ | refine zae ?_ | refine zar ?_ | refine zac ?_)
  refine zaf ?_
  refine zab rfl rfl (zaa rfl) (zbh rfl rfl rfl) ?_
  refine zam ?_
  repeat (first | refine zag ?_ | refine zap ?_ | refine zae ?_ | refine zar ?_ | refine zac ?_)
  refine aw_if rfl (fun h => ?_) (fun h => ?_)
  · have hlt : k < l.length := by omega
    repeat (first | refine zag ?_ | refine zap ?_ | refine zae ?_ | refine zar ?_ | refine zac ?_)
    refine zaf ?_
    refine zab rfl rfl (zaa rfl) (mv_s (.inl rfl) rfl) ?_
    refine zab rfl rfl (zaa rfl) (mv_s (.inr rfl) rfl) ?_
    refine zam ?_
    repeat (first | refine zag ?_ | refine zap ?_ | refine zae ?_ | refine zar ?_ | refine zac ?_)
    have hp := hf (gti l k) (gti_mem hlt)
    refine zaf ?_
    first | refine zab rfl rfl (zaa rfl) (mv_fn (.inl rfl) rfl) ?_ | refine zab rfl rfl (zaa rfl) (mv_s (.inl rfl) rfl) ?_
    first | refine zab rfl rfl (zaa rfl) (za9 (.inl rfl) rfl) ?_ | refine zab rfl rfl (zaa rfl) (zbp (.inl rfl) rfl) ?_ | refine zab rfl rfl (zaa rfl) (mv_s (.inl rfl) rfl) ?_ | refine zab rfl rfl (zaa rfl) (zba (.inl rfl) rfl) ?_
    refine zab rfl rfl (zaa rfl) (mv_s (.inl rfl) rfl) ?_
    first | refine zab rfl rfl (zaa rfl) (zaz rfl ts22 ti3 rfl rfl rfl (ix_map (by omega)) rfl) ?_ | refine zab rfl rfl (zaa rfl) (zay rfl ts22 ti3 rfl rfl rfl (by omega)) ?_
    first | refine zab rfl rfl (zaa rfl) (zan rfl ta3 rfl) ?_ | refine zab rfl rfl (zaa rfl) (zas rfl ta3 rfl rfl rfl rfl rfl) ?_
    refine zab rfl rfl (zaa rfl) (za2 rfl rfl (hp) (zat rfl zbl)) ?_
    refine zam ?_
    repeat (first | refine zag ?_ | refine zap ?_ | refine zae ?_ | refine zar ?_ | refine zac ?_)
    refine aw_cond rfl (fun h => ?_) (fun h => ?_)
    · repeat (first | refine zag ?_ | refine zap ?_ | refine zae ?_ | refine zar ?_ | refine zac ?_)
      refine zaf ?_
      refine zab rfl rfl (zaa rfl) (mv_s (.inl rfl) rfl) ?_
      refine zab rfl rfl (zaa rfl) (mv_s (.inr rfl) rfl) ?_
      refine zam ?_
      repeat (first | refine zag ?_ | refine zap ?_ | refine zae ?_ | refine zar ?_ | refine zac ?_)
      (refine zbw ?_; repeat (first | refine ath_r ?_ | refine abl_r ?_))
      exact post1 (.inr rfl) rfl (congrArg eI (firstAt_some (gti_get hlt) h hk.2).symm)
    · repeat (first | refine zag ?_ | refine zap ?_ | refine zae ?_ | refine zar ?_ | refine zac ?_)
      refine zaf ?_
      refine zab rfl rfl (zaa rfl) (does_add rfl rfl rfl (IntWalk.i64_in _ (by omega))) ?_
      refine zab rfl rfl (zaa rfl) (mv_s (.inl rfl) rfl) ?_
      refine zam ?_
      repeat (first | refine zag ?_ | refine zap ?_ | refine zae ?_ | refine zar ?_ | refine zac ?_)
      refine ⟨k + 1, ⟨by omega, fun j a hj ha => ?_⟩, by omega, wk_sub _ ⟨rfl, rfl, rfl, rfl, trivial⟩⟩
      by_cases e : j = k
      · subst e
        rw [gti_get hlt] at ha
        cases ha
        exact h
      · exact hk.2 j a (by omega) ha
  · (refine aw_exit ?_; repeat (first | refine ath_x ?_ | refine abl_hit ?_ | refine abl_miss rfl ?_ | refine zar ?_ | refine zap ?_ | refine zag ?_ | refine zae ?_ | refine zac ?_))
    refine zaf ?_
    refine zab rfl rfl (zaa rfl) (mv_s (.inr rfl) rfl) ?_
    refine zam ?_
    repeat (first | refine zag ?_ | refine zap ?_ | refine zae ?_ | refine zar ?_ | refine zac ?_)
    (refine zbw ?_; repeat (first | refine ath_r ?_ | refine abl_r ?_))
    exact post1 (.inr rfl) rfl (congrArg eI (firstAt_none (fun j a hj ha => hk.2 j a (by omega) ha)).symm)
theorem containsFI_pf (f : FuncId) (caps : List AV) (p : Int → Bool) (l : List Int) (hlo : ∀ a : Int, Lo 0 (eI a)) (hlc : Lo 0 (.fn f caps)) (hf : ∀ a ∈ l, Pure P f ([eI a] ++ caps) (eB (p a))) :
    Pure P 34 [eL eI l, .fn f caps] (eB (l.any p)) := by
  refine aw_fn (by rw [IsP.eq (P := P)]; exact Try.func34) rfl rfl rfl rfl rfl (zad (zak hlo) (zad hlc zai)) (.s _) (by simp only [argF]; rfl) ?_
  have hi := indexFI_pf f caps p l hlo hlc hf
  repeat (first | refine zag ?_ | refine zap ?_ | refine zae ?_ | refine zar ?_ | refine zac ?_)
  refine zaf ?_
  refine zab rfl rfl (zaa rfl) (mv_s (.inr rfl) rfl) ?_
  refine zam ?_
  repeat (first | refine zag ?_ | refine zap ?_ | refine zae ?_ | refine zar ?_ | refine zac ?_)
  refine zaf ?_
  first | refine zab rfl rfl (zaa rfl) (za9 (.inl rfl) rfl) ?_ | refine zab rfl rfl (zaa rfl) (zbp (.inl rfl) rfl) ?_ | refine zab rfl rfl (zaa rfl) (mv_s (.inl rfl) rfl) ?_ | refine zab rfl rfl (zaa rfl) (zba (.inl rfl) rfl) ?_
  first | refine zab rfl rfl (zaa rfl) (mv_fn (.inl rfl) rfl) ?_ | refine zab rfl rfl (zaa rfl) (mv_s (.inl rfl) rfl) ?_
  refine zab rfl rfl (zaa rfl) (za2 rfl rfl (hi) (zat rfl (zat rfl zbl))) ?_
  refine zab rfl rfl (zaa rfl) (does_geq rfl rfl rfl) ?_
  refine zab rfl rfl (zaa rfl) (mv_s (.inr rfl) rfl) ?_
  refine zam ?_
  repeat (first | refine zag ?_ | refine zap ?_ | refine zae ?_ | refine zar ?_ | refine zac ?_)
  (refine zbw ?_; repeat (first | refine ath_r ?_ | refine abl_r ?_))
  exact post1 (.inr rfl) rfl (congrArg eB (firstAt_any p l))
def bigS (s : Sft) : Bool := decide (30 < (s.pd.length : Int))
theorem few1_pf (s : Sft) : Pure P 21 [eSh s] (eB (bigS s)) := by
  refine aw_fn (by rw [IsP.eq (P := P)]; exact Try.func21) rfl rfl rfl rfl rfl (by repeat' (first | exact Lo.s _ | exact zai | refine zad ?_ ?_ | refine zak ?_ | refine Lo.cells ?_ | refine Lo.agg _ ?_ | refine Lo.ref _ ?_ | refine Lo.tup _ ?_ | refine Lo.fn _ _ ?_ | refine Lo.sl _ ?_ | intro _)) (by repeat' (first | exact Lo.s _ | exact zai | refine zad ?_ ?_ | refine zak ?_ | refine Lo.cells ?_ | refine Lo.agg _ ?_ | refine Lo.ref _ ?_ | refine Lo.tup _ ?_ | refine Lo.fn _ _ ?_ | refine Lo.sl _ ?_ | intro _)) (by simp only [argF]; rfl) ?_
  repeat (first | refine zag ?_ | refine zap ?_ | refine zae ?_ | refine zar ?_ | refine zac ?_)
  refine zaf ?_
  refine zab rfl rfl (zaa rfl) (does_box rfl rfl rfl rfl) ?_
  refine zbo (wk_froz (id := 0) rfl) (zbo (wk_ref (d := 1) rfl rfl rfl) ?_)
  refine zab rfl rfl (zaa rfl) (mv_s (.inr rfl) rfl) ?_
  refine zam ?_
  repeat (first | refine zag ?_ | refine zap ?_ | refine zae ?_ | refine zar ?_ | refine zac ?_)
  refine zaf ?_
  first | refine zab rfl rfl (zaa rfl) (zao rfl tf39_0 (by decide) rfl) ?_ | refine zab rfl rfl (zaa rfl) (zal rfl tf39_0 (by decide) rfl) ?_
  first | refine zab rfl rfl (zaa rfl) (zan rfl ta22 rfl) ?_ | refine zab rfl rfl (zaa rfl) (zas rfl ta22 rfl rfl rfl rfl rfl) ?_
  first | refine zab rfl rfl (zaa rfl) (za3 rfl ts22 rfl) ?_ | refine zab rfl rfl (zaa rfl) (za8 rfl ts22 rfl) ?_ | refine zab rfl rfl (zaa rfl) (za0 rfl ts22 rfl) ?_ | refine zab rfl rfl (zaa rfl) (zbe rfl ts22 rfl) ?_ | refine zab rfl rfl (zaa rfl) (za1 rfl ts22 rfl) ?_
  refine zab rfl rfl (zaa rfl) (does_gtr rfl rfl rfl) ?_
  refine zab rfl rfl (zaa rfl) (mv_s (.inr rfl) rfl) ?_
  refine zam ?_
  repeat (first | refine zag ?_ | refine zap ?_ | refine zae ?_ | refine zar ?_ | refine zac ?_)
  (refine zbw ?_; repeat (first | refine ath_r ?_ | refine abl_r ?_))
  exact post1 (.inr rfl) rfl rfl
def fewB (d : List Int) (l : List Sft) : Bool := decide ((d.length : Int) ≤ 30) && (decide ((l.length : Int) ≤ 15) && !l.any bigS)
theorem few_pf (d : List Int) (l : List Sft) : Pure P 6 [eL eI d, eL eSh l] (eB (fewB d l)) := by
  have hc := containsFS_pf (P := P) 21 [] bigS l lo_Sh (.fn _ _ (by simp)) (fun a _ => few1_pf a)
  have hd : fewB d l = (decide ((d.length : Int) ≤ 30) && (decide ((l.length : Int) ≤ 15) && !l.any bigS)) := rfl
  generalize l.any bigS = z at hc hd
  generalize fewB d l = R at hd ⊢
  refine aw_fn (by rw [IsP.eq (P := P)]; exact Try.func6) rfl rfl rfl rfl rfl (by repeat' (first | exact Lo.s _ | exact zai | refine zad ?_ ?_ | refine zak ?_ | refine Lo.cells ?_ | refine Lo.agg _ ?_ | refine Lo.ref _ ?_ | refine Lo.tup _ ?_ | refine Lo.fn _ _ ?_ | refine Lo.sl _ ?_ | intro _)) (by repeat' (first | exact Lo.s _ | exact zai | refine zad ?_ ?_ | refine zak ?_ | refine Lo.cells ?_ | refine Lo.agg _ ?_ | refine Lo.ref _ ?_ | refine Lo.tup _ ?_ | refine Lo.fn _ _ ?_ | refine Lo.sl _ ?_ | intro _)) (by simp only [argF]; rfl) ?_
  repeat (first | refine zag ?_ | refine zap ?_ | refine zae ?_ | refine zar ?_ | refine zac ?_)
  refine zaf ?_
  refine zab rfl rfl (zaa rfl) (mv_s (.inr rfl) rfl) ?_
  refine zam ?_
  repeat (first | refine zag ?_ | refine zap ?_ | refine zae ?_ | refine zar ?_ | refine zac ?_)
  all_goals refine zaf ?_
  all_goals (first | refine zab rfl rfl (zaa rfl) (za9 (.inl rfl) rfl) ?_ | refine zab rfl rfl (zaa rfl) (zbp (.inl rfl) rfl) ?_ | refine zab rfl rfl (zaa rfl) (mv_s (.inl rfl) rfl) ?_ | refine zab rfl rfl (zaa rfl) (zba (.inl rfl) rfl) ?_)
  all_goals (first | refine zab rfl rfl (zaa rfl) (za3 rfl ts22 rfl) ?_ | refine zab rfl rfl (zaa rfl) (za8 rfl ts22 rfl) ?_ | refine zab rfl rfl (zaa rfl) (za0 rfl ts22 rfl) ?_ | refine zab rfl rfl (zaa rfl) (zbe rfl ts22 rfl) ?_ | refine zab rfl rfl (zaa rfl) (za1 rfl ts22 rfl) ?_)
  all_goals (first | refine zbm rfl rfl (zaa rfl) (does_leq rfl rfl rfl) (fun h7 => ?_) (fun h7 => ?_) | refine zbn rfl rfl (zaa rfl) (does_leq rfl rfl rfl) (fun h7 => ?_) (fun h7 => ?_))
  all_goals refine zab rfl rfl (zaa rfl) (mv_s (.inl rfl) rfl) ?_
  all_goals (first | refine zab rfl rfl (zah rfl rfl rfl) (za9 (.inl rfl) rfl) ?_ | refine zab rfl rfl (zah rfl rfl rfl) (zbp (.inl rfl) rfl) ?_ | refine zab rfl rfl (zah rfl rfl rfl) (mv_s (.inl rfl) rfl) ?_ | refine zab rfl rfl (zah rfl rfl rfl) (zba (.inl rfl) rfl) ?_ | refine zaj rfl rfl (runs_nt rfl rfl rfl) ?_ | refine zaj rfl rfl (zau rfl rfl rfl) ?_)
  all_goals (first | refine zab rfl rfl (zah rfl rfl rfl) (za3 rfl ts23 rfl) ?_ | refine zab rfl rfl (zah rfl rfl rfl) (za8 rfl ts23 rfl) ?_ | refine zab rfl rfl (zah rfl rfl rfl) (za0 rfl ts23 rfl) ?_ | refine zab rfl rfl (zah rfl rfl rfl) (zbe rfl ts23 rfl) ?_ | refine zab rfl rfl (zah rfl rfl rfl) (za1 rfl ts23 rfl) ?_ | refine zaj rfl rfl (runs_nt rfl rfl rfl) ?_ | refine zaj rfl rfl (zau rfl rfl rfl) ?_)
  all_goals (first | refine zbm rfl rfl (zah rfl rfl rfl) (does_leq rfl rfl rfl) (fun h11 => ?_) (fun h11 => ?_) | refine zbn rfl rfl (zah rfl rfl rfl) (does_leq rfl rfl rfl) (fun h11 => ?_) (fun h11 => ?_) | refine zaj rfl rfl (runs_nt rfl rfl rfl) ?_ | refine zaj rfl rfl (zau rfl rfl rfl) ?_)
  all_goals (first | refine zab rfl rfl (zaa rfl) (pickT_s rfl rfl rfl) ?_ | refine zab rfl rfl (zaa rfl) (pickF_s rfl rfl rfl) ?_ | refine zab rfl rfl (zaa rfl) (zbi rfl rfl rfl) ?_ | refine zab rfl rfl (zaa rfl) (zbj rfl rfl rfl) ?_)
  all_goals refine zab rfl rfl (zaa rfl) (mv_s (.inl rfl) rfl) ?_
  all_goals (first | refine zab rfl rfl (zah rfl rfl rfl) (za9 (.inl rfl) rfl) ?_ | refine zab rfl rfl (zah rfl rfl rfl) (zbp (.inl rfl) rfl) ?_ | refine zab rfl rfl (zah rfl rfl rfl) (mv_s (.inl rfl) rfl) ?_ | refine zab rfl rfl (zah rfl rfl rfl) (zba (.inl rfl) rfl) ?_ | refine zaj rfl rfl (runs_nt rfl rfl rfl) ?_ | refine zaj rfl rfl (zau rfl rfl rfl) ?_)
  all_goals (first | refine zbm rfl rfl (zah rfl rfl rfl) (za2 rfl rfl (hc) (zat rfl (zat rfl zbl))) (fun h15 => ?_) (fun h15 => ?_) | refine zbn rfl rfl (zah rfl rfl rfl) (za2 rfl rfl (hc) (zat rfl (zat rfl zbl))) (fun h15 => ?_) (fun h15 => ?_) | refine zaj rfl rfl (runs_nt rfl rfl rfl) ?_ | refine zaj rfl rfl (zau rfl rfl rfl) ?_)
  all_goals (first | refine zab rfl rfl (zah rfl rfl rfl) (does_notp rfl rfl) ?_ | refine zab rfl rfl (zah rfl rfl rfl) (does_not rfl rfl) ?_ | refine zaj rfl rfl (runs_nt rfl rfl rfl) ?_ | refine zaj rfl rfl (zau rfl rfl rfl) ?_)
  all_goals (first | refine zab rfl rfl (zaa rfl) (pickT_s rfl rfl rfl) ?_ | refine zab rfl rfl (zaa rfl) (pickF_s rfl rfl rfl) ?_ | refine zab rfl rfl (zaa rfl) (zbi rfl rfl rfl) ?_ | refine zab rfl rfl (zaa rfl) (zbj rfl rfl rfl) ?_)
  all_goals refine zab rfl rfl (zaa rfl) (mv_s (.inr rfl) rfl) ?_
  all_goals refine zam ?_
  all_goals (repeat (first | refine zag ?_ | refine zap ?_ | refine zae ?_ | refine zar ?_ | refine zac ?_))
  all_goals (refine zbw ?_; repeat (first | refine ath_r ?_ | refine abl_r ?_))
  all_goals exact post1 (.inr rfl) rfl (congrArg eB (by
    rw [hd]
    first
    | (rw [decide_eq_false (show ¬ ((d.length : Int) ≤ 30) by omega)]; rfl)
    | (rw [decide_eq_true (show ((d.length : Int) ≤ 30) by omega), decide_eq_false (show ¬ ((l.length : Int) ≤ 15) by omega)]; rfl)
    | (rw [decide_eq_true (show ((d.length : Int) ≤ 30) by omega), decide_eq_true (show ((l.length : Int) ≤ 15) by omega), h15]; rfl)))
def needB (n : Int) : Bool := decide (0 ≤ n ∧ n ≤ 100)
theorem svalid1_pf (n : Int) : Pure P 35 [eI n] (eB (!needB n)) := by
  refine aw_fn (by rw [IsP.eq (P := P)]; exact Try.func35) rfl rfl rfl rfl rfl (by repeat' (first | exact Lo.s _ | exact zai | refine zad ?_ ?_ | refine zak ?_ | refine Lo.cells ?_ | refine Lo.agg _ ?_ | refine Lo.ref _ ?_ | refine Lo.tup _ ?_ | refine Lo.fn _ _ ?_ | refine Lo.sl _ ?_ | intro _)) (by repeat' (first | exact Lo.s _ | exact zai | refine zad ?_ ?_ | refine zak ?_ | refine Lo.cells ?_ | refine Lo.agg _ ?_ | refine Lo.ref _ ?_ | refine Lo.tup _ ?_ | refine Lo.fn _ _ ?_ | refine Lo.sl _ ?_ | intro _)) (by simp only [argF]; rfl) ?_
  repeat (first | refine zag ?_ | refine zap ?_ | refine zae ?_ | refine zar ?_ | refine zac ?_)
  refine zaf ?_
  refine zab rfl rfl (zaa rfl) (mv_s (.inr rfl) rfl) ?_
  refine zam ?_
  repeat (first | refine zag ?_ | refine zap ?_ | refine zae ?_ | refine zar ?_ | refine zac ?_)
  all_goals refine zaf ?_
  all_goals refine zab rfl rfl (zaa rfl) (mv_s (.inl rfl) rfl) ?_
  all_goals (first | refine zbm rfl rfl (zaa rfl) (zbh rfl rfl rfl) (fun h4 => ?_) (fun h4 => ?_) | refine zbn rfl rfl (zaa rfl) (zbh rfl rfl rfl) (fun h4 => ?_) (fun h4 => ?_))
  all_goals refine zab rfl rfl (zaa rfl) (mv_s (.inl rfl) rfl) ?_
  all_goals (first | refine zab rfl rfl (zah rfl rfl rfl) (mv_s (.inl rfl) rfl) ?_ | refine zaj rfl rfl (zaw rfl rfl rfl) ?_ | refine zaj rfl rfl (zau rfl rfl rfl) ?_)
  all_goals (first | refine zbm rfl rfl (zah rfl rfl rfl) (does_gtr rfl rfl rfl) (fun h7 => ?_) (fun h7 => ?_) | refine zbn rfl rfl (zah rfl rfl rfl) (does_gtr rfl rfl rfl) (fun h7 => ?_) (fun h7 => ?_) | refine zaj rfl rfl (zaw rfl rfl rfl) ?_ | refine zaj rfl rfl (zau rfl rfl rfl) ?_)
  all_goals (first | refine zab rfl rfl (zaa rfl) (pickT_s rfl rfl rfl) ?_ | refine zab rfl rfl (zaa rfl) (pickF_s rfl rfl rfl) ?_ | refine zab rfl rfl (zaa rfl) (zbi rfl rfl rfl) ?_ | refine zab rfl rfl (zaa rfl) (zbj rfl rfl rfl) ?_)
  all_goals refine zab rfl rfl (zaa rfl) (mv_s (.inr rfl) rfl) ?_
  all_goals refine zam ?_
  all_goals (repeat (first | refine zag ?_ | refine zap ?_ | refine zae ?_ | refine zar ?_ | refine zac ?_))
  all_goals (refine zbw ?_; repeat (first | refine ath_r ?_ | refine abl_r ?_))
  all_goals exact post1 (.inr rfl) rfl (congrArg eB (by
    unfold needB
    first
    | (rw [decide_eq_true (by omega)]; rfl)
    | (rw [decide_eq_false (by omega)]; rfl)))
/-- period k is one of n, and behind the period before it -/
def perB (n : Nat) (l : List Int) (k : Nat) : Bool := decide (0 ≤ gti l k ∧ gti l k < (n : Int) ∧ (0 < k → gti l (k - 1) < gti l k))
def headS (s : Sft) : Bool := decide (s.pd.length ≠ 0 ∧ 0 ≤ s.cost ∧ s.cost ≤ 1000 ∧ 0 ≤ s.most ∧ s.most ≤ 20)
def sftB (n : Nat) (s : Sft) : Bool := headS s && (List.range s.pd.length).all (perB n s.pd)
def headV (d : List Int) (l : List Sft) : Bool := decide (1 ≤ d.length ∧ d.length ≤ 24 ∧ l.length ≤ 12) && d.all needB
def validS (d : List Int) (l : List Sft) : Bool := headV d l && l.all (sftB d.length)
theorem headV_t {d : List Int} {l : List Sft} (h : 1 ≤ d.length ∧ d.length ≤ 24 ∧ l.length ≤ 12) (h2 : d.all needB = true) : headV d l = true := by
  unfold headV; rw [decide_eq_true h, h2]; rfl
theorem headV_f {d : List Int} {l : List Sft} (h : ¬ (1 ≤ d.length ∧ d.length ≤ 24 ∧ l.length ≤ 12)) : validS d l = false := by
  unfold validS headV; rw [decide_eq_false h]; rfl
theorem headV_f2 {d : List Int} {l : List Sft} (h : d.all needB = false) : validS d l = false := by
  unfold validS headV; rw [h, Bool.and_false]; rfl
theorem validS_f {d : List Int} {l : List Sft} {k : Nat} (hk : k < l.length) (h : sftB d.length (gti l k) = false) : validS d l = false := by
  unfold validS; rw [all_f hk h, Bool.and_false]
theorem validS_t {d : List Int} {l : List Sft} (h : headV d l = true) (h2 : ∀ j, j < l.length → sftB d.length (gti l j) = true) : validS d l = true := by
  unfold validS; rw [h, all_t h2]; rfl
theorem sftB_h {n : Nat} {s : Sft} (h : headS s = false) : sftB n s = false := by unfold sftB; rw [h]; rfl
theorem sftB_f {n k : Nat} {s : Sft} (hk : k < s.pd.length) (h : perB n s.pd k = false) : sftB n s = false := by unfold sftB; rw [rg_f hk h, Bool.and_false]
theorem sftB_t {n : Nat} {s : Sft} (h : headS s = true) (h2 : ∀ j, j < s.pd.length → perB n s.pd j = true) : sftB n s = true := by unfold sftB; rw [h, rg_t h2]; rfl
theorem validS_iff {d : List Int} {l : List Sft} (h : validS d l = true) : (1 ≤ d.length ∧ d.length ≤ 24 ∧ l.length ≤ 12) ∧ (∀ k, k < d.length → 0 ≤ gti d k ∧ gti d k ≤ 100) ∧ ∀ i, i < l.length → ((gti l i).pd.length ≠ 0 ∧ 0 ≤ (gti l i).cost ∧ (gti l i).cost ≤ 1000 ∧ 0 ≤ (gti l i).most ∧ (gti l i).most ≤ 20) ∧ ∀ k, k < (gti l i).pd.length → 0 ≤ gti (gti l i).pd k ∧ gti (gti l i).pd k < (d.length : Int) ∧ (0 < k → gti (gti l i).pd (k - 1) < gti (gti l i).pd k) := by
  unfold validS headV at h
  rw [Bool.and_eq_true, Bool.and_eq_true, decide_eq_true_eq] at h
  refine ⟨h.1.1, fun k hk => ?_, fun i hi => ?_⟩
  · have := List.all_eq_true.1 h.1.2 _ (gti_mem hk)
    unfold needB at this
    rwa [decide_eq_true_eq] at this
  · have h1 := List.all_eq_true.1 h.2 _ (gti_mem hi)
    unfold sftB headS at h1
    rw [Bool.and_eq_true, decide_eq_true_eq] at h1
    refine ⟨h1.1, fun k hk => ?_⟩
    have h2 := List.all_eq_true.1 h1.2 k (by simpa using hk)
    unfold perB at h2
    rwa [decide_eq_true_eq] at h2
set_option maxHeartbeats 1000000 in
theorem sValid_pf54 (d : List Int) (l : List Sft) : Pure P 15 [eL eI d, eL eSh l] (eB (validS d l)) := by
  have hc := containsFI_pf (P := P) 35 [] (fun n => !needB n) d lo_Int (.fn _ _ (by simp)) (fun a _ => svalid1_pf a)
  have hda : d.all needB = !(d.any fun n => !needB n) := by rw [List.all_eq_not_any_not]
  generalize (d.any fun n => !needB n) = z at hc hda
  refine aw_fn (by rw [IsP.eq (P := P)]; exact Try.func15) rfl rfl rfl rfl rfl (by repeat' (first | exact Lo.s _ | exact zai | refine zad ?_ ?_ | refine zak ?_ | refine Lo.cells ?_ | refine Lo.agg _ ?_ | refine Lo.ref _ ?_ | refine Lo.tup _ ?_ | refine Lo.fn _ _ ?_ | refine Lo.sl _ ?_ | intro _)) (by repeat' (first | exact Lo.s _ | exact zai | refine zad ?_ ?_ | refine zak ?_ | refine Lo.cells ?_ | refine Lo.agg _ ?_ | refine Lo.ref _ ?_ | refine Lo.tup _ ?_ | refine Lo.fn _ _ ?_ | refine Lo.sl _ ?_ | intro _)) (by simp only [argF]; rfl) ?_
  repeat (first | refine zag ?_ | refine zap ?_ | refine zae ?_ | refine zar ?_ | refine zac ?_)
  refine aw_bdm (d := 0) rfl (fun hm1 => ?_)
  refine aw_bdm (d := 1) rfl (fun hm2 => ?_)
  unfold maxLen at hm1 hm2
  refine zaf ?_
  refine zab rfl rfl (zaa rfl) (mv_s (.inr rfl) rfl) ?_
  refine zam ?_
  repeat (first | refine zag ?_ | refine zap ?_ | refine zae ?_ | refine zar ?_ | refine zac ?_)
  all_goals refine zaf ?_
  all_goals (first | refine zab rfl rfl (zaa rfl) (za9 (.inl rfl) rfl) ?_ | refine zab rfl rfl (zaa rfl) (zbp (.inl rfl) rfl) ?_ | refine zab rfl rfl (zaa rfl) (mv_s (.inl rfl) rfl) ?_ | refine zab rfl rfl (zaa rfl) (zba (.inl rfl) rfl) ?_)
  all_goals (first | refine zab rfl rfl (zaa rfl) (za3 rfl ts22 rfl) ?_ | refine zab rfl rfl (zaa rfl) (za8 rfl ts22 rfl) ?_ | refine zab rfl rfl (zaa rfl) (za0 rfl ts22 rfl) ?_ | refine zab rfl rfl (zaa rfl) (zbe rfl ts22 rfl) ?_ | refine zab rfl rfl (zaa rfl) (za1 rfl ts22 rfl) ?_)
  all_goals (first | refine zbm rfl rfl (zaa rfl) (zbh rfl rfl rfl) (fun h11 => ?_) (fun h11 => ?_) | refine zbn rfl rfl (zaa rfl) (zbh rfl rfl rfl) (fun h11 => ?_) (fun h11 => ?_))
  all_goals refine zab rfl rfl (zaa rfl) (mv_s (.inl rfl) rfl) ?_
  all_goals (first | refine zab rfl rfl (zah rfl rfl rfl) (za9 (.inl rfl) rfl) ?_ | refine zab rfl rfl (zah rfl rfl rfl) (zbp (.inl rfl) rfl) ?_ | refine zab rfl rfl (zah rfl rfl rfl) (mv_s (.inl rfl) rfl) ?_ | refine zab rfl rfl (zah rfl rfl rfl) (zba (.inl rfl) rfl) ?_ | refine zaj rfl rfl (zaw rfl rfl rfl) ?_ | refine zaj rfl rfl (zau rfl rfl rfl) ?_)
  all_goals (first | refine zab rfl rfl (zah rfl rfl rfl) (za3 rfl ts22 rfl) ?_ | refine zab rfl rfl (zah rfl rfl rfl) (za8 rfl ts22 rfl) ?_ | refine zab rfl rfl (zah rfl rfl rfl) (za0 rfl ts22 rfl) ?_ | refine zab rfl rfl (zah rfl rfl rfl) (zbe rfl ts22 rfl) ?_ | refine zab rfl rfl (zah rfl rfl rfl) (za1 rfl ts22 rfl) ?_ | refine zaj rfl rfl (zaw rfl rfl rfl) ?_ | refine zaj rfl rfl (zau rfl rfl rfl) ?_)
  all_goals (first | refine zbm rfl rfl (zah rfl rfl rfl) (does_gtr rfl rfl rfl) (fun h15 => ?_) (fun h15 => ?_) | refine zbn rfl rfl (zah rfl rfl rfl) (does_gtr rfl rfl rfl) (fun h15 => ?_) (fun h15 => ?_) | refine zaj rfl rfl (zaw rfl rfl rfl) ?_ | refine zaj rfl rfl (zau rfl rfl rfl) ?_)
  all_goals (first | refine zab rfl rfl (zaa rfl) (pickT_s rfl rfl rfl) ?_ | refine zab rfl rfl (zaa rfl) (pickF_s rfl rfl rfl) ?_ | refine zab rfl rfl (zaa rfl) (zbi rfl rfl rfl) ?_ | refine zab rfl rfl (zaa rfl) (zbj rfl rfl rfl) ?_)
  all_goals refine zab rfl rfl (zaa rfl) (mv_s (.inl rfl) rfl) ?_
  all_goals (first | refine zab rfl rfl (zah rfl rfl rfl) (za9 (.inl rfl) rfl) ?_ | refine zab rfl rfl (zah rfl rfl rfl) (zbp (.inl rfl) rfl) ?_ | refine zab rfl rfl (zah rfl rfl rfl) (mv_s (.inl rfl) rfl) ?_ | refine zab rfl rfl (zah rfl rfl rfl) (zba (.inl rfl) rfl) ?_ | refine zaj rfl rfl (zaw rfl rfl rfl) ?_ | refine zaj rfl rfl (zau rfl rfl rfl) ?_)
  all_goals (first | refine zab rfl rfl (zah rfl rfl rfl) (za3 rfl ts23 rfl) ?_ | refine zab rfl rfl (zah rfl rfl rfl) (za8 rfl ts23 rfl) ?_ | refine zab rfl rfl (zah rfl rfl rfl) (za0 rfl ts23 rfl) ?_ | refine zab rfl rfl (zah rfl rfl rfl) (zbe rfl ts23 rfl) ?_ | refine zab rfl rfl (zah rfl rfl rfl) (za1 rfl ts23 rfl) ?_ | refine zaj rfl rfl (zaw rfl rfl rfl) ?_ | refine zaj rfl rfl (zau rfl rfl rfl) ?_)
  all_goals (first | refine zbm rfl rfl (zah rfl rfl rfl) (does_gtr rfl rfl rfl) (fun h20 => ?_) (fun h20 => ?_) | refine zbn rfl rfl (zah rfl rfl rfl) (does_gtr rfl rfl rfl) (fun h20 => ?_) (fun h20 => ?_) | refine zaj rfl rfl (zaw rfl rfl rfl) ?_ | refine zaj rfl rfl (zau rfl rfl rfl) ?_)
  all_goals (first | refine zab rfl rfl (zaa rfl) (pickT_s rfl rfl rfl) ?_ | refine zab rfl rfl (zaa rfl) (pickF_s rfl rfl rfl) ?_ | refine zab rfl rfl (zaa rfl) (zbi rfl rfl rfl) ?_ | refine zab rfl rfl (zaa rfl) (zbj rfl rfl rfl) ?_)
  all_goals refine zab rfl rfl (zaa rfl) (mv_s (.inl rfl) rfl) ?_
  all_goals (first | refine zab rfl rfl (zah rfl rfl rfl) (za9 (.inl rfl) rfl) ?_ | refine zab rfl rfl (zah rfl rfl rfl) (zbp (.inl rfl) rfl) ?_ | refine zab rfl rfl (zah rfl rfl rfl) (mv_s (.inl rfl) rfl) ?_ | refine zab rfl rfl (zah rfl rfl rfl) (zba (.inl rfl) rfl) ?_ | refine zaj rfl rfl (zaw rfl rfl rfl) ?_ | refine zaj rfl rfl (zau rfl rfl rfl) ?_)
  all_goals (first | refine zbm rfl rfl (zah rfl rfl rfl) (za2 rfl rfl (hc) (zat rfl (zat rfl zbl))) (fun h24 => ?_) (fun h24 => ?_) | refine zbn rfl rfl (zah rfl rfl rfl) (za2 rfl rfl (hc) (zat rfl (zat rfl zbl))) (fun h24 => ?_) (fun h24 => ?_) | refine zaj rfl rfl (zaw rfl rfl rfl) ?_ | refine zaj rfl rfl (zau rfl rfl rfl) ?_)
  all_goals (first | refine zab rfl rfl (zaa rfl) (pickT_s rfl rfl rfl) ?_ | refine zab rfl rfl (zaa rfl) (pickF_s rfl rfl rfl) ?_ | refine zab rfl rfl (zaa rfl) (zbi rfl rfl rfl) ?_ | refine zab rfl rfl (zaa rfl) (zbj rfl rfl rfl) ?_)
  all_goals refine zam ?_
  all_goals (repeat (first | refine zag ?_ | refine zap ?_ | refine zae ?_ | refine zar ?_ | refine zac ?_))
  all_goals (first | refine zbv rfl ?_ | refine zbr rfl ?_)
  all_goals (repeat (first | refine zag ?_ | refine zap ?_ | refine zae ?_ | refine zar ?_ | refine zac ?_))
  all_goals first
    | skip
      refine zaf ?_
      refine zab rfl rfl (zaa rfl) (mv_s (.inr rfl) rfl) ?_
      refine zam ?_
      repeat (first | refine zag ?_ | refine zap ?_ | refine zae ?_ | refine zar ?_ | refine zac ?_)
      (refine zbw ?_; repeat (first | refine ath_r ?_ | refine abl_r ?_))
      exact post1 (.inr rfl) rfl (congrArg eB (by
        first
        | (rw [headV_f (by omega)])
        | (rw [headV_f2 (by rw [hda, h24]; rfl)])))
    | skip
  have hh : headV d l = true := headV_t (by omega) (by rw [hda, h24]; rfl)
  refine zaf ?_
  first | refine zab rfl rfl (zaa rfl) (za9 (.inl rfl) rfl) ?_ | refine zab rfl rfl (zaa rfl) (zbp (.inl rfl) rfl) ?_ | refine zab rfl rfl (zaa rfl) (mv_s (.inl rfl) rfl) ?_ | refine zab rfl rfl (zaa rfl) (zba (.inl rfl) rfl) ?_
  first | refine zab rfl rfl (zaa rfl) (za3 rfl ts23 rfl) ?_ | refine zab rfl rfl (zaa rfl) (za8 rfl ts23 rfl) ?_ | refine zab rfl rfl (zaa rfl) (za0 rfl ts23 rfl) ?_ | refine zab rfl rfl (zaa rfl) (zbe rfl ts23 rfl) ?_ | refine zab rfl rfl (zaa rfl) (za1 rfl ts23 rfl) ?_
  refine zab rfl rfl (zaa rfl) (mv_s (.inl rfl) rfl) ?_
  refine zam ?_
  repeat (first | refine zag ?_ | refine zap ?_ | refine zae ?_ | refine zar ?_ | refine zac ?_)
  refine aw_loops (S := Nat) (fun k => [(0, eL eI d), (1, eL eSh l), (26, eL eSh l), (27, eI l.length), (28, eI k)]) (fun _ => []) (fun k => k ≤ l.length ∧ ∀ j, j < k → sftB d.length (gti l j) = true) (fun k => l.length - k) 0 (wk_st [] (by decide) trivial ⟨.lo _ (by repeat' (first | exact Lo.s _ | exact zai | refine zad ?_ ?_ | refine zak ?_ | refine Lo.cells ?_ | refine Lo.agg _ ?_ | refine Lo.ref _ ?_ | refine Lo.tup _ ?_ | refine Lo.fn _ _ ?_ | refine Lo.sl _ ?_ | intro _)), .lo _ (by repeat' (first | exact Lo.s _ | exact zai | refine zad ?_ ?_ | refine zak ?_ | refine Lo.cells ?_ | refine Lo.agg _ ?_ | refine Lo.ref _ ?_ | refine Lo.tup _ ?_ | refine Lo.fn _ _ ?_ | refine Lo.sl _ ?_ | intro _)), .lo _ (by repeat' (first | exact Lo.s _ | exact zai | refine zad ?_ ?_ | refine zak ?_ | refine Lo.cells ?_ | refine Lo.agg _ ?_ | refine Lo.ref _ ?_ | refine Lo.tup _ ?_ | refine Lo.fn _ _ ?_ | refine Lo.sl _ ?_ | intro _)), .lo _ (by repeat' (first | exact Lo.s _ | exact zai | refine zad ?_ ?_ | refine zak ?_ | refine Lo.cells ?_ | refine Lo.agg _ ?_ | refine Lo.ref _ ?_ | refine Lo.tup _ ?_ | refine Lo.fn _ _ ?_ | refine Lo.sl _ ?_ | intro _)), .lo _ (by repeat' (first | exact Lo.s _ | exact zai | refine zad ?_ ?_ | refine zak ?_ | refine Lo.cells ?_ | refine Lo.agg _ ?_ | refine Lo.ref _ ?_ | refine Lo.tup _ ?_ | refine Lo.fn _ _ ?_ | refine Lo.sl _ ?_ | intro _)), trivial⟩) ⟨by omega, fun j hj => by omega⟩ (fun k hk => ?_)
  obtain ⟨hk, hall⟩ := hk
  repeat (first | refine zag ?_ | refine zap ?_ | refine zae ?_ | refine zar ?_ | refine zac ?_)
  all_goals refine zaf ?_
  all_goals (first | refine zbm rfl rfl (zaa rfl) (zbh rfl rfl rfl) (fun h29 => ?_) (fun h29 => ?_) | refine zbn rfl rfl (zaa rfl) (zbh rfl rfl rfl) (fun h29 => ?_) (fun h29 => ?_))
  all_goals refine zam ?_
  all_goals (repeat (first | refine zag ?_ | refine zap ?_ | refine zae ?_ | refine zar ?_ | refine zac ?_))
  all_goals (first | refine zbv rfl ?_ | refine zbr rfl ?_)
  all_goals (repeat (first | refine zag ?_ | refine zap ?_ | refine zae ?_ | refine zar ?_ | refine zac ?_))
  · have hlt : k < l.length := by omega
    obtain ⟨s, hs⟩ : ∃ s, gti l k = s := ⟨_, rfl⟩
    have hix : (l.map eSh)[k]? = some (eSh s) := by rw [← hs]; exact ix_map hlt
    refine zaf ?_
    first | refine zab rfl rfl (zaa rfl) (zaz rfl ts23 ti39 rfl rfl rfl hix rfl) ?_ | refine zab rfl rfl (zaa rfl) (zay rfl ts23 ti39 rfl rfl rfl hix) ?_
    first | refine zab rfl rfl (zaa rfl) (zax rfl ta39 ti39 rfl rfl) ?_ | refine zab rfl rfl (zaa rfl) (za6 rfl ta39 ti39 rfl rfl rfl rfl rfl) ?_ | refine zab rfl rfl (zaa rfl) (zav rfl ta39 ti39 rfl (Nat.le_of_ble_eq_true rfl)) ?_ | refine zab rfl rfl (zaa rfl) (za7 rfl ta39 ti39 rfl rfl rfl rfl (Nat.le_of_ble_eq_true rfl)) ?_
    refine zab rfl rfl (zaa rfl) (zbt rfl ti39 rfl rfl) ?_
    refine ops_eff rfl (zaa rfl) (zbd rfl ti39 rfl rfl rfl rfl rfl rfl (by decide) (by decide)) ?_
    refine zam ?_
    repeat (first | refine zag ?_ | refine zap ?_ | refine zae ?_ | refine zar ?_ | refine zac ?_)
    refine aw_weak (wk_froz (id := 0) rfl) ?_
    refine aw_weak (wk_ref (d := 6) rfl rfl rfl) ?_
    all_goals refine zaf ?_
    all_goals (first | refine zab rfl rfl (zaa rfl) (zao rfl tf39_0 (by decide) rfl) ?_ | refine zab rfl rfl (zaa rfl) (zal rfl tf39_0 (by decide) rfl) ?_)
    all_goals (first | refine zab rfl rfl (zaa rfl) (zan rfl ta22 rfl) ?_ | refine zab rfl rfl (zaa rfl) (zas rfl ta22 rfl rfl rfl rfl rfl) ?_)
    all_goals (first | refine zab rfl rfl (zaa rfl) (za3 rfl ts22 rfl) ?_ | refine zab rfl rfl (zaa rfl) (za8 rfl ts22 rfl) ?_ | refine zab rfl rfl (zaa rfl) (za0 rfl ts22 rfl) ?_ | refine zab rfl rfl (zaa rfl) (zbe rfl ts22 rfl) ?_ | refine zab rfl rfl (zaa rfl) (za1 rfl ts22 rfl) ?_)
    all_goals (first | refine zbm rfl rfl (zaa rfl) (does_eql rfl rfl rfl) (fun h35 => ?_) (fun h35 => ?_) | refine zbn rfl rfl (zaa rfl) (does_eql rfl rfl rfl) (fun h35 => ?_) (fun h35 => ?_))
    all_goals refine zab rfl rfl (zaa rfl) (mv_s (.inl rfl) rfl) ?_
    all_goals (first | refine zab rfl rfl (zah rfl rfl rfl) (zao rfl tf39_1 (by decide) rfl) ?_ | refine zab rfl rfl (zah rfl rfl rfl) (zal rfl tf39_1 (by decide) rfl) ?_ | refine zaj rfl rfl (zaw rfl rfl rfl) ?_ | refine zaj rfl rfl (zau rfl rfl rfl) ?_)
    all_goals (first | refine zab rfl rfl (zah rfl rfl rfl) (zan rfl ta3 rfl) ?_ | refine zab rfl rfl (zah rfl rfl rfl) (zas rfl ta3 rfl rfl rfl rfl rfl) ?_ | refine zaj rfl rfl (zaw rfl rfl rfl) ?_ | refine zaj rfl rfl (zau rfl rfl rfl) ?_)
    all_goals (first | refine zbm rfl rfl (zah rfl rfl rfl) (zbh rfl rfl rfl) (fun h39 => ?_) (fun h39 => ?_) | refine zbn rfl rfl (zah rfl rfl rfl) (zbh rfl rfl rfl) (fun h39 => ?_) (fun h39 => ?_) | refine zaj rfl rfl (zaw rfl rfl rfl) ?_ | refine zaj rfl rfl (zau rfl rfl rfl) ?_)
    all_goals (first | refine zab rfl rfl (zaa rfl) (pickT_s rfl rfl rfl) ?_ | refine zab rfl rfl (zaa rfl) (pickF_s rfl rfl rfl) ?_ | refine zab rfl rfl (zaa rfl) (zbi rfl rfl rfl) ?_ | refine zab rfl rfl (zaa rfl) (zbj rfl rfl rfl) ?_)
    all_goals refine zab rfl rfl (zaa rfl) (mv_s (.inl rfl) rfl) ?_
    all_goals (first | refine zab rfl rfl (zah rfl rfl rfl) (zao rfl tf39_1 (by decide) rfl) ?_ | refine zab rfl rfl (zah rfl rfl rfl) (zal rfl tf39_1 (by decide) rfl) ?_ | refine zaj rfl rfl (zaw rfl rfl rfl) ?_ | refine zaj rfl rfl (zau rfl rfl rfl) ?_)
    all_goals (first | refine zab rfl rfl (zah rfl rfl rfl) (zan rfl ta3 rfl) ?_ | refine zab rfl rfl (zah rfl rfl rfl) (zas rfl ta3 rfl rfl rfl rfl rfl) ?_ | refine zaj rfl rfl (zaw rfl rfl rfl) ?_ | refine zaj rfl rfl (zau rfl rfl rfl) ?_)
    all_goals (first | refine zbm rfl rfl (zah rfl rfl rfl) (does_gtr rfl rfl rfl) (fun h44 => ?_) (fun h44 => ?_) | refine zbn rfl rfl (zah rfl rfl rfl) (does_gtr rfl rfl rfl) (fun h44 => ?_) (fun h44 => ?_) | refine zaj rfl rfl (zaw rfl rfl rfl) ?_ | refine zaj rfl rfl (zau rfl rfl rfl) ?_)
    all_goals (first | refine zab rfl rfl (zaa rfl) (pickT_s rfl rfl rfl) ?_ | refine zab rfl rfl (zaa rfl) (pickF_s rfl rfl rfl) ?_ | refine zab rfl rfl (zaa rfl) (zbi rfl rfl rfl) ?_ | refine zab rfl rfl (zaa rfl) (zbj rfl rfl rfl) ?_)
    all_goals refine zab rfl rfl (zaa rfl) (mv_s (.inl rfl) rfl) ?_
    all_goals (first | refine zab rfl rfl (zah rfl rfl rfl) (zao rfl tf39_2 (by decide) rfl) ?_ | refine zab rfl rfl (zah rfl rfl rfl) (zal rfl tf39_2 (by decide) rfl) ?_ | refine zaj rfl rfl (zaw rfl rfl rfl) ?_ | refine zaj rfl rfl (zau rfl rfl rfl) ?_)
    all_goals (first | refine zab rfl rfl (zah rfl rfl rfl) (zan rfl ta3 rfl) ?_ | refine zab rfl rfl (zah rfl rfl rfl) (zas rfl ta3 rfl rfl rfl rfl rfl) ?_ | refine zaj rfl rfl (zaw rfl rfl rfl) ?_ | refine zaj rfl rfl (zau rfl rfl rfl) ?_)
    all_goals (first | refine zbm rfl rfl (zah rfl rfl rfl) (zbh rfl rfl rfl) (fun h49 => ?_) (fun h49 => ?_) | refine zbn rfl rfl (zah rfl rfl rfl) (zbh rfl rfl rfl) (fun h49 => ?_) (fun h49 => ?_) | refine zaj rfl rfl (zaw rfl rfl rfl) ?_ | refine zaj rfl rfl (zau rfl rfl rfl) ?_)
    all_goals (first | refine zab rfl rfl (zaa rfl) (pickT_s rfl rfl rfl) ?_ | refine zab rfl rfl (zaa rfl) (pickF_s rfl rfl rfl) ?_ | refine zab rfl rfl (zaa rfl) (zbi rfl rfl rfl) ?_ | refine zab rfl rfl (zaa rfl) (zbj rfl rfl rfl) ?_)
    all_goals refine zab rfl rfl (zaa rfl) (mv_s (.inl rfl) rfl) ?_
    all_goals (first | refine zab rfl rfl (zah rfl rfl rfl) (zao rfl tf39_2 (by decide) rfl) ?_ | refine zab rfl rfl (zah rfl rfl rfl) (zal rfl tf39_2 (by decide) rfl) ?_ | refine zaj rfl rfl (zaw rfl rfl rfl) ?_ | refine zaj rfl rfl (zau rfl rfl rfl) ?_)
    all_goals (first | refine zab rfl rfl (zah rfl rfl rfl) (zan rfl ta3 rfl) ?_ | refine zab rfl rfl (zah rfl rfl rfl) (zas rfl ta3 rfl rfl rfl rfl rfl) ?_ | refine zaj rfl rfl (zaw rfl rfl rfl) ?_ | refine zaj rfl rfl (zau rfl rfl rfl) ?_)
    all_goals (first | refine zbm rfl rfl (zah rfl rfl rfl) (does_gtr rfl rfl rfl) (fun h54 => ?_) (fun h54 => ?_) | refine zbn rfl rfl (zah rfl rfl rfl) (does_gtr rfl rfl rfl) (fun h54 => ?_) (fun h54 => ?_) | refine zaj rfl rfl (zaw rfl rfl rfl) ?_ | refine zaj rfl rfl (zau rfl rfl rfl) ?_)
    all_goals (first | refine zab rfl rfl (zaa rfl) (pickT_s rfl rfl rfl) ?_ | refine zab rfl rfl (zaa rfl) (pickF_s rfl rfl rfl) ?_ | refine zab rfl rfl (zaa rfl) (zbi rfl rfl rfl) ?_ | refine zab rfl rfl (zaa rfl) (zbj rfl rfl rfl) ?_)
    all_goals refine zam ?_
    all_goals (repeat (first | refine zag ?_ | refine zap ?_ | refine zae ?_ | refine zar ?_ | refine zac ?_))
    all_goals (first | refine zbv rfl ?_ | refine zbr rfl ?_)
    all_goals (repeat (first | refine zag ?_ | refine zap ?_ | refine zae ?_ | refine zar ?_ | refine zac ?_))
    all_goals first
      | skip
        refine zaf ?_
        refine zab rfl rfl (zaa rfl) (mv_s (.inr rfl) rfl) ?_
        refine zam ?_
        repeat (first | refine zag ?_ | refine zap ?_ | refine zae ?_ | refine zar ?_ | refine zac ?_)
        (refine zbw ?_; repeat (first | refine ath_r ?_ | refine abl_r ?_))
        exact post1 (.inr rfl) rfl (congrArg eB (validS_f hlt (by rw [hs]; exact sftB_h (decide_eq_false (by omega)))).symm)
      | skip
    have hhs : headS s = true := decide_eq_true (by omega)
    refine zaf ?_
    first | refine zab rfl rfl (zaa rfl) (zao rfl tf39_0 (by decide) rfl) ?_ | refine zab rfl rfl (zaa rfl) (zal rfl tf39_0 (by decide) rfl) ?_
    first | refine zab rfl rfl (zaa rfl) (zan rfl ta22 rfl) ?_ | refine zab rfl rfl (zaa rfl) (zas rfl ta22 rfl rfl rfl rfl rfl) ?_
    first | refine zab rfl rfl (zaa rfl) (za3 rfl ts22 rfl) ?_ | refine zab rfl rfl (zaa rfl) (za8 rfl ts22 rfl) ?_ | refine zab rfl rfl (zaa rfl) (za0 rfl ts22 rfl) ?_ | refine zab rfl rfl (zaa rfl) (zbe rfl ts22 rfl) ?_ | refine zab rfl rfl (zaa rfl) (za1 rfl ts22 rfl) ?_
    refine zab rfl rfl (zaa rfl) (mv_s (.inl rfl) rfl) ?_
    refine zam ?_
    repeat (first | refine zag ?_ | refine zap ?_ | refine zae ?_ | refine zar ?_ | refine zac ?_)
    refine aw_bdm (d := 57) rfl (fun hm3 => ?_)
    unfold maxLen at hm3
    refine aw_loops (S := Nat) (fun j => [(0, eL eI d), (1, eL eSh l), (26, eL eSh l), (27, eI l.length), (28, eI k), (6, .ref (eSh s).cells), (57, eL eI s.pd), (58, eI s.pd.length), (59, eI j)]) (fun _ => []) (fun j => j ≤ s.pd.length ∧ ∀ i, i < j → perB d.length s.pd i = true) (fun j => s.pd.length - j) 0 (wk_st [] (by decide) trivial ⟨.lo _ (by repeat' (first | exact Lo.s _ | exact zai | refine zad ?_ ?_ | refine zak ?_ | refine Lo.cells ?_ | refine Lo.agg _ ?_ | refine Lo.ref _ ?_ | refine Lo.tup _ ?_ | refine Lo.fn _ _ ?_ | refine Lo.sl _ ?_ | intro _)), .lo _ (by repeat' (first | exact Lo.s _ | exact zai | refine zad ?_ ?_ | refine zak ?_ | refine Lo.cells ?_ | refine Lo.agg _ ?_ | refine Lo.ref _ ?_ | refine Lo.tup _ ?_ | refine Lo.fn _ _ ?_ | refine Lo.sl _ ?_ | intro _)), .lo _ (by repeat' (first | exact Lo.s _ | exact zai | refine zad ?_ ?_ | refine zak ?_ | refine Lo.cells ?_ | refine Lo.agg _ ?_ | refine Lo.ref _ ?_ | refine Lo.tup _ ?_ | refine Lo.fn _ _ ?_ | refine Lo.sl _ ?_ | intro _)), .lo _ (by repeat' (first | exact Lo.s _ | exact zai | refine zad ?_ ?_ | refine zak ?_ | refine Lo.cells ?_ | refine Lo.agg _ ?_ | refine Lo.ref _ ?_ | refine Lo.tup _ ?_ | refine Lo.fn _ _ ?_ | refine Lo.sl _ ?_ | intro _)), .lo _ (by repeat' (first | exact Lo.s _ | exact zai | refine zad ?_ ?_ | refine zak ?_ | refine Lo.cells ?_ | refine Lo.agg _ ?_ | refine Lo.ref _ ?_ | refine Lo.tup _ ?_ | refine Lo.fn _ _ ?_ | refine Lo.sl _ ?_ | intro _)), .lo _ (by repeat' (first | exact Lo.s _ | exact zai | refine zad ?_ ?_ | refine zak ?_ | refine Lo.cells ?_ | refine Lo.agg _ ?_ | refine Lo.ref _ ?_ | refine Lo.tup _ ?_ | refine Lo.fn _ _ ?_ | refine Lo.sl _ ?_ | intro _)), .lo _ (by repeat' (first | exact Lo.s _ | exact zai | refine zad ?_ ?_ | refine zak ?_ | refine Lo.cells ?_ | refine Lo.agg _ ?_ | refine Lo.ref _ ?_ | refine Lo.tup _ ?_ | refine Lo.fn _ _ ?_ | refine Lo.sl _ ?_ | intro _)), .lo _ (by repeat' (first | exact Lo.s _ | exact zai | refine zad ?_ ?_ | refine zak ?_ | refine Lo.cells ?_ | refine Lo.agg _ ?_ | refine Lo.ref _ ?_ | refine Lo.tup _ ?_ | refine Lo.fn _ _ ?_ | refine Lo.sl _ ?_ | intro _)), .lo _ (by repeat' (first | exact Lo.s _ | exact zai | refine zad ?_ ?_ | refine zak ?_ | refine Lo.cells ?_ | refine Lo.agg _ ?_ | refine Lo.ref _ ?_ | refine Lo.tup _ ?_ | refine Lo.fn _ _ ?_ | refine Lo.sl _ ?_ | intro _)), trivial⟩) ⟨by omega, fun j hj => by omega⟩ (fun j hj => ?_)
    obtain ⟨hj, hper⟩ := hj
    repeat (first | refine zag ?_ | refine zap ?_ | refine zae ?_ | refine zar ?_ | refine zac ?_)
    all_goals refine zaf ?_
    all_goals (first | refine zbm rfl rfl (zaa rfl) (zbh rfl rfl rfl) (fun h60 => ?_) (fun h60 => ?_) | refine zbn rfl rfl (zaa rfl) (zbh rfl rfl rfl) (fun h60 => ?_) (fun h60 => ?_))
    all_goals refine zam ?_
    all_goals (repeat (first | refine zag ?_ | refine zap ?_ | refine zae ?_ | refine zar ?_ | refine zac ?_))
    all_goals (first | refine zbv rfl ?_ | refine zbr rfl ?_)
    all_goals (repeat (first | refine zag ?_ | refine zap ?_ | refine zae ?_ | refine zar ?_ | refine zac ?_))
    · have hlt2 : j < s.pd.length := by omega
      refine zaf ?_
      refine zab rfl rfl (zaa rfl) (mv_s (.inl rfl) rfl) ?_
      first | refine zab rfl rfl (zaa rfl) (zaz rfl ts22 ti3 rfl rfl rfl (ix_map (by omega)) rfl) ?_ | refine zab rfl rfl (zaa rfl) (zay rfl ts22 ti3 rfl rfl rfl (by omega)) ?_
      first | refine zab rfl rfl (zaa rfl) (zan rfl ta3 rfl) ?_ | refine zab rfl rfl (zaa rfl) (zas rfl ta3 rfl rfl rfl rfl rfl) ?_
      refine zab rfl rfl (zaa rfl) (mv_s (.inr rfl) rfl) ?_
      refine zab rfl rfl (zaa rfl) (mv_s (.inr rfl) rfl) ?_
      refine zam ?_
      repeat (first | refine zag ?_ | refine zap ?_ | refine zae ?_ | refine zar ?_ | refine zac ?_)
      all_goals refine zaf ?_
      all_goals refine zab rfl rfl (zaa rfl) (mv_s (.inl rfl) rfl) ?_
      all_goals (first | refine zbm rfl rfl (zaa rfl) (zbh rfl rfl rfl) (fun h65 => ?_) (fun h65 => ?_) | refine zbn rfl rfl (zaa rfl) (zbh rfl rfl rfl) (fun h65 => ?_) (fun h65 => ?_))
      all_goals refine zab rfl rfl (zaa rfl) (mv_s (.inl rfl) rfl) ?_
      all_goals (first | refine zab rfl rfl (zah rfl rfl rfl) (mv_s (.inl rfl) rfl) ?_ | refine zaj rfl rfl (zaw rfl rfl rfl) ?_ | refine zaj rfl rfl (zau rfl rfl rfl) ?_)
      all_goals (first | refine zab rfl rfl (zah rfl rfl rfl) (za9 (.inl rfl) rfl) ?_ | refine zab rfl rfl (zah rfl rfl rfl) (zbp (.inl rfl) rfl) ?_ | refine zab rfl rfl (zah rfl rfl rfl) (mv_s (.inl rfl) rfl) ?_ | refine zab rfl rfl (zah rfl rfl rfl) (zba (.inl rfl) rfl) ?_ | refine zaj rfl rfl (zaw rfl rfl rfl) ?_ | refine zaj rfl rfl (zau rfl rfl rfl) ?_)
      all_goals (first | refine zab rfl rfl (zah rfl rfl rfl) (za3 rfl ts22 rfl) ?_ | refine zab rfl rfl (zah rfl rfl rfl) (za8 rfl ts22 rfl) ?_ | refine zab rfl rfl (zah rfl rfl rfl) (za0 rfl ts22 rfl) ?_ | refine zab rfl rfl (zah rfl rfl rfl) (zbe rfl ts22 rfl) ?_ | refine zab rfl rfl (zah rfl rfl rfl) (za1 rfl ts22 rfl) ?_ | refine zaj rfl rfl (zaw rfl rfl rfl) ?_ | refine zaj rfl rfl (zau rfl rfl rfl) ?_)
      all_goals (first | refine zbm rfl rfl (zah rfl rfl rfl) (does_geq rfl rfl rfl) (fun h70 => ?_) (fun h70 => ?_) | refine zbn rfl rfl (zah rfl rfl rfl) (does_geq rfl rfl rfl) (fun h70 => ?_) (fun h70 => ?_) | refine zaj rfl rfl (zaw rfl rfl rfl) ?_ | refine zaj rfl rfl (zau rfl rfl rfl) ?_)
      all_goals (first | refine zab rfl rfl (zaa rfl) (pickT_s rfl rfl rfl) ?_ | refine zab rfl rfl (zaa rfl) (pickF_s rfl rfl rfl) ?_ | refine zab rfl rfl (zaa rfl) (zbi rfl rfl rfl) ?_ | refine zab rfl rfl (zaa rfl) (zbj rfl rfl rfl) ?_)
      all_goals refine zab rfl rfl (zaa rfl) (mv_s (.inl rfl) rfl) ?_
      all_goals (first | refine zab rfl rfl (zah rfl rfl rfl) (mv_s (.inl rfl) rfl) ?_ | refine zaj rfl rfl (zaw rfl rfl rfl) ?_ | refine zaj rfl rfl (zau rfl rfl rfl) ?_)
      all_goals (first | refine zbm rfl rfl (zah rfl rfl rfl) (does_gtr rfl rfl rfl) (fun h74 => ?_) (fun h74 => ?_) | refine zbn rfl rfl (zah rfl rfl rfl) (does_gtr rfl rfl rfl) (fun h74 => ?_) (fun h74 => ?_) | refine zaj rfl rfl (zaw rfl rfl rfl) ?_ | refine zaj rfl rfl (zau rfl rfl rfl) ?_)
      all_goals (first | refine zab rfl rfl (zah rfl rfl rfl) (mv_s (.inl rfl) rfl) ?_ | refine zaj rfl rfl (zaw rfl rfl rfl) ?_ | refine zaj rfl rfl (zau rfl rfl rfl) ?_)
      all_goals (first | refine zab rfl rfl (zah rfl rfl rfl) (zao rfl tf39_0 (by decide) rfl) ?_ | refine zab rfl rfl (zah rfl rfl rfl) (zal rfl tf39_0 (by decide) rfl) ?_ | refine zaj rfl rfl (runs_nt rfl rfl rfl) ?_ | refine zaj rfl rfl (zau rfl rfl rfl) ?_)
      all_goals (first | refine zab rfl rfl (zah rfl rfl rfl) (zan rfl ta22 rfl) ?_ | refine zab rfl rfl (zah rfl rfl rfl) (zas rfl ta22 rfl rfl rfl rfl rfl) ?_ | refine zaj rfl rfl (runs_nt rfl rfl rfl) ?_ | refine zaj rfl rfl (zau rfl rfl rfl) ?_)
      all_goals (first | refine zab rfl rfl (zah rfl rfl rfl) (mv_s (.inl rfl) rfl) ?_ | refine zaj rfl rfl (runs_nt rfl rfl rfl) ?_ | refine zaj rfl rfl (zau rfl rfl rfl) ?_)
      all_goals (first | refine zab rfl rfl (zah rfl rfl rfl) (does_sub rfl rfl rfl (IntWalk.i64_in _ (by omega))) ?_ | refine zaj rfl rfl (runs_nt rfl rfl rfl) ?_ | refine zaj rfl rfl (zau rfl rfl rfl) ?_)
      all_goals (first | refine zab rfl rfl (zah rfl rfl rfl) (zaz rfl ts22 ti3 rfl rfl (by omega) (ix_map (k := j - 1) (by omega)) rfl) ?_ | refine zab rfl rfl (zah rfl rfl rfl) (zay rfl ts22 ti3 rfl rfl (by omega) (ix_map (k := j - 1) (by omega))) ?_ | refine zaj rfl rfl (runs_nt rfl rfl rfl) ?_ | refine zaj rfl rfl (zau rfl rfl rfl) ?_)
      all_goals (first | refine zab rfl rfl (zah rfl rfl rfl) (zan rfl ta3 rfl) ?_ | refine zab rfl rfl (zah rfl rfl rfl) (zas rfl ta3 rfl rfl rfl rfl rfl) ?_ | refine zaj rfl rfl (runs_nt rfl rfl rfl) ?_ | refine zaj rfl rfl (zau rfl rfl rfl) ?_)
      all_goals (first | refine zab rfl rfl (zah rfl rfl rfl) (mv_s (.inl rfl) rfl) ?_ | refine zaj rfl rfl (runs_nt rfl rfl rfl) ?_ | refine zaj rfl rfl (zau rfl rfl rfl) ?_)
      all_goals (first | refine zbm rfl rfl (zah rfl rfl rfl) (does_geq rfl rfl rfl) (fun h83 => ?_) (fun h83 => ?_) | refine zbn rfl rfl (zah rfl rfl rfl) (does_geq rfl rfl rfl) (fun h83 => ?_) (fun h83 => ?_) | refine zaj rfl rfl (runs_nt rfl rfl rfl) ?_ | refine zaj rfl rfl (zau rfl rfl rfl) ?_)
      all_goals (first | refine zab rfl rfl (zah rfl rfl rfl) (pickT_s rfl rfl rfl) ?_ | refine zab rfl rfl (zah rfl rfl rfl) (pickF_s rfl rfl rfl) ?_ | refine zab rfl rfl (zah rfl rfl rfl) (zbi rfl rfl rfl) ?_ | refine zab rfl rfl (zah rfl rfl rfl) (zbj rfl rfl rfl) ?_ | refine zaj rfl rfl (zaw rfl rfl rfl) ?_ | refine zaj rfl rfl (zau rfl rfl rfl) ?_)
      all_goals (first | refine zab rfl rfl (zaa rfl) (pickT_s rfl rfl rfl) ?_ | refine zab rfl rfl (zaa rfl) (pickF_s rfl rfl rfl) ?_ | refine zab rfl rfl (zaa rfl) (zbi rfl rfl rfl) ?_ | refine zab rfl rfl (zaa rfl) (zbj rfl rfl rfl) ?_)
      all_goals refine zam ?_
      all_goals (repeat (first | refine zag ?_ | refine zap ?_ | refine zae ?_ | refine zar ?_ | refine zac ?_))
      all_goals (first | refine zbv rfl ?_ | refine zbr rfl ?_)
      all_goals (repeat (first | refine zag ?_ | refine zap ?_ | refine zae ?_ | refine zar ?_ | refine zac ?_))
      all_goals first
        | skip
          refine zaf ?_
          refine zab rfl rfl (zaa rfl) (mv_s (.inr rfl) rfl) ?_
          refine zam ?_
          repeat (first | refine zag ?_ | refine zap ?_ | refine zae ?_ | refine zar ?_ | refine zac ?_)
          (refine zbw ?_; repeat (first | refine ath_r ?_ | refine abl_r ?_))
          exact post1 (.inr rfl) rfl (congrArg eB (validS_f hlt (by rw [hs]; exact sftB_f hlt2 (decide_eq_false (by omega)))).symm)
        | skip
          refine zaf ?_
          refine zab rfl rfl (zaa rfl) (does_add rfl rfl rfl (IntWalk.i64_in _ (by omega))) ?_
          refine zab rfl rfl (zaa rfl) (mv_s (.inl rfl) rfl) ?_
          refine zam ?_
          repeat (first | refine zag ?_ | refine zap ?_ | refine zae ?_ | refine zar ?_ | refine zac ?_)
          refine ⟨j + 1, ⟨by omega, fun i hi => ?_⟩, by omega, wk_st [] (by decide) trivial ⟨.lo _ (by repeat' (first | exact Lo.s _ | exact zai | refine zad ?_ ?_ | refine zak ?_ | refine Lo.cells ?_ | refine Lo.agg _ ?_ | refine Lo.ref _ ?_ | refine Lo.tup _ ?_ | refine Lo.fn _ _ ?_ | refine Lo.sl _ ?_ | intro _)), .lo _ (by repeat' (first | exact Lo.s _ | exact zai | refine zad ?_ ?_ | refine zak ?_ | refine Lo.cells ?_ | refine Lo.agg _ ?_ | refine Lo.ref _ ?_ | refine Lo.tup _ ?_ | refine Lo.fn _ _ ?_ | refine Lo.sl _ ?_ | intro _)), .lo _ (by repeat' (first | exact Lo.s _ | exact zai | refine zad ?_ ?_ | refine zak ?_ | refine Lo.cells ?_ | refine Lo.agg _ ?_ | refine Lo.ref _ ?_ | refine Lo.tup _ ?_ | refine Lo.fn _ _ ?_ | refine Lo.sl _ ?_ | intro _)), .lo _ (by repeat' (first | exact Lo.s _ | exact zai | refine zad ?_ ?_ | refine zak ?_ | refine Lo.cells ?_ | refine Lo.agg _ ?_ | refine Lo.ref _ ?_ | refine Lo.tup _ ?_ | refine Lo.fn _ _ ?_ | refine Lo.sl _ ?_ | intro _)), .lo _ (by repeat' (first | exact Lo.s _ | exact zai | refine zad ?_ ?_ | refine zak ?_ | refine Lo.cells ?_ | refine Lo.agg _ ?_ | refine Lo.ref _ ?_ | refine Lo.tup _ ?_ | refine Lo.fn _ _ ?_ | refine Lo.sl _ ?_ | intro _)), .lo _ (by repeat' (first | exact Lo.s _ | exact zai | refine zad ?_ ?_ | refine zak ?_ | refine Lo.cells ?_ | refine Lo.agg _ ?_ | refine Lo.ref _ ?_ | refine Lo.tup _ ?_ | refine Lo.fn _ _ ?_ | refine Lo.sl _ ?_ | intro _)), .lo _ (by repeat' (first | exact Lo.s _ | exact zai | refine zad ?_ ?_ | refine zak ?_ | refine Lo.cells ?_ | refine Lo.agg _ ?_ | refine Lo.ref _ ?_ | refine Lo.tup _ ?_ | refine Lo.fn _ _ ?_ | refine Lo.sl _ ?_ | intro _)), .lo _ (by repeat' (first | exact Lo.s _ | exact zai | refine zad ?_ ?_ | refine zak ?_ | refine Lo.cells ?_ | refine Lo.agg _ ?_ | refine Lo.ref _ ?_ | refine Lo.tup _ ?_ | refine Lo.fn _ _ ?_ | refine Lo.sl _ ?_ | intro _)), .lo _ (by repeat' (first | exact Lo.s _ | exact zai | refine zad ?_ ?_ | refine zak ?_ | refine Lo.cells ?_ | refine Lo.agg _ ?_ | refine Lo.ref _ ?_ | refine Lo.tup _ ?_ | refine Lo.fn _ _ ?_ | refine Lo.sl _ ?_ | intro _)), trivial⟩⟩
          by_cases e : i = j
          · subst e; exact decide_eq_true (by omega)
          · exact hper i (by omega)
    · (refine aw_exit ?_; repeat (first | refine ath_x ?_ | refine abl_hit ?_ | refine abl_miss rfl ?_ | refine zar ?_ | refine zap ?_ | refine zag ?_ | refine zae ?_ | refine zac ?_))
      refine zaf ?_
      refine zab rfl rfl (zaa rfl) (does_add rfl rfl rfl (IntWalk.i64_in _ (by omega))) ?_
      refine zab rfl rfl (zaa rfl) (mv_s (.inl rfl) rfl) ?_
      refine zam ?_
      repeat (first | refine zag ?_ | refine zap ?_ | refine zae ?_ | refine zar ?_ | refine zac ?_)
      refine ⟨k + 1, ⟨by omega, fun i hi => ?_⟩, by omega, wk_st [] (by decide) trivial ⟨.lo _ (by repeat' (first | exact Lo.s _ | exact zai | refine zad ?_ ?_ | refine zak ?_ | refine Lo.cells ?_ | refine Lo.agg _ ?_ | refine Lo.ref _ ?_ | refine Lo.tup _ ?_ | refine Lo.fn _ _ ?_ | refine Lo.sl _ ?_ | intro _)), .lo _ (by repeat' (first | exact Lo.s _ | exact zai | refine zad ?_ ?_ | refine zak ?_ | refine Lo.cells ?_ | refine Lo.agg _ ?_ | refine Lo.ref _ ?_ | refine Lo.tup _ ?_ | refine Lo.fn _ _ ?_ | refine Lo.sl _ ?_ | intro _)), .lo _ (by repeat' (first | exact Lo.s _ | exact zai | refine zad ?_ ?_ | refine zak ?_ | refine Lo.cells ?_ | refine Lo.agg _ ?_ | refine Lo.ref _ ?_ | refine Lo.tup _ ?_ | refine Lo.fn _ _ ?_ | refine Lo.sl _ ?_ | intro _)), .lo _ (by repeat' (first | exact Lo.s _ | exact zai | refine zad ?_ ?_ | refine zak ?_ | refine Lo.cells ?_ | refine Lo.agg _ ?_ | refine Lo.ref _ ?_ | refine Lo.tup _ ?_ | refine Lo.fn _ _ ?_ | refine Lo.sl _ ?_ | intro _)), .lo _ (by repeat' (first | exact Lo.s _ | exact zai | refine zad ?_ ?_ | refine zak ?_ | refine Lo.cells ?_ | refine Lo.agg _ ?_ | refine Lo.ref _ ?_ | refine Lo.tup _ ?_ | refine Lo.fn _ _ ?_ | refine Lo.sl _ ?_ | intro _)), trivial⟩⟩
      by_cases e : i = k
      · subst e; rw [hs]; exact sftB_t hhs (fun i hi => hper i (by omega))
      · exact hall i (by omega)
  · (refine aw_exit ?_; repeat (first | refine ath_x ?_ | refine abl_hit ?_ | refine abl_miss rfl ?_ | refine zar ?_ | refine zap ?_ | refine zag ?_ | refine zae ?_ | refine zac ?_))
    refine zaf ?_
    refine zab rfl rfl (zaa rfl) (mv_s (.inr rfl) rfl) ?_
    refine zam ?_
    repeat (first | refine zag ?_ | refine zap ?_ | refine zae ?_ | refine zar ?_ | refine zac ?_)
    (refine zbw ?_; repeat (first | refine ath_r ?_ | refine abl_r ?_))
    exact post1 (.inr rfl) rfl (congrArg eB (validS_t hh (fun j hj => hall j (by omega))).symm)
end Go.Proofs.Ytmoipmnhgdmkpaa.Aw
end
section
namespace Go.Proofs.Ytmoipmnhgdmkpaa.Aw
set_option linter.unusedSimpArgs false
set_option linter.unusedVariables false
set_option linter.unusedSectionVars false
open Go.RowKit Go.Proofs
variable {P : Program} [IsP P]

/-- counts for shifts -/
def cntB (l : List Sft) (c : List Int) : Bool := decide (c.length = l.length) && (List.range c.length).all fun k => decide (0 ≤ gti c k ∧ gti c k ≤ (gti l k).most)
theorem cntB_l {l : List Sft} {c : List Int} (h : c.length ≠ l.length) : cntB l c = false := by unfold cntB; rw [decide_eq_false h]; rfl
theorem cntB_f {l : List Sft} {c : List Int} {k : Nat} (hk : k < c.length) (h : ¬ (0 ≤ gti c k ∧ gti c k ≤ (gti l k).most)) : cntB l c = false := by
  unfold cntB; rw [rg_f hk (decide_eq_false h), Bool.and_false]
theorem cntB_t {l : List Sft} {c : List Int} (h : c.length = l.length) (h2 : ∀ k, k < c.length → 0 ≤ gti c k ∧ gti c k ≤ (gti l k).most) : cntB l c = true := by
  unfold cntB; rw [decide_eq_true h, rg_t (fun j hj => decide_eq_true (h2 j hj))]; rfl
theorem cntB_iff {l : List Sft} {c : List Int} (h : cntB l c = true) : c.length = l.length ∧ ∀ k, k < l.length → 0 ≤ gti c k ∧ gti c k ≤ (gti l k).most := by
  unfold cntB at h
  rw [Bool.and_eq_true, decide_eq_true_eq] at h
  refine ⟨h.1, fun k hk => ?_⟩
  have := List.all_eq_true.1 h.2 k (by rw [List.mem_range]; omega)
  rwa [decide_eq_true_eq] at this
set_option maxHeartbeats 1000000 in
theorem counts_pf (l : List Sft) (c : List Int) : Pure P 22 [eL eSh l, eL eI c] (eB (cntB l c)) := by
  refine aw_fn (by rw [IsP.eq (P := P)]; exact Try.func22) rfl rfl rfl rfl rfl (by repeat' (first | exact Lo.s _ | exact zai | refine zad ?_ ?_ | refine zak ?_ | refine Lo.cells ?_ | refine Lo.agg _ ?_ | refine Lo.ref _ ?_ | refine Lo.tup _ ?_ | refine Lo.fn _ _ ?_ | refine Lo.sl _ ?_ | intro _)) (by repeat' (first | exact Lo.s _ | exact zai | refine zad ?_ ?_ | refine zak ?_ | refine Lo.cells ?_ | refine Lo.agg _ ?_ | refine Lo.ref _ ?_ | refine Lo.tup _ ?_ | refine Lo.fn _ _ ?_ | refine Lo.sl _ ?_ | intro _)) (by simp only [argF]; rfl) ?_
  repeat (first | refine zag ?_ | refine zap ?_ | refine zae ?_ | refine zar ?_ | refine zac ?_)
  refine aw_bdm (d := 1) rfl (fun hm1 => ?_)
  unfold maxLen at hm1
  refine zaf ?_
  refine zab rfl rfl (zaa rfl) (mv_s (.inr rfl) rfl) ?_
  refine zam ?_
  repeat (first | refine zag ?_ | refine zap ?_ | refine zae ?_ | refine zar ?_ | refine zac ?_)
  all_goals refine zaf ?_
  all_goals (first | refine zab rfl rfl (zaa rfl) (za9 (.inl rfl) rfl) ?_ | refine zab rfl rfl (zaa rfl) (zbp (.inl rfl) rfl) ?_ | refine zab rfl rfl (zaa rfl) (mv_s (.inl rfl) rfl) ?_ | refine zab rfl rfl (zaa rfl) (zba (.inl rfl) rfl) ?_)
  all_goals (first | refine zab rfl rfl (zaa rfl) (za3 rfl ts22 rfl) ?_ | refine zab rfl rfl (zaa rfl) (za8 rfl ts22 rfl) ?_ | refine zab rfl rfl (zaa rfl) (za0 rfl ts22 rfl) ?_ | refine zab rfl rfl (zaa rfl) (zbe rfl ts22 rfl) ?_ | refine zab rfl rfl (zaa rfl) (za1 rfl ts22 rfl) ?_)
  all_goals (first | refine zab rfl rfl (zaa rfl) (za9 (.inl rfl) rfl) ?_ | refine zab rfl rfl (zaa rfl) (zbp (.inl rfl) rfl) ?_ | refine zab rfl rfl (zaa rfl) (mv_s (.inl rfl) rfl) ?_ | refine zab rfl rfl (zaa rfl) (zba (.inl rfl) rfl) ?_)
  all_goals (first | refine zab rfl rfl (zaa rfl) (za3 rfl ts23 rfl) ?_ | refine zab rfl rfl (zaa rfl) (za8 rfl ts23 rfl) ?_ | refine zab rfl rfl (zaa rfl) (za0 rfl ts23 rfl) ?_ | refine zab rfl rfl (zaa rfl) (zbe rfl ts23 rfl) ?_ | refine zab rfl rfl (zaa rfl) (za1 rfl ts23 rfl) ?_)
  all_goals (first | refine zbm rfl rfl (zaa rfl) (does_neq rfl rfl rfl) (fun h11 => ?_) (fun h11 => ?_) | refine zbn rfl rfl (zaa rfl) (does_neq rfl rfl rfl) (fun h11 => ?_) (fun h11 => ?_))
  all_goals refine zam ?_
  all_goals (repeat (first | refine zag ?_ | refine zap ?_ | refine zae ?_ | refine zar ?_ | refine zac ?_))
  all_goals (first | refine zbv rfl ?_ | refine zbr rfl ?_)
  all_goals (repeat (first | refine zag ?_ | refine zap ?_ | refine zae ?_ | refine zar ?_ | refine zac ?_))
  · skip
    refine zaf ?_
    refine zab rfl rfl (zaa rfl) (mv_s (.inr rfl) rfl) ?_
    refine zam ?_
    repeat (first | refine zag ?_ | refine zap ?_ | refine zae ?_ | refine zar ?_ | refine zac ?_)
    (refine zbw ?_; repeat (first | refine ath_r ?_ | refine abl_r ?_))
    exact post1 (.inr rfl) rfl (congrArg eB (cntB_l (by omega)).symm)
  · have hl : c.length = l.length := by omega
    refine zaf ?_
    first | refine zab rfl rfl (zaa rfl) (za9 (.inl rfl) rfl) ?_ | refine zab rfl rfl (zaa rfl) (zbp (.inl rfl) rfl) ?_ | refine zab rfl rfl (zaa rfl) (mv_s (.inl rfl) rfl) ?_ | refine zab rfl rfl (zaa rfl) (zba (.inl rfl) rfl) ?_
    first | refine zab rfl rfl (zaa rfl) (za3 rfl ts22 rfl) ?_ | refine zab rfl rfl (zaa rfl) (za8 rfl ts22 rfl) ?_ | refine zab rfl rfl (zaa rfl) (za0 rfl ts22 rfl) ?_ | refine zab rfl rfl (zaa rfl) (zbe rfl ts22 rfl) ?_ | refine zab rfl rfl (zaa rfl) (za1 rfl ts22 rfl) ?_
    refine zab rfl rfl (zaa rfl) (mv_s (.inl rfl) rfl) ?_
    refine zam ?_
    repeat (first | refine zag ?_ | refine zap ?_ | refine zae ?_ | refine zar ?_ | refine zac ?_)
    refine aw_loops (S := Nat) (fun k => [(0, eL eSh l), (1, eL eI c), (12, eL eI c), (13, eI c.length), (14, eI k)]) (fun _ => []) (fun k => k ≤ c.length ∧ ∀ j, j < k → 0 ≤ gti c j ∧ gti c j ≤ (gti l j).most) (fun k => c.length - k) 0 (wk_st [] (by decide) trivial ⟨.lo _ (by repeat' (first | exact Lo.s _ | exact zai | refine zad ?_ ?_ | refine zak ?_ | refine Lo.cells ?_ | refine Lo.agg _ ?_ | refine Lo.ref _ ?_ | refine Lo.tup _ ?_ | refine Lo.fn _ _ ?_ | refine Lo.sl _ ?_ | intro _)), .lo _ (by repeat' (first | exact Lo.s _ | exact zai | refine zad ?_ ?_ | refine zak ?_ | refine Lo.cells ?_ | refine Lo.agg _ ?_ | refine Lo.ref _ ?_ | refine Lo.tup _ ?_ | refine Lo.fn _ _ ?_ | refine Lo.sl _ ?_ | intro _)), .lo _ (by repeat' (first | exact Lo.s _ | exact zai | refine zad ?_ ?_ | refine zak ?_ | refine Lo.cells ?_ | refine Lo.agg _ ?_ | refine Lo.ref _ ?_ | refine Lo.tup _ ?_ | refine Lo.fn _ _ ?_ | refine Lo.sl _ ?_ | intro _)), .lo _ (by repeat' (first | exact Lo.s _ | exact zai | refine zad ?_ ?_ | refine zak ?_ | refine Lo.cells ?_ | refine Lo.agg _ ?_ | refine Lo.ref _ ?_ | refine Lo.tup _ ?_ | refine Lo.fn _ _ ?_ | refine Lo.sl _ ?_ | intro _)), .lo _ (by repeat' (first | exact Lo.s _ | exact zai | refine zad ?_ ?_ | refine zak ?_ | refine Lo.cells ?_ | refine Lo.agg _ ?_ | refine Lo.ref _ ?_ | refine Lo.tup _ ?_ | refine Lo.fn _ _ ?_ | refine Lo.sl _ ?_ | intro _)), trivial⟩) ⟨by omega, fun j hj => by omega⟩ (fun k hk => ?_)
    obtain ⟨hk, hall⟩ := hk
    repeat (first | refine zag ?_ | refine zap ?_ | refine zae ?_ | refine zar ?_ | refine zac ?_)
    all_goals refine zaf ?_
    all_goals (first | refine zbm rfl rfl (zaa rfl) (zbh rfl rfl rfl) (fun h15 => ?_) (fun h15 => ?_) | refine zbn rfl rfl (zaa rfl) (zbh rfl rfl rfl) (fun h15 => ?_) (fun h15 => ?_))
    all_goals refine zam ?_
    all_goals (repeat (first | refine zag ?_ | refine zap ?_ | refine zae ?_ | refine zar ?_ | refine zac ?_))
    all_goals (first | refine zbv rfl ?_ | refine zbr rfl ?_)
    all_goals (repeat (first | refine zag ?_ | refine zap ?_ | refine zae ?_ | refine zar ?_ | refine zac ?_))
    · have hlt : k < c.length := by omega
      have hlt2 : k < l.length := by omega
      refine zaf ?_
      refine zab rfl rfl (zaa rfl) (mv_s (.inl rfl) rfl) ?_
      first | refine zab rfl rfl (zaa rfl) (zaz rfl ts22 ti3 rfl rfl rfl (ix_map (by omega)) rfl) ?_ | refine zab rfl rfl (zaa rfl) (zay rfl ts22 ti3 rfl rfl rfl (by omega)) ?_
      first | refine zab rfl rfl (zaa rfl) (zan rfl ta3 rfl) ?_ | refine zab rfl rfl (zaa rfl) (zas rfl ta3 rfl rfl rfl rfl rfl) ?_
      refine zab rfl rfl (zaa rfl) (mv_s (.inr rfl) rfl) ?_
      refine zab rfl rfl (zaa rfl) (mv_s (.inr rfl) rfl) ?_
      refine zam ?_
      repeat (first | refine zag ?_ | refine zap ?_ | refine zae ?_ | refine zar ?_ | refine zac ?_)
      all_goals refine zaf ?_
      all_goals refine zab rfl rfl (zaa rfl) (mv_s (.inl rfl) rfl) ?_
      all_goals (first | refine zbm rfl rfl (zaa rfl) (zbh rfl rfl rfl) (fun h20 => ?_) (fun h20 => ?_) | refine zbn rfl rfl (zaa rfl) (zbh rfl rfl rfl) (fun h20 => ?_) (fun h20 => ?_))
      all_goals refine zab rfl rfl (zaa rfl) (mv_s (.inl rfl) rfl) ?_
      all_goals (first | refine zab rfl rfl (zah rfl rfl rfl) (mv_s (.inl rfl) rfl) ?_ | refine zaj rfl rfl (zaw rfl rfl rfl) ?_ | refine zaj rfl rfl (zau rfl rfl rfl) ?_)
      all_goals (first | refine zab rfl rfl (zah rfl rfl rfl) (za9 (.inl rfl) rfl) ?_ | refine zab rfl rfl (zah rfl rfl rfl) (zbp (.inl rfl) rfl) ?_ | refine zab rfl rfl (zah rfl rfl rfl) (mv_s (.inl rfl) rfl) ?_ | refine zab rfl rfl (zah rfl rfl rfl) (zba (.inl rfl) rfl) ?_ | refine zaj rfl rfl (zaw rfl rfl rfl) ?_ | refine zaj rfl rfl (zau rfl rfl rfl) ?_)
      all_goals (first | refine zab rfl rfl (zah rfl rfl rfl) (mv_s (.inl rfl) rfl) ?_ | refine zaj rfl rfl (zaw rfl rfl rfl) ?_ | refine zaj rfl rfl (zau rfl rfl rfl) ?_)
      all_goals (first | refine zab rfl rfl (zah rfl rfl rfl) (zaz rfl ts23 ti39 rfl rfl rfl (ix_map (by omega)) rfl) ?_ | refine zab rfl rfl (zah rfl rfl rfl) (zay rfl ts23 ti39 rfl rfl rfl (by omega)) ?_ | refine zaj rfl rfl (zaw rfl rfl rfl) ?_ | refine zaj rfl rfl (zau rfl rfl rfl) ?_)
      all_goals (first | refine zab rfl rfl (zah rfl rfl rfl) (zao rfl tf39_2 (by decide) rfl) ?_ | refine zab rfl rfl (zah rfl rfl rfl) (zal rfl tf39_2 (by decide) rfl) ?_ | refine zaj rfl rfl (zaw rfl rfl rfl) ?_ | refine zaj rfl rfl (zau rfl rfl rfl) ?_)
      all_goals (first | refine zab rfl rfl (zah rfl rfl rfl) (zan rfl ta3 rfl) ?_ | refine zab rfl rfl (zah rfl rfl rfl) (zas rfl ta3 rfl rfl rfl rfl rfl) ?_ | refine zaj rfl rfl (zaw rfl rfl rfl) ?_ | refine zaj rfl rfl (zau rfl rfl rfl) ?_)
      all_goals (first | refine zbm rfl rfl (zah rfl rfl rfl) (does_gtr rfl rfl rfl) (fun h28 => ?_) (fun h28 => ?_) | refine zbn rfl rfl (zah rfl rfl rfl) (does_gtr rfl rfl rfl) (fun h28 => ?_) (fun h28 => ?_) | refine zaj rfl rfl (zaw rfl rfl rfl) ?_ | refine zaj rfl rfl (zau rfl rfl rfl) ?_)
      all_goals (first | refine zab rfl rfl (zaa rfl) (pickT_s rfl rfl rfl) ?_ | refine zab rfl rfl (zaa rfl) (pickF_s rfl rfl rfl) ?_ | refine zab rfl rfl (zaa rfl) (zbi rfl rfl rfl) ?_ | refine zab rfl rfl (zaa rfl) (zbj rfl rfl rfl) ?_)
      all_goals refine zam ?_
      all_goals (repeat (first | refine zag ?_ | refine zap ?_ | refine zae ?_ | refine zar ?_ | refine zac ?_))
      all_goals (first | refine zbv rfl ?_ | refine zbr rfl ?_)
      all_goals (repeat (first | refine zag ?_ | refine zap ?_ | refine zae ?_ | refine zar ?_ | refine zac ?_))
      all_goals first
        | skip
          refine zaf ?_
          refine zab rfl rfl (zaa rfl) (mv_s (.inr rfl) rfl) ?_
          refine zam ?_
          repeat (first | refine zag ?_ | refine zap ?_ | refine zae ?_ | refine zar ?_ | refine zac ?_)
          (refine zbw ?_; repeat (first | refine ath_r ?_ | refine abl_r ?_))
          exact post1 (.inr rfl) rfl (congrArg eB (cntB_f hlt (by omega)).symm)
        | skip
          refine zaf ?_
          refine zab rfl rfl (zaa rfl) (does_add rfl rfl rfl (IntWalk.i64_in _ (by omega))) ?_
          refine zab rfl rfl (zaa rfl) (mv_s (.inl rfl) rfl) ?_
          refine zam ?_
          repeat (first | refine zag ?_ | refine zap ?_ | refine zae ?_ | refine zar ?_ | refine zac ?_)
          refine ⟨k + 1, ⟨by omega, fun i hi => ?_⟩, by omega, wk_st [] (by decide) trivial ⟨.lo _ (by repeat' (first | exact Lo.s _ | exact zai | refine zad ?_ ?_ | refine zak ?_ | refine Lo.cells ?_ | refine Lo.agg _ ?_ | refine Lo.ref _ ?_ | refine Lo.tup _ ?_ | refine Lo.fn _ _ ?_ | refine Lo.sl _ ?_ | intro _)), .lo _ (by repeat' (first | exact Lo.s _ | exact zai | refine zad ?_ ?_ | refine zak ?_ | refine Lo.cells ?_ | refine Lo.agg _ ?_ | refine Lo.ref _ ?_ | refine Lo.tup _ ?_ | refine Lo.fn _ _ ?_ | refine Lo.sl _ ?_ | intro _)), .lo _ (by repeat' (first | exact Lo.s _ | exact zai | refine zad ?_ ?_ | refine zak ?_ | refine Lo.cells ?_ | refine Lo.agg _ ?_ | refine Lo.ref _ ?_ | refine Lo.tup _ ?_ | refine Lo.fn _ _ ?_ | refine Lo.sl _ ?_ | intro _)), .lo _ (by repeat' (first | exact Lo.s _ | exact zai | refine zad ?_ ?_ | refine zak ?_ | refine Lo.cells ?_ | refine Lo.agg _ ?_ | refine Lo.ref _ ?_ | refine Lo.tup _ ?_ | refine Lo.fn _ _ ?_ | refine Lo.sl _ ?_ | intro _)), .lo _ (by repeat' (first | exact Lo.s _ | exact zai | refine zad ?_ ?_ | refine zak ?_ | refine Lo.cells ?_ | refine Lo.agg _ ?_ | refine Lo.ref _ ?_ | refine Lo.tup _ ?_ | refine Lo.fn _ _ ?_ | refine Lo.sl _ ?_ | intro _)), trivial⟩⟩
          by_cases e : i = k
          · subst e; omega
          · exact hall i (by omega)
    · (refine aw_exit ?_; repeat (first | refine ath_x ?_ | refine abl_hit ?_ | refine abl_miss rfl ?_ | refine zar ?_ | refine zap ?_ | refine zag ?_ | refine zae ?_ | refine zac ?_))
      refine zaf ?_
      refine zab rfl rfl (zaa rfl) (mv_s (.inr rfl) rfl) ?_
      refine zam ?_
      repeat (first | refine zag ?_ | refine zap ?_ | refine zae ?_ | refine zar ?_ | refine zac ?_)
      (refine zbw ?_; repeat (first | refine ath_r ?_ | refine abl_r ?_))
      exact post1 (.inr rfl) rfl (congrArg eB (cntB_t hl (fun j hj => hall j (by omega))).symm)
/-- whether period p is in a list -/
def inB (l : List Int) (p : Int) : Bool := l.any fun x => decide (x = p)
end Go.Proofs.Ytmoipmnhgdmkpaa.Aw
end
section
namespace Go.Proofs.Ytmoipmnhgdmkpaa.Aw
set_option linter.unusedSimpArgs false
set_option linter.unusedVariables false
set_option linter.unusedSectionVars false
open Go.RowKit Go.Proofs
variable {P : Program} [IsP P]

/-- how many people the first n shifts bring to period p -/
def cvP (l : List Sft) (c : List Int) : Nat → Nat → Int
  | 0, _ => 0
  | n + 1, p => cvP l c n p + if inB (gti l n).pd p = true then gti c n else 0
def okC (l : List Sft) (c : List Int) : Prop := c.length = l.length ∧ l.length ≤ 12 ∧ ∀ k, k < l.length → 0 ≤ gti c k ∧ gti c k ≤ 20
theorem cvP_bd {l : List Sft} {c : List Int} (h : okC l c) (p : Nat) : ∀ n, n ≤ l.length → 0 ≤ cvP l c n p ∧ cvP l c n p ≤ 20 * n
  | 0, _ => by simp [cvP]
  | n + 1, hn => by
    have ih := cvP_bd h p n (by omega)
    have h2 := h.2.2 n (by omega)
    unfold cvP
    split <;> omega
def shF (d : List Int) (l : List Sft) (c : List Int) : Nat → Nat → Int
  | 0, _ => -1
  | n + 1, k => if cvP l c l.length k < gti d k then (k : Int) else shF d l c n (k + 1)
def shE (d : List Int) (l : List Sft) (c : List Int) : Int := shF d l c d.length 0
/-- the row of the people, while the periods of shift i are gone through up to the j-th -/
def hasF (l : List Sft) (c : List Int) (i j : Nat) (p : Nat) : Int := cvP l c i p + if inB ((gti l i).pd.take j) p = true then gti c i else 0
def hasL (n : Nat) (l : List Sft) (c : List Int) (i j : Nat) : List Int := (List.range n).map (hasF l c i j)
theorem hasL_get {n : Nat} {l : List Sft} {c : List Int} {i j p : Nat} (h : p < n) : ((hasL n l c i j).map eI)[p]? = some (eI (hasF l c i j p)) := by
  unfold hasL
  rw [List.map_map, List.getElem?_map, List.getElem?_range h]; rfl
theorem inB_nil (p : Int) : inB [] p = false := rfl
theorem inB_iff {l : List Int} {p : Int} : inB l p = true ↔ p ∈ l := by
  unfold inB
  rw [List.any_eq_true]
  constructor
  · rintro ⟨x, h1, h2⟩; rw [decide_eq_true_eq] at h2; exact h2 ▸ h1
  · exact fun h => ⟨p, h, decide_eq_true rfl⟩
theorem take_snoc {α : Type} [Inhabited α] {l : List α} {k : Nat} (h : k < l.length) : l.take (k + 1) = l.take k ++ [gti l k] := by
  rw [List.take_add_one, gti_get h]; rfl
theorem inB_step {l : List Int} {j : Nat} (h : j < l.length) (p : Int) : inB (l.take (j + 1)) p = true ↔ inB (l.take j) p = true ∨ gti l j = p := by
  rw [inB_iff, inB_iff, take_snoc h, List.mem_append, List.mem_singleton]
  constructor
  · rintro (h | h); exact .inl h; exact .inr h.symm
  · rintro (h | h); exact .inl h; exact .inr h.symm
/-- the periods of a shift ascend -/
theorem asc {l : List Int} (h : ∀ k, k < l.length → 0 < k → gti l (k - 1) < gti l k) : ∀ b a, a < b → b < l.length → gti l a < gti l b
  | 0, a, hab, hb => by omega
  | b + 1, a, hab, hb => by
    have h1 := h (b + 1) hb (by omega)
    rw [Nat.add_sub_cancel] at h1
    by_cases e : a = b
    · subst e; exact h1
    · have := asc h b a (by omega) (by omega); omega
theorem inB_new {l : List Int} (h : ∀ k, k < l.length → 0 < k → gti l (k - 1) < gti l k) {j : Nat} (hj : j < l.length) : inB (l.take j) (gti l j) = false := by
  rw [Bool.eq_false_iff, Ne, inB_iff]
  intro hm
  obtain ⟨i, hi, he⟩ := List.mem_iff_getElem.1 hm
  have hi2 : i < j := by simp at hi; omega
  have h1 := asc h j i hi2 hj
  have h2 := gti_get (l := l) (k := i) (by omega)
  rw [List.getElem_take] at he
  rw [List.getElem?_eq_getElem (by omega)] at h2
  have := Option.some.inj h2
  omega
theorem has_set {n : Nat} {l : List Sft} {c : List Int} {i j p : Nat} (hj : j < (gti l i).pd.length) (hp : gti (gti l i).pd j = (p : Int)) (hpn : p < n) (hnew : inB ((gti l i).pd.take j) p = false) : ((hasL n l c i j).map eI).set p (eI (hasF l c i j p + gti c i)) = (hasL n l c i (j + 1)).map eI := by
  refine List.ext_getElem? fun q => ?_
  rw [List.getElem?_set]
  by_cases hqn : q < n
  · rw [hasL_get hqn]
    split
    · rename_i e
      subst e
      rw [if_pos (by simp [hasL]; exact hqn), hasL_get hqn]
      congr 2
      unfold hasF
      rw [if_neg (by rw [hnew]; simp), if_pos ((inB_step hj p).2 (.inr hp))]
      omega
    · rename_i e
      rw [hasL_get hqn]
      congr 2
      unfold hasF
      congr 1
      by_cases h1 : inB ((gti l i).pd.take j) q = true
      · rw [if_pos h1, if_pos ((inB_step hj q).2 (.inl h1))]
      · rw [if_neg h1, if_neg (fun h2 => by
          rcases (inB_step hj q).1 h2 with h3 | h3
          · exact h1 h3
          · omega)]
  · have e1 : ((hasL n l c i (j + 1)).map eI)[q]? = none := List.getElem?_eq_none (by simp [hasL]; omega)
    have e2 : ((hasL n l c i j).map eI)[q]? = none := List.getElem?_eq_none (by simp [hasL]; omega)
    rw [e1, e2]
    split
    · rename_i e; omega
    · rfl
theorem has_zero (n : Nat) (l : List Sft) (c : List Int) : List.replicate n (eI 0) = (hasL n l c 0 0).map eI := by
  refine List.ext_getElem? fun q => ?_
  by_cases hqn : q < n
  · rw [hasL_get hqn, List.getElem?_replicate, if_pos hqn]; rfl
  · rw [List.getElem?_eq_none (by simp; omega), List.getElem?_eq_none (by simp [hasL]; omega)]
theorem has_next (n : Nat) (l : List Sft) (c : List Int) (i : Nat) : hasL n l c i (gti l i).pd.length = hasL n l c (i + 1) 0 := by
  unfold hasL
  congr 1
  funext p
  unfold hasF
  rw [List.take_length, List.take_zero, inB_nil]
  simp [cvP]
theorem hasF_bd {l : List Sft} {c : List Int} (h : okC l c) {i : Nat} (hi : i < l.length) (j p : Nat) : 0 ≤ hasF l c i j p ∧ hasF l c i j p ≤ 20 * (i + 1) := by
  have h1 := cvP_bd h p i (by omega)
  have h2 := h.2.2 i hi
  unfold hasF
  split <;> omega
theorem hasF_zero (l : List Sft) (c : List Int) (p : Nat) (i : Nat) : hasF l c i 0 p = cvP l c i p := by
  unfold hasF; rw [List.take_zero, inB_nil, if_neg (by simp), Int.add_zero]
set_option maxHeartbeats 2000000 in
theorem short_pf (d : List Int) (l : List Sft) (c : List Int) (hv : validS d l = true) (hc : okC l c) : Pure P 23 [eL eI d, eL eSh l, eL eI c] (eI (shE d l c)) := by
  obtain ⟨⟨q1, q2, q3⟩, qd, ql⟩ := validS_iff hv
  have hcl := hc.1
  refine aw_fn (by rw [IsP.eq (P := P)]; exact Try.func23) rfl rfl rfl rfl rfl (by repeat' (first | exact Lo.s _ | exact zai | refine zad ?_ ?_ | refine zak ?_ | refine Lo.cells ?_ | refine Lo.agg _ ?_ | refine Lo.ref _ ?_ | refine Lo.tup _ ?_ | refine Lo.fn _ _ ?_ | refine Lo.sl _ ?_ | intro _)) (by repeat' (first | exact Lo.s _ | exact zai | refine zad ?_ ?_ | refine zak ?_ | refine Lo.cells ?_ | refine Lo.agg _ ?_ | refine Lo.ref _ ?_ | refine Lo.tup _ ?_ | refine Lo.fn _ _ ?_ | refine Lo.sl _ ?_ | intro _)) (by simp only [argF]; rfl) ?_
  repeat (first | refine zag ?_ | refine zap ?_ | refine zae ?_ | refine zar ?_ | refine zac ?_)
  refine zaf ?_
  refine zab rfl rfl (zaa rfl) (mv_s (.inr rfl) rfl) ?_
  refine zam ?_
  repeat (first | refine zag ?_ | refine zap ?_ | refine zae ?_ | refine zar ?_ | refine zac ?_)
  refine zaf ?_
  first | refine zab rfl rfl (zaa rfl) (za9 (.inl rfl) rfl) ?_ | refine zab rfl rfl (zaa rfl) (zbp (.inl rfl) rfl) ?_ | refine zab rfl rfl (zaa rfl) (mv_s (.inl rfl) rfl) ?_ | refine zab rfl rfl (zaa rfl) (zba (.inl rfl) rfl) ?_
  first | refine zab rfl rfl (zaa rfl) (za3 rfl ts22 rfl) ?_ | refine zab rfl rfl (zaa rfl) (za8 rfl ts22 rfl) ?_ | refine zab rfl rfl (zaa rfl) (za0 rfl ts22 rfl) ?_ | refine zab rfl rfl (zaa rfl) (zbe rfl ts22 rfl) ?_ | refine zab rfl rfl (zaa rfl) (za1 rfl ts22 rfl) ?_
  refine zab rfl rfl (zaa rfl) (does_make rfl ts22 ti3 rfl rfl (by decide) rfl rfl rfl rfl (by omega) (by omega) (by omega)) ?_
  first | refine zab rfl rfl (zaa rfl) (za9 (.inr rfl) rfl) ?_ | refine zab rfl rfl (zaa rfl) (zbp (.inr rfl) rfl) ?_ | refine zab rfl rfl (zaa rfl) (mv_s (.inr rfl) rfl) ?_ | refine zab rfl rfl (zaa rfl) (zba (.inr rfl) rfl) ?_
  refine zam ?_
  repeat (first | refine zag ?_ | refine zap ?_ | refine zae ?_ | refine zar ?_ | refine zac ?_)
  refine zaf ?_
  first | refine zab rfl rfl (zaa rfl) (za9 (.inl rfl) rfl) ?_ | refine zab rfl rfl (zaa rfl) (zbp (.inl rfl) rfl) ?_ | refine zab rfl rfl (zaa rfl) (mv_s (.inl rfl) rfl) ?_ | refine zab rfl rfl (zaa rfl) (zba (.inl rfl) rfl) ?_
  first | refine zab rfl rfl (zaa rfl) (za3 rfl ts23 rfl) ?_ | refine zab rfl rfl (zaa rfl) (za8 rfl ts23 rfl) ?_ | refine zab rfl rfl (zaa rfl) (za0 rfl ts23 rfl) ?_ | refine zab rfl rfl (zaa rfl) (zbe rfl ts23 rfl) ?_ | refine zab rfl rfl (zaa rfl) (za1 rfl ts23 rfl) ?_
  refine zab rfl rfl (zaa rfl) (mv_s (.inl rfl) rfl) ?_
  refine zam ?_
  repeat (first | refine zag ?_ | refine zap ?_ | refine zae ?_ | refine zar ?_ | refine zac ?_)
  refine aw_loops (S := Nat) (fun i => [(0, eL eI d), (1, eL eSh l), (2, eL eI c), (7, .own 0 1 d.length), (17, eL eSh l), (18, eI l.length), (19, eI i)]) (fun i => [.row 1 ((hasL d.length l c i 0).map eI)]) (fun i => i ≤ l.length) (fun i => l.length - i) 0 (wk_st [0] (by decide) ⟨⟨_, rfl, .rowE (by repeat' (first | exact Lo.s _ | exact zai | exact zbf | refine zad ?_ ?_ | refine za5 ?_ ?_ | refine zak ?_ | refine zbg ?_ | refine Lo.cells ?_ | refine Lo.agg _ ?_ | refine Lo.sl _ ?_ | intro _)) (has_zero d.length l c)⟩, trivial⟩ ⟨.lo _ (by repeat' (first | exact Lo.s _ | exact zai | refine zad ?_ ?_ | refine zak ?_ | refine Lo.cells ?_ | refine Lo.agg _ ?_ | refine Lo.ref _ ?_ | refine Lo.tup _ ?_ | refine Lo.fn _ _ ?_ | refine Lo.sl _ ?_ | intro _)), .lo _ (by repeat' (first | exact Lo.s _ | exact zai | refine zad ?_ ?_ | refine zak ?_ | refine Lo.cells ?_ | refine Lo.agg _ ?_ | refine Lo.ref _ ?_ | refine Lo.tup _ ?_ | refine Lo.fn _ _ ?_ | refine Lo.sl _ ?_ | intro _)), .lo _ (by repeat' (first | exact Lo.s _ | exact zai | refine zad ?_ ?_ | refine zak ?_ | refine Lo.cells ?_ | refine Lo.agg _ ?_ | refine Lo.ref _ ?_ | refine Lo.tup _ ?_ | refine Lo.fn _ _ ?_ | refine Lo.sl _ ?_ | intro _)), .own 0 0 1 _ _ rfl rfl, .lo _ (by repeat' (first | exact Lo.s _ | exact zai | refine zad ?_ ?_ | refine zak ?_ | refine Lo.cells ?_ | refine Lo.agg _ ?_ | refine Lo.ref _ ?_ | refine Lo.tup _ ?_ | refine Lo.fn _ _ ?_ | refine Lo.sl _ ?_ | intro _)), .lo _ (by repeat' (first | exact Lo.s _ | exact zai | refine zad ?_ ?_ | refine zak ?_ | refine Lo.cells ?_ | refine Lo.agg _ ?_ | refine Lo.ref _ ?_ | refine Lo.tup _ ?_ | refine Lo.fn _ _ ?_ | refine Lo.sl _ ?_ | intro _)), .lo _ (by repeat' (first | exact Lo.s _ | exact zai | refine zad ?_ ?_ | refine zak ?_ | refine Lo.cells ?_ | refine Lo.agg _ ?_ | refine Lo.ref _ ?_ | refine Lo.tup _ ?_ | refine Lo.fn _ _ ?_ | refine Lo.sl _ ?_ | intro _)), trivial⟩) (Nat.zero_le _) (fun i hi => ?_)
  repeat (first | refine zag ?_ | refine zap ?_ | refine zae ?_ | refine zar ?_ | refine zac ?_)
  all_goals refine zaf ?_
  all_goals (first | refine zbm rfl rfl (zaa rfl) (zbh rfl rfl rfl) (fun h20 => ?_) (fun h20 => ?_) | refine zbn rfl rfl (zaa rfl) (zbh rfl rfl rfl) (fun h20 => ?_) (fun h20 => ?_))
  all_goals refine zam ?_
  all_goals (repeat (first | refine zag ?_ | refine zap ?_ | refine zae ?_ | refine zar ?_ | refine zac ?_))
  all_goals (first | refine zbv rfl ?_ | refine zbr rfl ?_)
  all_goals (repeat (first | refine zag ?_ | refine zap ?_ | refine zae ?_ | refine zar ?_ | refine zac ?_))
  · have hlt : i < l.length := by omega
    obtain ⟨s, hs⟩ : ∃ s, gti l i = s := ⟨_, rfl⟩
    have hix : (l.map eSh)[i]? = some (eSh s) := by rw [← hs]; exact ix_map hlt
    have hsl := (ql i hlt).2
    rw [hs] at hsl
    refine zaf ?_
    refine zab rfl rfl (zaa rfl) (mv_s (.inl rfl) rfl) ?_
    first | refine zab rfl rfl (zaa rfl) (zaz rfl ts23 ti39 rfl rfl rfl hix rfl) ?_ | refine zab rfl rfl (zaa rfl) (zay rfl ts23 ti39 rfl rfl rfl hix) ?_
    first | refine zab rfl rfl (zaa rfl) (zax rfl ta39 ti39 rfl rfl) ?_ | refine zab rfl rfl (zaa rfl) (za6 rfl ta39 ti39 rfl rfl rfl rfl rfl) ?_ | refine zab rfl rfl (zaa rfl) (zav rfl ta39 ti39 rfl (Nat.le_of_ble_eq_true rfl)) ?_ | refine zab rfl rfl (zaa rfl) (za7 rfl ta39 ti39 rfl rfl rfl rfl (Nat.le_of_ble_eq_true rfl)) ?_
    refine zab rfl rfl (zaa rfl) (zbt rfl ti39 rfl rfl) ?_
    refine zab rfl rfl (zaa rfl) (mv_s (.inr rfl) rfl) ?_
    refine ops_eff rfl (zaa rfl) (zbd rfl ti39 rfl rfl rfl rfl rfl rfl (by decide) (by decide)) ?_
    refine zam ?_
    repeat (first | refine zag ?_ | refine zap ?_ | refine zae ?_ | refine zar ?_ | refine zac ?_)
    refine aw_weak (wk_froz (id := 1) rfl) ?_
    refine aw_weak (wk_ref (d := 9) rfl rfl rfl) ?_
    refine zaf ?_
    first | refine zab rfl rfl (zaa rfl) (zao rfl tf39_0 (by decide) rfl) ?_ | refine zab rfl rfl (zaa rfl) (zal rfl tf39_0 (by decide) rfl) ?_
    first | refine zab rfl rfl (zaa rfl) (zan rfl ta22 rfl) ?_ | refine zab rfl rfl (zaa rfl) (zas rfl ta22 rfl rfl rfl rfl rfl) ?_
    first | refine zab rfl rfl (zaa rfl) (za3 rfl ts22 rfl) ?_ | refine zab rfl rfl (zaa rfl) (za8 rfl ts22 rfl) ?_ | refine zab rfl rfl (zaa rfl) (za0 rfl ts22 rfl) ?_ | refine zab rfl rfl (zaa rfl) (zbe rfl ts22 rfl) ?_ | refine zab rfl rfl (zaa rfl) (za1 rfl ts22 rfl) ?_
    refine zab rfl rfl (zaa rfl) (mv_s (.inl rfl) rfl) ?_
    refine zam ?_
    repeat (first | refine zag ?_ | refine zap ?_ | refine zae ?_ | refine zar ?_ | refine zac ?_)
    refine aw_bdm (d := 25) rfl (fun hm3 => ?_)
    unfold maxLen at hm3
    refine aw_loops (S := Nat) (fun j => [(0, eL eI d), (1, eL eSh l), (2, eL eI c), (7, .own 0 1 d.length), (17, eL eSh l), (18, eI l.length), (19, eI i), (8, eI i), (25, eL eI s.pd), (26, eI s.pd.length), (27, eI j)]) (fun j => [.row 1 ((hasL d.length l c i j).map eI)]) (fun j => j ≤ s.pd.length) (fun j => s.pd.length - j) 0 (wk_st [0] (by decide) ⟨⟨_, rfl, .rowE (by repeat' (first | exact Lo.s _ | exact zai | exact zbf | refine zad ?_ ?_ | refine za5 ?_ ?_ | refine zak ?_ | refine zbg ?_ | refine Lo.cells ?_ | refine Lo.agg _ ?_ | refine Lo.sl _ ?_ | intro _)) rfl⟩, trivial⟩ ⟨.lo _ (by repeat' (first | exact Lo.s _ | exact zai | refine zad ?_ ?_ | refine zak ?_ | refine Lo.cells ?_ | refine Lo.agg _ ?_ | refine Lo.ref _ ?_ | refine Lo.tup _ ?_ | refine Lo.fn _ _ ?_ | refine Lo.sl _ ?_ | intro _)), .lo _ (by repeat' (first | exact Lo.s _ | exact zai | refine zad ?_ ?_ | refine zak ?_ | refine Lo.cells ?_ | refine Lo.agg _ ?_ | refine Lo.ref _ ?_ | refine Lo.tup _ ?_ | refine Lo.fn _ _ ?_ | refine Lo.sl _ ?_ | intro _)), .lo _ (by repeat' (first | exact Lo.s _ | exact zai | refine zad ?_ ?_ | refine zak ?_ | refine Lo.cells ?_ | refine Lo.agg _ ?_ | refine Lo.ref _ ?_ | refine Lo.tup _ ?_ | refine Lo.fn _ _ ?_ | refine Lo.sl _ ?_ | intro _)), .own 0 0 1 _ _ rfl rfl, .lo _ (by repeat' (first | exact Lo.s _ | exact zai | refine zad ?_ ?_ | refine zak ?_ | refine Lo.cells ?_ | refine Lo.agg _ ?_ | refine Lo.ref _ ?_ | refine Lo.tup _ ?_ | refine Lo.fn _ _ ?_ | refine Lo.sl _ ?_ | intro _)), .lo _ (by repeat' (first | exact Lo.s _ | exact zai | refine zad ?_ ?_ | refine zak ?_ | refine Lo.cells ?_ | refine Lo.agg _ ?_ | refine Lo.ref _ ?_ | refine Lo.tup _ ?_ | refine Lo.fn _ _ ?_ | refine Lo.sl _ ?_ | intro _)), .lo _ (by repeat' (first | exact Lo.s _ | exact zai | refine zad ?_ ?_ | refine zak ?_ | refine Lo.cells ?_ | refine Lo.agg _ ?_ | refine Lo.ref _ ?_ | refine Lo.tup _ ?_ | refine Lo.fn _ _ ?_ | refine Lo.sl _ ?_ | intro _)), .lo _ (by repeat' (first | exact Lo.s _ | exact zai | refine zad ?_ ?_ | refine zak ?_ | refine Lo.cells ?_ | refine Lo.agg _ ?_ | refine Lo.ref _ ?_ | refine Lo.tup _ ?_ | refine Lo.fn _ _ ?_ | refine Lo.sl _ ?_ | intro _)), .lo _ (by repeat' (first | exact Lo.s _ | exact zai | refine zad ?_ ?_ | refine zak ?_ | refine Lo.cells ?_ | refine Lo.agg _ ?_ | refine Lo.ref _ ?_ | refine Lo.tup _ ?_ | refine Lo.fn _ _ ?_ | refine Lo.sl _ ?_ | intro _)), .lo _ (by repeat' (first | exact Lo.s _ | exact zai | refine zad ?_ ?_ | refine zak ?_ | refine Lo.cells ?_ | refine Lo.agg _ ?_ | refine Lo.ref _ ?_ | refine Lo.tup _ ?_ | refine Lo.fn _ _ ?_ | refine Lo.sl _ ?_ | intro _)), .lo _ (by repeat' (first | exact Lo.s _ | exact zai | refine zad ?_ ?_ | refine zak ?_ | refine Lo.cells ?_ | refine Lo.agg _ ?_ | refine Lo.ref _ ?_ | refine Lo.tup _ ?_ | refine Lo.fn _ _ ?_ | refine Lo.sl _ ?_ | intro _)), trivial⟩) (Nat.zero_le _) (fun j hj => ?_)
    repeat (first | refine zag ?_ | refine zap ?_ | refine zae ?_ | refine zar ?_ | refine zac ?_)
    all_goals refine zaf ?_
    all_goals (first | refine zbm rfl rfl (zaa rfl) (zbh rfl rfl rfl) (fun h28 => ?_) (fun h28 => ?_) | refine zbn rfl rfl (zaa rfl) (zbh rfl rfl rfl) (fun h28 => ?_) (fun h28 => ?_))
    all_goals refine zam ?_
    all_goals (repeat (first | refine zag ?_ | refine zap ?_ | refine zae ?_ | refine zar ?_ | refine zac ?_))
    all_goals (first | refine zbv rfl ?_ | refine zbr rfl ?_)
    all_goals (repeat (first | refine zag ?_ | refine zap ?_ | refine zae ?_ | refine zar ?_ | refine zac ?_))
    · have hlt2 : j < s.pd.length := by omega
      obtain ⟨g1, g2, g3⟩ := hsl j hlt2
      obtain ⟨p, hp⟩ : ∃ p : Nat, gti s.pd j = (p : Int) := ⟨(gti s.pd j).toNat, by omega⟩
      have hpn : p < d.length := by omega
      have hnew : inB ((gti l i).pd.take j) p = false := by
        rw [hs, ← hp]; exact inB_new (fun k hk h0 => (hsl k hk).2.2 h0) hlt2
      have hget := hasL_get (l := l) (c := c) (i := i) (j := j) hpn
      have hset := has_set (c := c) (by rw [hs]; exact hlt2) (by rw [hs]; exact hp) hpn hnew
      have hbd := hasF_bd hc hlt j p
      have hcb := hc.2.2 i hlt
      refine zaf ?_
      first | refine zab rfl rfl (zaa rfl) (zaz rfl ts22 ti3 rfl rfl rfl (ix_map (by omega)) rfl) ?_ | refine zab rfl rfl (zaa rfl) (zay rfl ts22 ti3 rfl rfl rfl (by omega)) ?_
      first | refine zab rfl rfl (zaa rfl) (zan rfl ta3 rfl) ?_ | refine zab rfl rfl (zaa rfl) (zas rfl ta3 rfl rfl rfl rfl rfl) ?_
      refine zab rfl rfl (zaa rfl) (mv_s (.inr rfl) rfl) ?_
      refine zam ?_
      repeat (first | refine zag ?_ | refine zap ?_ | refine zae ?_ | refine zar ?_ | refine zac ?_)
      refine aw_draw hmix ?_
      refine adraw_lastT rfl (by kernel_rfl) ?_
      refine adraw_quiet (by kernel_rfl) ?_
      simp only [List.dropLast]
      first | refine za4 rfl rfl (zaa rfl) (za9 (.inl rfl) rfl) ?_ | refine za4 rfl rfl (zaa rfl) (zbp (.inl rfl) rfl) ?_ | refine za4 rfl rfl (zaa rfl) (mv_s (.inl rfl) rfl) ?_ | refine za4 rfl rfl (zaa rfl) (zba (.inl rfl) rfl) ?_
      refine za4 rfl rfl (zaa rfl) (mv_s (.inl rfl) rfl) ?_
      first | refine za4 rfl rfl (zaa rfl) (zaz rfl ts22 ti3 rfl rfl hp hpn rfl) ?_ | refine za4 rfl rfl (zaa rfl) (zay rfl ts22 ti3 rfl rfl hp hpn) ?_
      first | refine za4 rfl rfl (zaa rfl) (zan rfl ta3 rfl) ?_ | refine za4 rfl rfl (zaa rfl) (zas rfl ta3 rfl rfl rfl hget rfl) ?_
      first | refine za4 rfl rfl (zaa rfl) (za9 (.inl rfl) rfl) ?_ | refine za4 rfl rfl (zaa rfl) (zbp (.inl rfl) rfl) ?_ | refine za4 rfl rfl (zaa rfl) (mv_s (.inl rfl) rfl) ?_ | refine za4 rfl rfl (zaa rfl) (zba (.inl rfl) rfl) ?_
      refine za4 rfl rfl (zaa rfl) (mv_s (.inl rfl) rfl) ?_
      first | refine za4 rfl rfl (zaa rfl) (zaz rfl ts22 ti3 rfl rfl rfl (ix_map (by omega)) rfl) ?_ | refine za4 rfl rfl (zaa rfl) (zay rfl ts22 ti3 rfl rfl rfl (by omega)) ?_
      first | refine za4 rfl rfl (zaa rfl) (zan rfl ta3 rfl) ?_ | refine za4 rfl rfl (zaa rfl) (zas rfl ta3 rfl rfl rfl rfl rfl) ?_
      refine za4 rfl rfl (zaa rfl) (does_add rfl rfl rfl (IntWalk.i64_in _ (by omega))) ?_
      first | refine za4 rfl rfl (zaa rfl) (zaz rfl ts22 ti3 rfl rfl hp hpn rfl) ?_ | refine za4 rfl rfl (zaa rfl) (zay rfl ts22 ti3 rfl rfl hp hpn) ?_
      refine qx_nil ?_
      refine zap ?_
      refine ops_eff rfl (zaa rfl) (zbd rfl ti3 rfl rfl rfl hget rfl rfl (by decide) (by decide)) ?_
      refine zam ?_
      repeat (first | refine zag ?_ | refine zap ?_ | refine zae ?_ | refine zar ?_ | refine zac ?_)
      refine zaf ?_
      refine zab rfl rfl (zaa rfl) (does_add rfl rfl rfl (IntWalk.i64_in _ (by omega))) ?_
      refine zab rfl rfl (zaa rfl) (mv_s (.inl rfl) rfl) ?_
      refine zam ?_
      repeat (first | refine zag ?_ | refine zap ?_ | refine zae ?_ | refine zar ?_ | refine zac ?_)
      exact ⟨j + 1, by omega, by omega, wk_st [0] (by decide) ⟨⟨_, rfl, .rowE (by repeat' (first | exact Lo.s _ | exact zai | exact zbf | refine zad ?_ ?_ | refine za5 ?_ ?_ | refine zak ?_ | refine zbg ?_ | refine Lo.cells ?_ | refine Lo.agg _ ?_ | refine Lo.sl _ ?_ | intro _)) hset⟩, trivial⟩ ⟨.lo _ (by repeat' (first | exact Lo.s _ | exact zai | refine zad ?_ ?_ | refine zak ?_ | refine Lo.cells ?_ | refine Lo.agg _ ?_ | refine Lo.ref _ ?_ | refine Lo.tup _ ?_ | refine Lo.fn _ _ ?_ | refine Lo.sl _ ?_ | intro _)), .lo _ (by repeat' (first | exact Lo.s _ | exact zai | refine zad ?_ ?_ | refine zak ?_ | refine Lo.cells ?_ | refine Lo.agg _ ?_ | refine Lo.ref _ ?_ | refine Lo.tup _ ?_ | refine Lo.fn _ _ ?_ | refine Lo.sl _ ?_ | intro _)), .lo _ (by repeat' (first | exact Lo.s _ | exact zai | refine zad ?_ ?_ | refine zak ?_ | refine Lo.cells ?_ | refine Lo.agg _ ?_ | refine Lo.ref _ ?_ | refine Lo.tup _ ?_ | refine Lo.fn _ _ ?_ | refine Lo.sl _ ?_ | intro _)), .own 0 0 1 _ _ rfl rfl, .lo _ (by repeat' (first | exact Lo.s _ | exact zai | refine zad ?_ ?_ | refine zak ?_ | refine Lo.cells ?_ | refine Lo.agg _ ?_ | refine Lo.ref _ ?_ | refine Lo.tup _ ?_ | refine Lo.fn _ _ ?_ | refine Lo.sl _ ?_ | intro _)), .lo _ (by repeat' (first | exact Lo.s _ | exact zai | refine zad ?_ ?_ | refine zak ?_ | refine Lo.cells ?_ | refine Lo.agg _ ?_ | refine Lo.ref _ ?_ | refine Lo.tup _ ?_ | refine Lo.fn _ _ ?_ | refine Lo.sl _ ?_ | intro _)), .lo _ (by repeat' (first | exact Lo.s _ | exact zai | refine zad ?_ ?_ | refine zak ?_ | refine Lo.cells ?_ | refine Lo.agg _ ?_ | refine Lo.ref _ ?_ | refine Lo.tup _ ?_ | refine Lo.fn _ _ ?_ | refine Lo.sl _ ?_ | intro _)), .lo _ (by repeat' (first | exact Lo.s _ | exact zai | refine zad ?_ ?_ | refine zak ?_ | refine Lo.cells ?_ | refine Lo.agg _ ?_ | refine Lo.ref _ ?_ | refine Lo.tup _ ?_ | refine Lo.fn _ _ ?_ | refine Lo.sl _ ?_ | intro _)), .lo _ (by repeat' (first | exact Lo.s _ | exact zai | refine zad ?_ ?_ | refine zak ?_ | refine Lo.cells ?_ | refine Lo.agg _ ?_ | refine Lo.ref _ ?_ | refine Lo.tup _ ?_ | refine Lo.fn _ _ ?_ | refine Lo.sl _ ?_ | intro _)), .lo _ (by repeat' (first | exact Lo.s _ | exact zai | refine zad ?_ ?_ | refine zak ?_ | refine Lo.cells ?_ | refine Lo.agg _ ?_ | refine Lo.ref _ ?_ | refine Lo.tup _ ?_ | refine Lo.fn _ _ ?_ | refine Lo.sl _ ?_ | intro _)), .lo _ (by repeat' (first | exact Lo.s _ | exact zai | refine zad ?_ ?_ | refine zak ?_ | refine Lo.cells ?_ | refine Lo.agg _ ?_ | refine Lo.ref _ ?_ | refine Lo.tup _ ?_ | refine Lo.fn _ _ ?_ | refine Lo.sl _ ?_ | intro _)), trivial⟩⟩
    · have e : j = s.pd.length := by omega
      subst e
      (refine aw_exit ?_; repeat (first | refine ath_x ?_ | refine abl_hit ?_ | refine abl_miss rfl ?_ | refine zar ?_ | refine zap ?_ | refine zag ?_ | refine zae ?_ | refine zac ?_))
      refine zaf ?_
      refine zab rfl rfl (zaa rfl) (does_add rfl rfl rfl (IntWalk.i64_in _ (by omega))) ?_
      refine zab rfl rfl (zaa rfl) (mv_s (.inl rfl) rfl) ?_
      refine zam ?_
      repeat (first | refine zag ?_ | refine zap ?_ | refine zae ?_ | refine zar ?_ | refine zac ?_)
      have hnx := has_next d.length l c i
      rw [hs] at hnx
      exact ⟨i + 1, by omega, by omega, wk_st [0] (by decide) ⟨⟨_, rfl, .rowE (by repeat' (first | exact Lo.s _ | exact zai | exact zbf | refine zad ?_ ?_ | refine za5 ?_ ?_ | refine zak ?_ | refine zbg ?_ | refine Lo.cells ?_ | refine Lo.agg _ ?_ | refine Lo.sl _ ?_ | intro _)) (by rw [hnx])⟩, trivial⟩ ⟨.lo _ (by repeat' (first | exact Lo.s _ | exact zai | refine zad ?_ ?_ | refine zak ?_ | refine Lo.cells ?_ | refine Lo.agg _ ?_ | refine Lo.ref _ ?_ | refine Lo.tup _ ?_ | refine Lo.fn _ _ ?_ | refine Lo.sl _ ?_ | intro _)), .lo _ (by repeat' (first | exact Lo.s _ | exact zai | refine zad ?_ ?_ | refine zak ?_ | refine Lo.cells ?_ | refine Lo.agg _ ?_ | refine Lo.ref _ ?_ | refine Lo.tup _ ?_ | refine Lo.fn _ _ ?_ | refine Lo.sl _ ?_ | intro _)), .lo _ (by repeat' (first | exact Lo.s _ | exact zai | refine zad ?_ ?_ | refine zak ?_ | refine Lo.cells ?_ | refine Lo.agg _ ?_ | refine Lo.ref _ ?_ | refine Lo.tup _ ?_ | refine Lo.fn _ _ ?_ | refine Lo.sl _ ?_ | intro _)), .own 0 0 1 _ _ rfl rfl, .lo _ (by repeat' (first | exact Lo.s _ | exact zai | refine zad ?_ ?_ | refine zak ?_ | refine Lo.cells ?_ | refine Lo.agg _ ?_ | refine Lo.ref _ ?_ | refine Lo.tup _ ?_ | refine Lo.fn _ _ ?_ | refine Lo.sl _ ?_ | intro _)), .lo _ (by repeat' (first | exact Lo.s _ | exact zai | refine zad ?_ ?_ | refine zak ?_ | refine Lo.cells ?_ | refine Lo.agg _ ?_ | refine Lo.ref _ ?_ | refine Lo.tup _ ?_ | refine Lo.fn _ _ ?_ | refine Lo.sl _ ?_ | intro _)), .lo _ (by repeat' (first | exact Lo.s _ | exact zai | refine zad ?_ ?_ | refine zak ?_ | refine Lo.cells ?_ | refine Lo.agg _ ?_ | refine Lo.ref _ ?_ | refine Lo.tup _ ?_ | refine Lo.fn _ _ ?_ | refine Lo.sl _ ?_ | intro _)), trivial⟩⟩
  · have e : i = l.length := by omega
    subst e
    have HI : shE d l c = shF d l c d.length 0 := rfl
    generalize shE d l c = R at HI ⊢
    (refine aw_exit ?_; repeat (first | refine ath_x ?_ | refine abl_hit ?_ | refine abl_miss rfl ?_ | refine zar ?_ | refine zap ?_ | refine zag ?_ | refine zae ?_ | refine zac ?_))
    refine zaf ?_
    first | refine zab rfl rfl (zaa rfl) (za9 (.inl rfl) rfl) ?_ | refine zab rfl rfl (zaa rfl) (zbp (.inl rfl) rfl) ?_ | refine zab rfl rfl (zaa rfl) (mv_s (.inl rfl) rfl) ?_ | refine zab rfl rfl (zaa rfl) (zba (.inl rfl) rfl) ?_
    first | refine zab rfl rfl (zaa rfl) (za3 rfl ts22 rfl) ?_ | refine zab rfl rfl (zaa rfl) (za8 rfl ts22 rfl) ?_ | refine zab rfl rfl (zaa rfl) (za0 rfl ts22 rfl) ?_ | refine zab rfl rfl (zaa rfl) (zbe rfl ts22 rfl) ?_ | refine zab rfl rfl (zaa rfl) (za1 rfl ts22 rfl) ?_
    refine zab rfl rfl (zaa rfl) (mv_s (.inl rfl) rfl) ?_
    refine zam ?_
    repeat (first | refine zag ?_ | refine zap ?_ | refine zae ?_ | refine zar ?_ | refine zac ?_)
    refine aw_loops (S := Nat) (fun k => [(7, .own 0 1 d.length), (43, eL eI d), (44, eI d.length), (45, eI k)]) (fun k => [.row 1 ((hasL d.length l c l.length 0).map eI)]) (fun k => k ≤ d.length ∧ R = shF d l c (d.length - k) k) (fun k => d.length - k) 0 (wk_st [0] (by decide) ⟨⟨_, rfl, .rowE (by repeat' (first | exact Lo.s _ | exact zai | exact zbf | refine zad ?_ ?_ | refine za5 ?_ ?_ | refine zak ?_ | refine zbg ?_ | refine Lo.cells ?_ | refine Lo.agg _ ?_ | refine Lo.sl _ ?_ | intro _)) rfl⟩, trivial⟩ ⟨.own 0 0 1 _ _ rfl rfl, .lo _ (by repeat' (first | exact Lo.s _ | exact zai | refine zad ?_ ?_ | refine zak ?_ | refine Lo.cells ?_ | refine Lo.agg _ ?_ | refine Lo.ref _ ?_ | refine Lo.tup _ ?_ | refine Lo.fn _ _ ?_ | refine Lo.sl _ ?_ | intro _)), .lo _ (by repeat' (first | exact Lo.s _ | exact zai | refine zad ?_ ?_ | refine zak ?_ | refine Lo.cells ?_ | refine Lo.agg _ ?_ | refine Lo.ref _ ?_ | refine Lo.tup _ ?_ | refine Lo.fn _ _ ?_ | refine Lo.sl _ ?_ | intro _)), .lo _ (by repeat' (first | exact Lo.s _ | exact zai | refine zad ?_ ?_ | refine zak ?_ | refine Lo.cells ?_ | refine Lo.agg _ ?_ | refine Lo.ref _ ?_ | refine Lo.tup _ ?_ | refine Lo.fn _ _ ?_ | refine Lo.sl _ ?_ | intro _)), trivial⟩) ⟨Nat.zero_le _, HI⟩ (fun k hk => ?_)
    obtain ⟨hk, HI⟩ := hk
    repeat (first | refine zag ?_ | refine zap ?_ | refine zae ?_ | refine zar ?_ | refine zac ?_)
    all_goals refine zaf ?_
    all_goals (first | refine zbm rfl rfl (zaa rfl) (zbh rfl rfl rfl) (fun h46 => ?_) (fun h46 => ?_) | refine zbn rfl rfl (zaa rfl) (zbh rfl rfl rfl) (fun h46 => ?_) (fun h46 => ?_))
    all_goals refine zam ?_
    all_goals (repeat (first | refine zag ?_ | refine zap ?_ | refine zae ?_ | refine zar ?_ | refine zac ?_))
    all_goals (first | refine zbv rfl ?_ | refine zbr rfl ?_)
    all_goals (repeat (first | refine zag ?_ | refine zap ?_ | refine zae ?_ | refine zar ?_ | refine zac ?_))
    · have hlt : k < d.length := by omega
      have hget := hasL_get (l := l) (c := c) (i := l.length) (j := 0) hlt
      rw [hasF_zero] at hget
      rw [show d.length - k = (d.length - (k + 1)) + 1 by omega, shF] at HI
      refine zaf ?_
      refine zab rfl rfl (zaa rfl) (mv_s (.inl rfl) rfl) ?_
      first | refine zab rfl rfl (zaa rfl) (zaz rfl ts22 ti3 rfl rfl rfl (ix_map (by omega)) rfl) ?_ | refine zab rfl rfl (zaa rfl) (zay rfl ts22 ti3 rfl rfl rfl (by omega)) ?_
      first | refine zab rfl rfl (zaa rfl) (zan rfl ta3 rfl) ?_ | refine zab rfl rfl (zaa rfl) (zas rfl ta3 rfl rfl rfl rfl rfl) ?_
      refine zab rfl rfl (zaa rfl) (mv_s (.inr rfl) rfl) ?_
      refine zab rfl rfl (zaa rfl) (mv_s (.inr rfl) rfl) ?_
      refine zam ?_
      repeat (first | refine zag ?_ | refine zap ?_ | refine zae ?_ | refine zar ?_ | refine zac ?_)
      all_goals refine zaf ?_
      all_goals (first | refine zab rfl rfl (zaa rfl) (za9 (.inl rfl) rfl) ?_ | refine zab rfl rfl (zaa rfl) (zbp (.inl rfl) rfl) ?_ | refine zab rfl rfl (zaa rfl) (mv_s (.inl rfl) rfl) ?_ | refine zab rfl rfl (zaa rfl) (zba (.inl rfl) rfl) ?_)
      all_goals refine zab rfl rfl (zaa rfl) (mv_s (.inl rfl) rfl) ?_
      all_goals (first | refine zab rfl rfl (zaa rfl) (zaz rfl ts22 ti3 rfl rfl rfl hlt rfl) ?_ | refine zab rfl rfl (zaa rfl) (zay rfl ts22 ti3 rfl rfl rfl hlt) ?_)
      all_goals (first | refine zab rfl rfl (zaa rfl) (zan rfl ta3 rfl) ?_ | refine zab rfl rfl (zaa rfl) (zas rfl ta3 rfl rfl rfl hget rfl) ?_)
      all_goals refine zab rfl rfl (zaa rfl) (mv_s (.inl rfl) rfl) ?_
      all_goals (first | refine zbm rfl rfl (zaa rfl) (zbh rfl rfl rfl) (fun h55 => ?_) (fun h55 => ?_) | refine zbn rfl rfl (zaa rfl) (zbh rfl rfl rfl) (fun h55 => ?_) (fun h55 => ?_))
      all_goals refine zam ?_
      all_goals (repeat (first | refine zag ?_ | refine zap ?_ | refine zae ?_ | refine zar ?_ | refine zac ?_))
      all_goals (first | refine zbv rfl ?_ | refine zbr rfl ?_)
      all_goals (repeat (first | refine zag ?_ | refine zap ?_ | refine zae ?_ | refine zar ?_ | refine zac ?_))
      · rw [if_pos (by omega)] at HI
        refine zaf ?_
        refine zab rfl rfl (zaa rfl) (mv_s (.inl rfl) rfl) ?_
        refine zab rfl rfl (zaa rfl) (mv_s (.inr rfl) rfl) ?_
        refine zam ?_
        repeat (first | refine zag ?_ | refine zap ?_ | refine zae ?_ | refine zar ?_ | refine zac ?_)
        (refine zbw ?_; repeat (first | refine ath_r ?_ | refine abl_r ?_))
        exact post1 (.inr rfl) rfl (congrArg eI HI.symm)
      · rw [if_neg (by omega)] at HI
        refine zaf ?_
        refine zab rfl rfl (zaa rfl) (does_add rfl rfl rfl (IntWalk.i64_in _ (by omega))) ?_
        refine zab rfl rfl (zaa rfl) (mv_s (.inl rfl) rfl) ?_
        refine zam ?_
        repeat (first | refine zag ?_ | refine zap ?_ | refine zae ?_ | refine zar ?_ | refine zac ?_)
        exact ⟨k + 1, ⟨by omega, HI⟩, by omega, wk_st [0] (by decide) ⟨⟨_, rfl, .rowE (by repeat' (first | exact Lo.s _ | exact zai | exact zbf | refine zad ?_ ?_ | refine za5 ?_ ?_ | refine zak ?_ | refine zbg ?_ | refine Lo.cells ?_ | refine Lo.agg _ ?_ | refine Lo.sl _ ?_ | intro _)) rfl⟩, trivial⟩ ⟨.own 0 0 1 _ _ rfl rfl, .lo _ (by repeat' (first | exact Lo.s _ | exact zai | refine zad ?_ ?_ | refine zak ?_ | refine Lo.cells ?_ | refine Lo.agg _ ?_ | refine Lo.ref _ ?_ | refine Lo.tup _ ?_ | refine Lo.fn _ _ ?_ | refine Lo.sl _ ?_ | intro _)), .lo _ (by repeat' (first | exact Lo.s _ | exact zai | refine zad ?_ ?_ | refine zak ?_ | refine Lo.cells ?_ | refine Lo.agg _ ?_ | refine Lo.ref _ ?_ | refine Lo.tup _ ?_ | refine Lo.fn _ _ ?_ | refine Lo.sl _ ?_ | intro _)), .lo _ (by repeat' (first | exact Lo.s _ | exact zai | refine zad ?_ ?_ | refine zak ?_ | refine Lo.cells ?_ | refine Lo.agg _ ?_ | refine Lo.ref _ ?_ | refine Lo.tup _ ?_ | refine Lo.fn _ _ ?_ | refine Lo.sl _ ?_ | intro _)), trivial⟩⟩
    · rw [show d.length - k = 0 by omega, shF] at HI
      (refine aw_exit ?_; repeat (first | refine ath_x ?_ | refine abl_hit ?_ | refine abl_miss rfl ?_ | refine zar ?_ | refine zap ?_ | refine zag ?_ | refine zae ?_ | refine zac ?_))
      refine zaf ?_
      refine zab rfl rfl (zaa rfl) (mv_s (.inr rfl) rfl) ?_
      refine zam ?_
      repeat (first | refine zag ?_ | refine zap ?_ | refine zae ?_ | refine zar ?_ | refine zac ?_)
      (refine zbw ?_; repeat (first | refine ath_r ?_ | refine abl_r ?_))
      exact post1 (.inr rfl) rfl (congrArg eI HI.symm)
end Go.Proofs.Ytmoipmnhgdmkpaa.Aw
end
section
namespace Go.Proofs.Ytmoipmnhgdmkpaa.Aw
set_option linter.unusedSimpArgs false
set_option linter.unusedVariables false
open Go.RowKit
def RnL (ρ : List Nat) (l l' : List AV) : Prop := l.length = l'.length ∧ ∀ (j : Nat) x y, l[j]? = some x → l'[j]? = some y → Rn ρ x y
theorem RnL.nil {ρ : List Nat} : RnL ρ [] [] := ⟨rfl, by simp⟩
theorem RnL.cons {ρ : List Nat} {x y : AV} {l l' : List AV} (h : Rn ρ x y) (t : RnL ρ l l') : RnL ρ (x :: l) (y :: l') := by
  refine ⟨by simp [t.1], fun j a b ha hb => ?_⟩
  cases j with
  | zero => simp at ha hb; subst ha hb; exact h
  | succ j => exact t.2 j a b (by simpa using ha) (by simpa using hb)
/-- a struct of the call's own that names rows of the call's own -/
theorem obRn_agg {ρ : List Nat} {sz : Nat} {cs cs' : List AV} (h : RnL ρ cs cs') : ObRn ρ (.row sz [.agg cs]) (.row sz [.agg cs']) := .rowR sz _ _ (.agg cs cs' h.1 h.2) h.2 h.1
section
variable {N : Nat} {F F' : Frm} {σ σ' : List Ob}
/-- a row is read in another way -/
theorem reread_rel {G : Cx} {id sz : Nat} {cs cs' : List AV} (hr : Rel G σ) (hs : σ[id]? = some (.row sz cs)) (h0 : cs = [] → cs' = []) (h : ∀ b f, RowAt G b sz cs f → RowAt G b sz cs' f) : Rel G (σ.set id (.row sz cs')) := by
  have hid : id < σ.length := (List.getElem?_eq_some_iff.1 hs).1
  refine ⟨hr.below, hr.le, hr.st, fun i ob hob => ?_, fun i j b hi hj hm hm' => ?_, fun i hi => hr.fresh i (by simpa using hi)⟩
  · by_cases hi : id = i
    · subst hi
      rw [List.getElem?_set_self hid] at hob
      cases hob
      have h1 := hr.obs id _ hs
      simp only [ObOk] at h1 ⊢
      cases hx : G.mu id with
      | none => rw [hx] at h1; exact h1
      | some x =>
        rw [hx] at h1
        cases x with
        | none => exact h0 h1
        | some b => exact ⟨h b _ h1.1, h1.2⟩
    · rw [List.getElem?_set_ne hi] at hob; exact hr.obs i ob hob
  · have old : ∀ i, alive (σ.set id (.row sz cs')) i → alive σ i := by
      rintro i ⟨sz1, cs1, hi⟩
      by_cases h2 : id = i
      · subst h2; exact ⟨sz, cs, hs⟩
      · rw [List.getElem?_set_ne h2] at hi; exact ⟨sz1, cs1, hi⟩
    exact hr.inj i j b (old i hi) (old j hj) hm hm'
/-- nil in a struct of the call's own, as an empty row of the call's own -/
theorem wk_ownC {id sz sz2 : Nat} {e e' : AV} {pre post : List AV} (hs : σ[id]? = some (.row sz [e])) (h1 : e.cells = pre ++ .s (.slice none 0 0) :: post) (h2 : e'.cells = pre ++ .own σ.length sz2 0 :: post) :
    Weak N F σ F (σ.set id (.row sz [e']) ++ [.row sz2 []]) := fun G a h => by
  have he := nil_ext h.rel
  have hr := nil_rel h.rel sz2
  have hid : id < σ.length := (List.getElem?_eq_some_iff.1 hs).1
  refine ⟨G.new σ.length G.w none, rfl, he.step, ?_, h.fr.ext he, h.df, h.nt⟩
  have hset : σ.set id (Ob.row sz [e']) ++ [Ob.row sz2 []] = (σ ++ [Ob.row sz2 []]).set id (Ob.row sz [e']) := by rw [List.set_append_left _ _ hid]
  rw [hset]
  refine reread_rel hr (by rw [List.getElem?_append_left hid]; exact hs) (fun h => by cases h) ?_
  rintro b f ⟨cur, t, fr, g1, g2, g3, g4⟩
  refine ⟨cur, t, fr, g1, g2, g3, fun k y hy => ?_⟩
  cases k with
  | succ k => simp at hy
  | zero =>
    simp at hy
    subst hy
    obtain ⟨k1, k2, k3⟩ := g4 0 e rfl
    rw [h1] at k1 k2 k3
    rw [h2]
    refine ⟨by simpa using k1, fun c hc => ?_, fun j c hc => ?_⟩
    · simp only [List.mem_append, List.mem_cons] at hc
      rcases hc with hc | rfl | hc
      · exact k2 c (by simp [hc])
      · rfl
      · exact k2 c (by simp [hc])
    · by_cases hj : j = pre.length
      · subst hj
        simp at hc
        subst hc
        obtain ⟨v, h6, h7⟩ := k3 pre.length (.s (.slice none 0 0)) (by simp)
        refine ⟨v, h6, ?_⟩
        cases h7
        exact .own0 σ.length sz2 none (fun a ha => by cases ha) (by simp [Cx.new])
      · have e : (pre ++ AV.s (.slice none 0 0) :: post)[j]? = some c := by
          rw [← hc]
          by_cases hlt : j < pre.length
          · rw [List.getElem?_append_left hlt, List.getElem?_append_left hlt]
          · rw [List.getElem?_append_right (by omega), List.getElem?_append_right (by omega)]
            obtain ⟨i, hi⟩ : ∃ i, j - pre.length = i + 1 := ⟨j - pre.length - 1, by omega⟩
            rw [hi]; rfl
        exact k3 j c e
end
section
variable {P : Program} {o : Oper} {F : Frm} {σ : List Ob}
/-- a new row that is finished at once -/
theorem does_fin {sz n : Nat} {l : List AV} (h : Does P o F [] (.own 0 sz n) [.row sz l]) (hn : n = l.length) (hop0 : ∀ y ∈ o.op.operands, Lo 0 (F.eval y)) (hlo : Lo 0 (.sl l)) : Does P o F σ (.sl l) σ := by
  intro G a next Q hr hop hk
  obtain ⟨G0, hG0⟩ : ∃ G0 : Cx, G0 = { base := G.w.heap.size, w0 := G.w, w := G.w, mu := fun _ => none, St := G.St } := ⟨_, rfl⟩
  have hr0 : Rel G0 [] := by
    subst hG0
    exact ⟨Below.refl _ _, Nat.le_refl _, hr.st, fun id ob h => by simp at h, fun i j b hi _ _ _ => by obtain ⟨_, _, h⟩ := hi; simp at h, fun _ _ => rfl⟩
  have hw : G.w = G0.w := by subst hG0; rfl
  rw [hw]
  refine h G0 a next Q hr0 (fun y hy => (hop y hy).low (hop0 y hy) (by subst hG0; exact fun _ _ h => h) (by subst hG0; exact fun _ _ _ => rfl) (fun id y h => by omega) (fun h => by omega)) (fun v G1 he hr1 hrep => ?_)
  obtain ⟨he2, hr2⟩ := froz_ok hr1 (id := 0) (sz := sz) (cs := l) rfl
  have hrep2 := rep_fz hr2 (id := 0) (sz := sz) (cs := l) rfl hn (hrep.ext he2)
  have hb0 : G1.base = G.w.heap.size := by rw [he.base]; subst hG0; rfl
  have hw0 : (G1.froz 0).w0 = G.w := by show G1.w0 = _; rw [he.w0]; subst hG0; rfl
  have hbel : Below G.w.heap.size G.w (G1.froz 0).w := by have := hr2.below; rwa [show (G1.froz 0).base = G.w.heap.size from hb0, hw0] at this
  have hSt : G0.St = G.St := by subst hG0; rfl
  obtain ⟨h4, h5⟩ := after_call (G1 := G1.froz 0) hr rfl hbel (fun b o h => he2.st _ _ (he.st _ _ (by rw [hSt]; exact h))) (fun b o h => by
    rcases he2.stN b o h with h1 | h1
    · rcases he.stN b o h1 with h2 | h2
      · rw [hSt] at h2; exact .inl h2
      · right; have e : G0.base = G.w.heap.size := by subst hG0; rfl
        omega
    · right; omega) hr2.st
  exact hk v { G with w := (G1.froz 0).w, St := (G1.froz 0).St } h4 h5 (hrep2.low hlo (fun _ _ h => h) (fun _ _ _ => rfl) (fun id y h => by omega) (fun h => by omega))
theorem lit1_sF {t e : TypeId} {y : Operand} {z : Value} {bt : Nat} {v : Value} (ho : o.op = .buildSlice t 1 #[(0, y)]) (ht : zbq P t = some e) (hi : zbs P e = some (some z, 1, bt))
    (h1 : (ofValue z).cells.all AV.one = true) (hn : (ofValue z).cells.length = 1) (hy : F.eval y = .s v) (hx : (AV.s v).one = true) : Does P o F σ (.sl [.s v]) σ :=
  does_fin (lit1_s ho ht hi h1 hn hy hx) rfl (fun u hu => by simp [ho, Op.operands] at hu; subst hu; rw [hy]; exact .s _) (.sl _ (zad (.s _) zai))
theorem lit1_slF {t e : TypeId} {y : Operand} {z : Value} {bt : Nat} {l : List AV} (ho : o.op = .buildSlice t 1 #[(0, y)]) (ht : zbq P t = some e) (hi : zbs P e = some (some z, 1, bt))
    (h1 : (ofValue z).cells.all AV.one = true) (hn : (ofValue z).cells.length = 1) (hy : F.eval y = .sl l) (hx : (AV.sl l).one = true) (hl : Lo 0 (.sl l)) : Does P o F σ (.sl [.sl l]) σ :=
  does_fin (lit1_sl ho ht hi h1 hn hy hx) rfl (fun u hu => by simp [ho, Op.operands] at hu; subst hu; rw [hy]; exact hl) (.sl _ (zad hl zai))
theorem does_litAF {t e : TypeId} {y : Operand} {z : Value} {n bt : Nat} {cs : List AV} (ho : o.op = .buildSlice t 1 #[(0, y)]) (ht : zbq P t = some e) (hi : zbs P e = some (some z, n, bt))
    (h1 : (ofValue z).cells.all AV.one = true) (hn : (ofValue z).cells.length = n) (h2 : 2 ≤ n) (hsm : n ≤ 16777216) (hy : F.eval y = .agg cs) (hx : cs.all AV.one = true) (hl : cs.length = n) (hlo : Lo 0 (.agg cs)) : Does P o F σ (.sl [.agg cs]) σ :=
  does_fin (does_litA ho ht hi h1 hn h2 hsm hy hx hl) rfl (fun u hu => by simp [ho, Op.operands] at hu; subst hu; rw [hy]; exact hlo) (.sl _ (zad hlo zai))
end
section
variable {P : Program} {F : Frm} {σ : List Ob}
end
end Go.Proofs.Ytmoipmnhgdmkpaa.Aw
end
