/-
  Texts joined: ShB. Conditions: none.
-/
import Derived.Test.YtmoipmnhgdmkpaaJP5
section
namespace Go.Proofs.Ytmoipmnhgdmkpaa.Aw
set_option linter.unusedSimpArgs false
set_option linter.unusedVariables false
set_option linter.unusedSectionVars false
open Go.RowKit Go.Proofs
variable {P : Program} [IsP P]

set_option maxHeartbeats 1000000 in
theorem qValid_pf54 (d : List Int) (l : List Sft) : Pure P 16 [eL eI d, eL eSh l] (eB (validS d l)) := by
  refine aw_fn (by rw [IsP.eq (P := P)]; exact Try.func16) rfl rfl rfl rfl rfl (by repeat' (first | exact Lo.s _ | exact zah | refine zae ?_ ?_ | refine zai ?_ | refine Lo.cells ?_ | refine Lo.agg _ ?_ | refine Lo.ref _ ?_ | refine Lo.tup _ ?_ | refine Lo.fn _ _ ?_ | refine Lo.sl _ ?_ | intro _)) (by repeat' (first | exact Lo.s _ | exact zah | refine zae ?_ ?_ | refine zai ?_ | refine Lo.cells ?_ | refine Lo.agg _ ?_ | refine Lo.ref _ ?_ | refine Lo.tup _ ?_ | refine Lo.fn _ _ ?_ | refine Lo.sl _ ?_ | intro _)) (by simp only [argF]; rfl) ?_
  repeat (first | refine zag ?_ | refine zap ?_ | refine zad ?_ | refine zaq ?_ | refine zac ?_)
  refine aw_bdm (d := 0) rfl (fun hm1 => ?_)
  refine aw_bdm (d := 1) rfl (fun hm2 => ?_)
  unfold maxLen at hm1 hm2
  refine zaf ?_
  refine zab rfl rfl (zaa rfl) (mv_s (.inr rfl) rfl) ?_
  refine zan ?_
  repeat (first | refine zag ?_ | refine zap ?_ | refine zad ?_ | refine zaq ?_ | refine zac ?_)
  all_goals refine zaf ?_
  all_goals (first | refine zab rfl rfl (zaa rfl) (za3 (.inl rfl) rfl) ?_ | refine zab rfl rfl (zaa rfl) (zbi (.inl rfl) rfl) ?_ | refine zab rfl rfl (zaa rfl) (mv_s (.inl rfl) rfl) ?_ | refine zab rfl rfl (zaa rfl) (za4 (.inl rfl) rfl) ?_)
  all_goals (first | refine zab rfl rfl (zaa rfl) (za0 rfl ts22 rfl) ?_ | refine zab rfl rfl (zaa rfl) (za7 rfl ts22 rfl) ?_ | refine zab rfl rfl (zaa rfl) (zaw rfl ts22 rfl) ?_ | refine zab rfl rfl (zaa rfl) (zbc rfl ts22 rfl) ?_ | refine zab rfl rfl (zaa rfl) (zax rfl ts22 rfl) ?_)
  all_goals (first | refine zbj rfl rfl (zaa rfl) (zbd rfl rfl rfl) (fun h11 => ?_) (fun h11 => ?_) | refine zbk rfl rfl (zaa rfl) (zbd rfl rfl rfl) (fun h11 => ?_) (fun h11 => ?_))
  all_goals refine zab rfl rfl (zaa rfl) (mv_s (.inl rfl) rfl) ?_
  all_goals (first | refine zab rfl rfl (zak rfl rfl rfl) (za3 (.inl rfl) rfl) ?_ | refine zab rfl rfl (zak rfl rfl rfl) (zbi (.inl rfl) rfl) ?_ | refine zab rfl rfl (zak rfl rfl rfl) (mv_s (.inl rfl) rfl) ?_ | refine zab rfl rfl (zak rfl rfl rfl) (za4 (.inl rfl) rfl) ?_ | refine zam rfl rfl (za2 rfl rfl rfl) ?_ | refine zam rfl rfl (zau rfl rfl rfl) ?_)
  all_goals (first | refine zab rfl rfl (zak rfl rfl rfl) (za0 rfl ts22 rfl) ?_ | refine zab rfl rfl (zak rfl rfl rfl) (za7 rfl ts22 rfl) ?_ | refine zab rfl rfl (zak rfl rfl rfl) (zaw rfl ts22 rfl) ?_ | refine zab rfl rfl (zak rfl rfl rfl) (zbc rfl ts22 rfl) ?_ | refine zab rfl rfl (zak rfl rfl rfl) (zax rfl ts22 rfl) ?_ | refine zam rfl rfl (za2 rfl rfl rfl) ?_ | refine zam rfl rfl (zau rfl rfl rfl) ?_)
  all_goals (first | refine zbj rfl rfl (zak rfl rfl rfl) (zbz rfl rfl rfl) (fun h15 => ?_) (fun h15 => ?_) | refine zbk rfl rfl (zak rfl rfl rfl) (zbz rfl rfl rfl) (fun h15 => ?_) (fun h15 => ?_) | refine zam rfl rfl (za2 rfl rfl rfl) ?_ | refine zam rfl rfl (zau rfl rfl rfl) ?_)
  all_goals (first | refine zab rfl rfl (zaa rfl) (zb0 rfl rfl rfl) ?_ | refine zab rfl rfl (zaa rfl) (zb1 rfl rfl rfl) ?_ | refine zab rfl rfl (zaa rfl) (zbo rfl rfl rfl) ?_ | refine zab rfl rfl (zaa rfl) (zbp rfl rfl rfl) ?_)
  all_goals refine zab rfl rfl (zaa rfl) (mv_s (.inl rfl) rfl) ?_
  all_goals (first | refine zab rfl rfl (zak rfl rfl rfl) (za3 (.inl rfl) rfl) ?_ | refine zab rfl rfl (zak rfl rfl rfl) (zbi (.inl rfl) rfl) ?_ | refine zab rfl rfl (zak rfl rfl rfl) (mv_s (.inl rfl) rfl) ?_ | refine zab rfl rfl (zak rfl rfl rfl) (za4 (.inl rfl) rfl) ?_ | refine zam rfl rfl (za2 rfl rfl rfl) ?_ | refine zam rfl rfl (zau rfl rfl rfl) ?_)
  all_goals (first | refine zab rfl rfl (zak rfl rfl rfl) (za0 rfl ts23 rfl) ?_ | refine zab rfl rfl (zak rfl rfl rfl) (za7 rfl ts23 rfl) ?_ | refine zab rfl rfl (zak rfl rfl rfl) (zaw rfl ts23 rfl) ?_ | refine zab rfl rfl (zak rfl rfl rfl) (zbc rfl ts23 rfl) ?_ | refine zab rfl rfl (zak rfl rfl rfl) (zax rfl ts23 rfl) ?_ | refine zam rfl rfl (za2 rfl rfl rfl) ?_ | refine zam rfl rfl (zau rfl rfl rfl) ?_)
  all_goals (first | refine zbj rfl rfl (zak rfl rfl rfl) (zbz rfl rfl rfl) (fun h20 => ?_) (fun h20 => ?_) | refine zbk rfl rfl (zak rfl rfl rfl) (zbz rfl rfl rfl) (fun h20 => ?_) (fun h20 => ?_) | refine zam rfl rfl (za2 rfl rfl rfl) ?_ | refine zam rfl rfl (zau rfl rfl rfl) ?_)
  all_goals (first | refine zab rfl rfl (zaa rfl) (zb0 rfl rfl rfl) ?_ | refine zab rfl rfl (zaa rfl) (zb1 rfl rfl rfl) ?_ | refine zab rfl rfl (zaa rfl) (zbo rfl rfl rfl) ?_ | refine zab rfl rfl (zaa rfl) (zbp rfl rfl rfl) ?_)
  all_goals refine zan ?_
  all_goals (repeat (first | refine zag ?_ | refine zap ?_ | refine zad ?_ | refine zaq ?_ | refine zac ?_))
  all_goals (first | refine zbq rfl ?_ | refine zbm rfl ?_)
  all_goals (repeat (first | refine zag ?_ | refine zap ?_ | refine zad ?_ | refine zaq ?_ | refine zac ?_))
  all_goals first
    | skip
      refine zaf ?_
      refine zab rfl rfl (zaa rfl) (mv_s (.inr rfl) rfl) ?_
      refine zan ?_
      repeat (first | refine zag ?_ | refine zap ?_ | refine zad ?_ | refine zaq ?_ | refine zac ?_)
      (refine zbt ?_; repeat (first | refine ath_r ?_ | refine abl_r ?_))
      exact post1 (.inr rfl) rfl (congrArg eB (headV_f (by omega)).symm)
    | skip
  refine zaf ?_
  refine zab rfl rfl (zaa rfl) (mv_s (.inr rfl) rfl) ?_
  refine zan ?_
  repeat (first | refine zag ?_ | refine zap ?_ | refine zad ?_ | refine zaq ?_ | refine zac ?_)
  refine aw_loops (S := Nat) (fun k => [(0, eL eI d), (1, eL eSh l), (5, eI k)]) (fun _ => []) (fun k => k ≤ d.length ∧ ∀ j, j < k → needB (gti d j) = true) (fun k => d.length - k) 0 (wk_st [] (by decide) trivial ⟨.lo _ (by repeat' (first | exact Lo.s _ | exact zah | refine zae ?_ ?_ | refine zai ?_ | refine Lo.cells ?_ | refine Lo.agg _ ?_ | refine Lo.ref _ ?_ | refine Lo.tup _ ?_ | refine Lo.fn _ _ ?_ | refine Lo.sl _ ?_ | intro _)), .lo _ (by repeat' (first | exact Lo.s _ | exact zah | refine zae ?_ ?_ | refine zai ?_ | refine Lo.cells ?_ | refine Lo.agg _ ?_ | refine Lo.ref _ ?_ | refine Lo.tup _ ?_ | refine Lo.fn _ _ ?_ | refine Lo.sl _ ?_ | intro _)), .lo _ (by repeat' (first | exact Lo.s _ | exact zah | refine zae ?_ ?_ | refine zai ?_ | refine Lo.cells ?_ | refine Lo.agg _ ?_ | refine Lo.ref _ ?_ | refine Lo.tup _ ?_ | refine Lo.fn _ _ ?_ | refine Lo.sl _ ?_ | intro _)), trivial⟩) ⟨by omega, fun j hj => by omega⟩ (fun k hk => ?_)
  obtain ⟨hk, hall⟩ := hk
  repeat (first | refine zag ?_ | refine zap ?_ | refine zad ?_ | refine zaq ?_ | refine zac ?_)
  all_goals refine zaf ?_
  all_goals refine zab rfl rfl (zaa rfl) (mv_s (.inl rfl) rfl) ?_
  all_goals (first | refine zab rfl rfl (zaa rfl) (za3 (.inl rfl) rfl) ?_ | refine zab rfl rfl (zaa rfl) (zbi (.inl rfl) rfl) ?_ | refine zab rfl rfl (zaa rfl) (mv_s (.inl rfl) rfl) ?_ | refine zab rfl rfl (zaa rfl) (za4 (.inl rfl) rfl) ?_)
  all_goals (first | refine zab rfl rfl (zaa rfl) (za0 rfl ts22 rfl) ?_ | refine zab rfl rfl (zaa rfl) (za7 rfl ts22 rfl) ?_ | refine zab rfl rfl (zaa rfl) (zaw rfl ts22 rfl) ?_ | refine zab rfl rfl (zaa rfl) (zbc rfl ts22 rfl) ?_ | refine zab rfl rfl (zaa rfl) (zax rfl ts22 rfl) ?_)
  all_goals (first | refine zbj rfl rfl (zaa rfl) (zbd rfl rfl rfl) (fun h25 => ?_) (fun h25 => ?_) | refine zbk rfl rfl (zaa rfl) (zbd rfl rfl rfl) (fun h25 => ?_) (fun h25 => ?_))
  all_goals refine zan ?_
  all_goals (repeat (first | refine zag ?_ | refine zap ?_ | refine zad ?_ | refine zaq ?_ | refine zac ?_))
  all_goals (first | refine zbq rfl ?_ | refine zbm rfl ?_)
  all_goals (repeat (first | refine zag ?_ | refine zap ?_ | refine zad ?_ | refine zaq ?_ | refine zac ?_))
  · have hlt : k < d.length := by omega
    all_goals refine zaf ?_
    all_goals (first | refine zab rfl rfl (zaa rfl) (za3 (.inl rfl) rfl) ?_ | refine zab rfl rfl (zaa rfl) (zbi (.inl rfl) rfl) ?_ | refine zab rfl rfl (zaa rfl) (mv_s (.inl rfl) rfl) ?_ | refine zab rfl rfl (zaa rfl) (za4 (.inl rfl) rfl) ?_)
    all_goals refine zab rfl rfl (zaa rfl) (mv_s (.inl rfl) rfl) ?_
    all_goals (first | refine zab rfl rfl (zaa rfl) (za1 rfl ts22 ti3 rfl rfl rfl (zb5 (by omega)) rfl) ?_ | refine zab rfl rfl (zaa rfl) (zav rfl ts22 ti3 rfl rfl rfl (by omega)) ?_)
    all_goals (first | refine zab rfl rfl (zaa rfl) (zao rfl ta3 rfl) ?_ | refine zab rfl rfl (zaa rfl) (zar rfl ta3 rfl rfl rfl rfl rfl) ?_)
    all_goals (first | refine zbj rfl rfl (zaa rfl) (zbd rfl rfl rfl) (fun h32 => ?_) (fun h32 => ?_) | refine zbk rfl rfl (zaa rfl) (zbd rfl rfl rfl) (fun h32 => ?_) (fun h32 => ?_))
    all_goals refine zab rfl rfl (zaa rfl) (mv_s (.inl rfl) rfl) ?_
    all_goals (first | refine zab rfl rfl (zak rfl rfl rfl) (za3 (.inl rfl) rfl) ?_ | refine zab rfl rfl (zak rfl rfl rfl) (zbi (.inl rfl) rfl) ?_ | refine zab rfl rfl (zak rfl rfl rfl) (mv_s (.inl rfl) rfl) ?_ | refine zab rfl rfl (zak rfl rfl rfl) (za4 (.inl rfl) rfl) ?_ | refine zam rfl rfl (za2 rfl rfl rfl) ?_ | refine zam rfl rfl (zau rfl rfl rfl) ?_)
    all_goals (first | refine zab rfl rfl (zak rfl rfl rfl) (mv_s (.inl rfl) rfl) ?_ | refine zam rfl rfl (za2 rfl rfl rfl) ?_ | refine zam rfl rfl (zau rfl rfl rfl) ?_)
    all_goals (first | refine zab rfl rfl (zak rfl rfl rfl) (za1 rfl ts22 ti3 rfl rfl rfl (zb5 (by omega)) rfl) ?_ | refine zab rfl rfl (zak rfl rfl rfl) (zav rfl ts22 ti3 rfl rfl rfl (by omega)) ?_ | refine zam rfl rfl (za2 rfl rfl rfl) ?_ | refine zam rfl rfl (zau rfl rfl rfl) ?_)
    all_goals (first | refine zab rfl rfl (zak rfl rfl rfl) (zao rfl ta3 rfl) ?_ | refine zab rfl rfl (zak rfl rfl rfl) (zar rfl ta3 rfl rfl rfl rfl rfl) ?_ | refine zam rfl rfl (za2 rfl rfl rfl) ?_ | refine zam rfl rfl (zau rfl rfl rfl) ?_)
    all_goals (first | refine zbj rfl rfl (zak rfl rfl rfl) (zbz rfl rfl rfl) (fun h38 => ?_) (fun h38 => ?_) | refine zbk rfl rfl (zak rfl rfl rfl) (zbz rfl rfl rfl) (fun h38 => ?_) (fun h38 => ?_) | refine zam rfl rfl (za2 rfl rfl rfl) ?_ | refine zam rfl rfl (zau rfl rfl rfl) ?_)
    all_goals (first | refine zab rfl rfl (zaa rfl) (zb0 rfl rfl rfl) ?_ | refine zab rfl rfl (zaa rfl) (zb1 rfl rfl rfl) ?_ | refine zab rfl rfl (zaa rfl) (zbo rfl rfl rfl) ?_ | refine zab rfl rfl (zaa rfl) (zbp rfl rfl rfl) ?_)
    all_goals refine zan ?_
    all_goals (repeat (first | refine zag ?_ | refine zap ?_ | refine zad ?_ | refine zaq ?_ | refine zac ?_))
    all_goals (first | refine zbq rfl ?_ | refine zbm rfl ?_)
    all_goals (repeat (first | refine zag ?_ | refine zap ?_ | refine zad ?_ | refine zaq ?_ | refine zac ?_))
    all_goals first
      | skip
        refine zaf ?_
        refine zab rfl rfl (zaa rfl) (mv_s (.inr rfl) rfl) ?_
        refine zan ?_
        repeat (first | refine zag ?_ | refine zap ?_ | refine zad ?_ | refine zaq ?_ | refine zac ?_)
        (refine zbt ?_; repeat (first | refine ath_r ?_ | refine abl_r ?_))
        exact post1 (.inr rfl) rfl (congrArg eB (headV_f2 (all_f hlt (decide_eq_false (by omega)))).symm)
      | skip
        refine zaf ?_
        refine zab rfl rfl (zaa rfl) (mv_s (.inl rfl) rfl) ?_
        refine zab rfl rfl (zaa rfl) (zbw rfl rfl rfl (IntWalk.i64_in _ (by omega))) ?_
        refine zab rfl rfl (zaa rfl) (mv_s (.inr rfl) rfl) ?_
        refine zan ?_
        repeat (first | refine zag ?_ | refine zap ?_ | refine zad ?_ | refine zaq ?_ | refine zac ?_)
        refine ⟨k + 1, ⟨by omega, fun i hi => ?_⟩, by omega, wk_st [] (by decide) trivial ⟨.lo _ (by repeat' (first | exact Lo.s _ | exact zah | refine zae ?_ ?_ | refine zai ?_ | refine Lo.cells ?_ | refine Lo.agg _ ?_ | refine Lo.ref _ ?_ | refine Lo.tup _ ?_ | refine Lo.fn _ _ ?_ | refine Lo.sl _ ?_ | intro _)), .lo _ (by repeat' (first | exact Lo.s _ | exact zah | refine zae ?_ ?_ | refine zai ?_ | refine Lo.cells ?_ | refine Lo.agg _ ?_ | refine Lo.ref _ ?_ | refine Lo.tup _ ?_ | refine Lo.fn _ _ ?_ | refine Lo.sl _ ?_ | intro _)), .lo _ (by repeat' (first | exact Lo.s _ | exact zah | refine zae ?_ ?_ | refine zai ?_ | refine Lo.cells ?_ | refine Lo.agg _ ?_ | refine Lo.ref _ ?_ | refine Lo.tup _ ?_ | refine Lo.fn _ _ ?_ | refine Lo.sl _ ?_ | intro _)), trivial⟩⟩
        by_cases e : i = k
        · subst e; exact decide_eq_true (by omega)
        · exact hall i (by omega)
  (refine aw_exit ?_; repeat (first | refine ath_x ?_ | refine abl_hit ?_ | refine abl_miss rfl ?_ | refine zaq ?_ | refine zap ?_ | refine zag ?_ | refine zad ?_ | refine zac ?_))
  have hh : headV d l = true := headV_t (by omega) (all_t (fun j hj => hall j (by omega)))
  clear hall
  refine zaf ?_
  refine zab rfl rfl (zaa rfl) (mv_s (.inr rfl) rfl) ?_
  refine zan ?_
  repeat (first | refine zag ?_ | refine zap ?_ | refine zad ?_ | refine zaq ?_ | refine zac ?_)
  refine aw_loops (S := Nat) (fun k => [(0, eL eI d), (1, eL eSh l), (6, eI k)]) (fun _ => []) (fun k => k ≤ l.length ∧ ∀ j, j < k → sftB d.length (gti l j) = true) (fun k => l.length - k) 0 (wk_st [] (by decide) trivial ⟨.lo _ (by repeat' (first | exact Lo.s _ | exact zah | refine zae ?_ ?_ | refine zai ?_ | refine Lo.cells ?_ | refine Lo.agg _ ?_ | refine Lo.ref _ ?_ | refine Lo.tup _ ?_ | refine Lo.fn _ _ ?_ | refine Lo.sl _ ?_ | intro _)), .lo _ (by repeat' (first | exact Lo.s _ | exact zah | refine zae ?_ ?_ | refine zai ?_ | refine Lo.cells ?_ | refine Lo.agg _ ?_ | refine Lo.ref _ ?_ | refine Lo.tup _ ?_ | refine Lo.fn _ _ ?_ | refine Lo.sl _ ?_ | intro _)), .lo _ (by repeat' (first | exact Lo.s _ | exact zah | refine zae ?_ ?_ | refine zai ?_ | refine Lo.cells ?_ | refine Lo.agg _ ?_ | refine Lo.ref _ ?_ | refine Lo.tup _ ?_ | refine Lo.fn _ _ ?_ | refine Lo.sl _ ?_ | intro _)), trivial⟩) ⟨by omega, fun j hj => by omega⟩ (fun k hk => ?_)
  obtain ⟨hk, hall⟩ := hk
  repeat (first | refine zag ?_ | refine zap ?_ | refine zad ?_ | refine zaq ?_ | refine zac ?_)
  all_goals refine zaf ?_
  all_goals refine zab rfl rfl (zaa rfl) (mv_s (.inl rfl) rfl) ?_
  all_goals (first | refine zab rfl rfl (zaa rfl) (za3 (.inl rfl) rfl) ?_ | refine zab rfl rfl (zaa rfl) (zbi (.inl rfl) rfl) ?_ | refine zab rfl rfl (zaa rfl) (mv_s (.inl rfl) rfl) ?_ | refine zab rfl rfl (zaa rfl) (za4 (.inl rfl) rfl) ?_)
  all_goals (first | refine zab rfl rfl (zaa rfl) (za0 rfl ts23 rfl) ?_ | refine zab rfl rfl (zaa rfl) (za7 rfl ts23 rfl) ?_ | refine zab rfl rfl (zaa rfl) (zaw rfl ts23 rfl) ?_ | refine zab rfl rfl (zaa rfl) (zbc rfl ts23 rfl) ?_ | refine zab rfl rfl (zaa rfl) (zax rfl ts23 rfl) ?_)
  all_goals (first | refine zbj rfl rfl (zaa rfl) (zbd rfl rfl rfl) (fun h43 => ?_) (fun h43 => ?_) | refine zbk rfl rfl (zaa rfl) (zbd rfl rfl rfl) (fun h43 => ?_) (fun h43 => ?_))
  all_goals refine zan ?_
  all_goals (repeat (first | refine zag ?_ | refine zap ?_ | refine zad ?_ | refine zaq ?_ | refine zac ?_))
  all_goals (first | refine zbq rfl ?_ | refine zbm rfl ?_)
  all_goals (repeat (first | refine zag ?_ | refine zap ?_ | refine zad ?_ | refine zaq ?_ | refine zac ?_))
  · have hlt : k < l.length := by omega
    obtain ⟨s, hs⟩ : ∃ s, gti l k = s := ⟨_, rfl⟩
    have hix : (l.map eSh)[k]? = some (eSh s) := by rw [← hs]; exact zb5 hlt
    refine zaf ?_
    first | refine zab rfl rfl (zaa rfl) (za3 (.inl rfl) rfl) ?_ | refine zab rfl rfl (zaa rfl) (zbi (.inl rfl) rfl) ?_ | refine zab rfl rfl (zaa rfl) (mv_s (.inl rfl) rfl) ?_ | refine zab rfl rfl (zaa rfl) (za4 (.inl rfl) rfl) ?_
    refine zab rfl rfl (zaa rfl) (mv_s (.inl rfl) rfl) ?_
    first | refine zab rfl rfl (zaa rfl) (za1 rfl ts23 ti39 rfl rfl rfl hix rfl) ?_ | refine zab rfl rfl (zaa rfl) (zav rfl ts23 ti39 rfl rfl rfl hix) ?_
    first | refine zab rfl rfl (zaa rfl) (za9 rfl ta39 ti39 rfl rfl) ?_ | refine zab rfl rfl (zaa rfl) (zbf rfl ta39 ti39 rfl rfl rfl rfl rfl) ?_ | refine zab rfl rfl (zaa rfl) (za8 rfl ta39 ti39 rfl (Nat.le_of_ble_eq_true rfl)) ?_ | refine zab rfl rfl (zaa rfl) (zbg rfl ta39 ti39 rfl rfl rfl rfl (Nat.le_of_ble_eq_true rfl)) ?_
    refine zab rfl rfl (zaa rfl) (zbu rfl ti39 rfl rfl) ?_
    refine zb2 rfl (zaa rfl) (zbe rfl ti39 rfl rfl rfl rfl rfl rfl (by decide) (by decide)) ?_
    refine zan ?_
    repeat (first | refine zag ?_ | refine zap ?_ | refine zad ?_ | refine zaq ?_ | refine zac ?_)
    refine zb3 (wk_froz (id := 0) rfl) ?_
    refine zb3 (wk_ref (d := 7) rfl rfl rfl) ?_
    all_goals refine zaf ?_
    all_goals (first | refine zab rfl rfl (zaa rfl) (zal rfl tf39_0 (by decide) rfl) ?_ | refine zab rfl rfl (zaa rfl) (zaj rfl tf39_0 (by decide) rfl) ?_)
    all_goals (first | refine zab rfl rfl (zaa rfl) (zao rfl ta22 rfl) ?_ | refine zab rfl rfl (zaa rfl) (zar rfl ta22 rfl rfl rfl rfl rfl) ?_)
    all_goals (first | refine zab rfl rfl (zaa rfl) (za0 rfl ts22 rfl) ?_ | refine zab rfl rfl (zaa rfl) (za7 rfl ts22 rfl) ?_ | refine zab rfl rfl (zaa rfl) (zaw rfl ts22 rfl) ?_ | refine zab rfl rfl (zaa rfl) (zbc rfl ts22 rfl) ?_ | refine zab rfl rfl (zaa rfl) (zax rfl ts22 rfl) ?_)
    all_goals (first | refine zbj rfl rfl (zaa rfl) (does_eql rfl rfl rfl) (fun h53 => ?_) (fun h53 => ?_) | refine zbk rfl rfl (zaa rfl) (does_eql rfl rfl rfl) (fun h53 => ?_) (fun h53 => ?_))
    all_goals refine zab rfl rfl (zaa rfl) (mv_s (.inl rfl) rfl) ?_
    all_goals (first | refine zab rfl rfl (zak rfl rfl rfl) (zal rfl tf39_1 (by decide) rfl) ?_ | refine zab rfl rfl (zak rfl rfl rfl) (zaj rfl tf39_1 (by decide) rfl) ?_ | refine zam rfl rfl (za2 rfl rfl rfl) ?_ | refine zam rfl rfl (zau rfl rfl rfl) ?_)
    all_goals (first | refine zab rfl rfl (zak rfl rfl rfl) (zao rfl ta3 rfl) ?_ | refine zab rfl rfl (zak rfl rfl rfl) (zar rfl ta3 rfl rfl rfl rfl rfl) ?_ | refine zam rfl rfl (za2 rfl rfl rfl) ?_ | refine zam rfl rfl (zau rfl rfl rfl) ?_)
    all_goals (first | refine zbj rfl rfl (zak rfl rfl rfl) (zbd rfl rfl rfl) (fun h57 => ?_) (fun h57 => ?_) | refine zbk rfl rfl (zak rfl rfl rfl) (zbd rfl rfl rfl) (fun h57 => ?_) (fun h57 => ?_) | refine zam rfl rfl (za2 rfl rfl rfl) ?_ | refine zam rfl rfl (zau rfl rfl rfl) ?_)
    all_goals (first | refine zab rfl rfl (zaa rfl) (zb0 rfl rfl rfl) ?_ | refine zab rfl rfl (zaa rfl) (zb1 rfl rfl rfl) ?_ | refine zab rfl rfl (zaa rfl) (zbo rfl rfl rfl) ?_ | refine zab rfl rfl (zaa rfl) (zbp rfl rfl rfl) ?_)
    all_goals refine zab rfl rfl (zaa rfl) (mv_s (.inl rfl) rfl) ?_
    all_goals (first | refine zab rfl rfl (zak rfl rfl rfl) (zal rfl tf39_1 (by decide) rfl) ?_ | refine zab rfl rfl (zak rfl rfl rfl) (zaj rfl tf39_1 (by decide) rfl) ?_ | refine zam rfl rfl (za2 rfl rfl rfl) ?_ | refine zam rfl rfl (zau rfl rfl rfl) ?_)
    all_goals (first | refine zab rfl rfl (zak rfl rfl rfl) (zao rfl ta3 rfl) ?_ | refine zab rfl rfl (zak rfl rfl rfl) (zar rfl ta3 rfl rfl rfl rfl rfl) ?_ | refine zam rfl rfl (za2 rfl rfl rfl) ?_ | refine zam rfl rfl (zau rfl rfl rfl) ?_)
    all_goals (first | refine zbj rfl rfl (zak rfl rfl rfl) (zbz rfl rfl rfl) (fun h62 => ?_) (fun h62 => ?_) | refine zbk rfl rfl (zak rfl rfl rfl) (zbz rfl rfl rfl) (fun h62 => ?_) (fun h62 => ?_) | refine zam rfl rfl (za2 rfl rfl rfl) ?_ | refine zam rfl rfl (zau rfl rfl rfl) ?_)
    all_goals (first | refine zab rfl rfl (zaa rfl) (zb0 rfl rfl rfl) ?_ | refine zab rfl rfl (zaa rfl) (zb1 rfl rfl rfl) ?_ | refine zab rfl rfl (zaa rfl) (zbo rfl rfl rfl) ?_ | refine zab rfl rfl (zaa rfl) (zbp rfl rfl rfl) ?_)
    all_goals refine zab rfl rfl (zaa rfl) (mv_s (.inl rfl) rfl) ?_
    all_goals (first | refine zab rfl rfl (zak rfl rfl rfl) (zal rfl tf39_2 (by decide) rfl) ?_ | refine zab rfl rfl (zak rfl rfl rfl) (zaj rfl tf39_2 (by decide) rfl) ?_ | refine zam rfl rfl (za2 rfl rfl rfl) ?_ | refine zam rfl rfl (zau rfl rfl rfl) ?_)
    all_goals (first | refine zab rfl rfl (zak rfl rfl rfl) (zao rfl ta3 rfl) ?_ | refine zab rfl rfl (zak rfl rfl rfl) (zar rfl ta3 rfl rfl rfl rfl rfl) ?_ | refine zam rfl rfl (za2 rfl rfl rfl) ?_ | refine zam rfl rfl (zau rfl rfl rfl) ?_)
    all_goals (first | refine zbj rfl rfl (zak rfl rfl rfl) (zbd rfl rfl rfl) (fun h67 => ?_) (fun h67 => ?_) | refine zbk rfl rfl (zak rfl rfl rfl) (zbd rfl rfl rfl) (fun h67 => ?_) (fun h67 => ?_) | refine zam rfl rfl (za2 rfl rfl rfl) ?_ | refine zam rfl rfl (zau rfl rfl rfl) ?_)
    all_goals (first | refine zab rfl rfl (zaa rfl) (zb0 rfl rfl rfl) ?_ | refine zab rfl rfl (zaa rfl) (zb1 rfl rfl rfl) ?_ | refine zab rfl rfl (zaa rfl) (zbo rfl rfl rfl) ?_ | refine zab rfl rfl (zaa rfl) (zbp rfl rfl rfl) ?_)
    all_goals refine zab rfl rfl (zaa rfl) (mv_s (.inl rfl) rfl) ?_
    all_goals (first | refine zab rfl rfl (zak rfl rfl rfl) (zal rfl tf39_2 (by decide) rfl) ?_ | refine zab rfl rfl (zak rfl rfl rfl) (zaj rfl tf39_2 (by decide) rfl) ?_ | refine zam rfl rfl (za2 rfl rfl rfl) ?_ | refine zam rfl rfl (zau rfl rfl rfl) ?_)
    all_goals (first | refine zab rfl rfl (zak rfl rfl rfl) (zao rfl ta3 rfl) ?_ | refine zab rfl rfl (zak rfl rfl rfl) (zar rfl ta3 rfl rfl rfl rfl rfl) ?_ | refine zam rfl rfl (za2 rfl rfl rfl) ?_ | refine zam rfl rfl (zau rfl rfl rfl) ?_)
    all_goals (first | refine zbj rfl rfl (zak rfl rfl rfl) (zbz rfl rfl rfl) (fun h72 => ?_) (fun h72 => ?_) | refine zbk rfl rfl (zak rfl rfl rfl) (zbz rfl rfl rfl) (fun h72 => ?_) (fun h72 => ?_) | refine zam rfl rfl (za2 rfl rfl rfl) ?_ | refine zam rfl rfl (zau rfl rfl rfl) ?_)
    all_goals (first | refine zab rfl rfl (zaa rfl) (zb0 rfl rfl rfl) ?_ | refine zab rfl rfl (zaa rfl) (zb1 rfl rfl rfl) ?_ | refine zab rfl rfl (zaa rfl) (zbo rfl rfl rfl) ?_ | refine zab rfl rfl (zaa rfl) (zbp rfl rfl rfl) ?_)
    all_goals refine zan ?_
    all_goals (repeat (first | refine zag ?_ | refine zap ?_ | refine zad ?_ | refine zaq ?_ | refine zac ?_))
    all_goals (first | refine zbq rfl ?_ | refine zbm rfl ?_)
    all_goals (repeat (first | refine zag ?_ | refine zap ?_ | refine zad ?_ | refine zaq ?_ | refine zac ?_))
    all_goals first
      | skip
        refine zaf ?_
        refine zab rfl rfl (zaa rfl) (mv_s (.inr rfl) rfl) ?_
        refine zan ?_
        repeat (first | refine zag ?_ | refine zap ?_ | refine zad ?_ | refine zaq ?_ | refine zac ?_)
        (refine zbt ?_; repeat (first | refine ath_r ?_ | refine abl_r ?_))
        exact post1 (.inr rfl) rfl (congrArg eB (validS_f hlt (by rw [hs]; exact sftB_h (decide_eq_false (by omega)))).symm)
      | skip
    have hhs : headS s = true := decide_eq_true (by omega)
    refine zaf ?_
    refine zab rfl rfl (zaa rfl) (mv_s (.inr rfl) rfl) ?_
    refine zan ?_
    repeat (first | refine zag ?_ | refine zap ?_ | refine zad ?_ | refine zaq ?_ | refine zac ?_)
    refine aw_loops (S := Nat) (fun j => [(0, eL eI d), (1, eL eSh l), (6, eI k), (7, .ref (eSh s).cells), (8, eI j)]) (fun _ => []) (fun j => j ≤ s.pd.length ∧ ∀ i, i < j → perB d.length s.pd i = true) (fun j => s.pd.length - j) 0 (wk_st [] (by decide) trivial ⟨.lo _ (by repeat' (first | exact Lo.s _ | exact zah | refine zae ?_ ?_ | refine zai ?_ | refine Lo.cells ?_ | refine Lo.agg _ ?_ | refine Lo.ref _ ?_ | refine Lo.tup _ ?_ | refine Lo.fn _ _ ?_ | refine Lo.sl _ ?_ | intro _)), .lo _ (by repeat' (first | exact Lo.s _ | exact zah | refine zae ?_ ?_ | refine zai ?_ | refine Lo.cells ?_ | refine Lo.agg _ ?_ | refine Lo.ref _ ?_ | refine Lo.tup _ ?_ | refine Lo.fn _ _ ?_ | refine Lo.sl _ ?_ | intro _)), .lo _ (by repeat' (first | exact Lo.s _ | exact zah | refine zae ?_ ?_ | refine zai ?_ | refine Lo.cells ?_ | refine Lo.agg _ ?_ | refine Lo.ref _ ?_ | refine Lo.tup _ ?_ | refine Lo.fn _ _ ?_ | refine Lo.sl _ ?_ | intro _)), .lo _ (by repeat' (first | exact Lo.s _ | exact zah | refine zae ?_ ?_ | refine zai ?_ | refine Lo.cells ?_ | refine Lo.agg _ ?_ | refine Lo.ref _ ?_ | refine Lo.tup _ ?_ | refine Lo.fn _ _ ?_ | refine Lo.sl _ ?_ | intro _)), .lo _ (by repeat' (first | exact Lo.s _ | exact zah | refine zae ?_ ?_ | refine zai ?_ | refine Lo.cells ?_ | refine Lo.agg _ ?_ | refine Lo.ref _ ?_ | refine Lo.tup _ ?_ | refine Lo.fn _ _ ?_ | refine Lo.sl _ ?_ | intro _)), trivial⟩) ⟨by omega, fun j hj => by omega⟩ (fun j hj => ?_)
    obtain ⟨hj, hper⟩ := hj
    repeat (first | refine zag ?_ | refine zap ?_ | refine zad ?_ | refine zaq ?_ | refine zac ?_)
    refine zaf ?_
    refine zab rfl rfl (zaa rfl) (mv_s (.inl rfl) rfl) ?_
    first | refine zab rfl rfl (zaa rfl) (zal rfl tf39_0 (by decide) rfl) ?_ | refine zab rfl rfl (zaa rfl) (zaj rfl tf39_0 (by decide) rfl) ?_
    first | refine zab rfl rfl (zaa rfl) (zao rfl ta22 rfl) ?_ | refine zab rfl rfl (zaa rfl) (zar rfl ta22 rfl rfl rfl rfl rfl) ?_
    first | refine zab rfl rfl (zaa rfl) (za0 rfl ts22 rfl) ?_ | refine zab rfl rfl (zaa rfl) (za7 rfl ts22 rfl) ?_ | refine zab rfl rfl (zaa rfl) (zaw rfl ts22 rfl) ?_ | refine zab rfl rfl (zaa rfl) (zbc rfl ts22 rfl) ?_ | refine zab rfl rfl (zaa rfl) (zax rfl ts22 rfl) ?_
    refine zab rfl rfl (zaa rfl) (zbd rfl rfl rfl) ?_
    refine zan ?_
    repeat (first | refine zag ?_ | refine zap ?_ | refine zad ?_ | refine zaq ?_ | refine zac ?_)
    refine aw_bdm (d := 76) rfl (fun hm3 => ?_)
    unfold maxLen at hm3
    refine aw_if rfl (fun h => ?_) (fun h => ?_)
    · repeat (first | refine zag ?_ | refine zap ?_ | refine zad ?_ | refine zaq ?_ | refine zac ?_)
      have hlt2 : j < s.pd.length := by omega
      all_goals refine aw_draw hmix ?_
      all_goals refine adraw_quiet (by kernel_rfl) ?_
      all_goals (first | refine zay rfl rfl (zaa rfl) (zal rfl tf39_0 (by decide) rfl) ?_ | refine zay rfl rfl (zaa rfl) (zaj rfl tf39_0 (by decide) rfl) ?_)
      all_goals (first | refine zay rfl rfl (zaa rfl) (zao rfl ta22 rfl) ?_ | refine zay rfl rfl (zaa rfl) (zar rfl ta22 rfl rfl rfl rfl rfl) ?_)
      all_goals refine zay rfl rfl (zaa rfl) (mv_s (.inl rfl) rfl) ?_
      all_goals (first | refine zay rfl rfl (zaa rfl) (za1 rfl ts22 ti3 rfl rfl rfl (zb5 (by omega)) rfl) ?_ | refine zay rfl rfl (zaa rfl) (zav rfl ts22 ti3 rfl rfl rfl (by omega)) ?_)
      all_goals (first | refine zay rfl rfl (zaa rfl) (zao rfl ta3 rfl) ?_ | refine zay rfl rfl (zaa rfl) (zar rfl ta3 rfl rfl rfl rfl rfl) ?_)
      all_goals (first | refine qx_opP rfl rfl (zaa rfl) (zbd rfl rfl rfl) (fun h86 => ?_) (fun h86 => ?_) | refine qx_opB rfl rfl (zaa rfl) (zbd rfl rfl rfl) (fun h86 => ?_) (fun h86 => ?_))
      all_goals refine zay rfl rfl (zaa rfl) (mv_s (.inl rfl) rfl) ?_
      all_goals (first | refine zay rfl rfl (zak rfl rfl rfl) (zal rfl tf39_0 (by decide) rfl) ?_ | refine zay rfl rfl (zak rfl rfl rfl) (zaj rfl tf39_0 (by decide) rfl) ?_ | refine za6 rfl rfl (za2 rfl rfl rfl) ?_ | refine za6 rfl rfl (zau rfl rfl rfl) ?_)
      all_goals (first | refine zay rfl rfl (zak rfl rfl rfl) (zao rfl ta22 rfl) ?_ | refine zay rfl rfl (zak rfl rfl rfl) (zar rfl ta22 rfl rfl rfl rfl rfl) ?_ | refine za6 rfl rfl (za2 rfl rfl rfl) ?_ | refine za6 rfl rfl (zau rfl rfl rfl) ?_)
      all_goals (first | refine zay rfl rfl (zak rfl rfl rfl) (mv_s (.inl rfl) rfl) ?_ | refine za6 rfl rfl (za2 rfl rfl rfl) ?_ | refine za6 rfl rfl (zau rfl rfl rfl) ?_)
      all_goals (first | refine zay rfl rfl (zak rfl rfl rfl) (za1 rfl ts22 ti3 rfl rfl rfl (zb5 (by omega)) rfl) ?_ | refine zay rfl rfl (zak rfl rfl rfl) (zav rfl ts22 ti3 rfl rfl rfl (by omega)) ?_ | refine za6 rfl rfl (za2 rfl rfl rfl) ?_ | refine za6 rfl rfl (zau rfl rfl rfl) ?_)
      all_goals (first | refine zay rfl rfl (zak rfl rfl rfl) (zao rfl ta3 rfl) ?_ | refine zay rfl rfl (zak rfl rfl rfl) (zar rfl ta3 rfl rfl rfl rfl rfl) ?_ | refine za6 rfl rfl (za2 rfl rfl rfl) ?_ | refine za6 rfl rfl (zau rfl rfl rfl) ?_)
      all_goals (first | refine zay rfl rfl (zak rfl rfl rfl) (za3 (.inl rfl) rfl) ?_ | refine zay rfl rfl (zak rfl rfl rfl) (zbi (.inl rfl) rfl) ?_ | refine zay rfl rfl (zak rfl rfl rfl) (mv_s (.inl rfl) rfl) ?_ | refine zay rfl rfl (zak rfl rfl rfl) (za4 (.inl rfl) rfl) ?_ | refine za6 rfl rfl (za2 rfl rfl rfl) ?_ | refine za6 rfl rfl (zau rfl rfl rfl) ?_)
      all_goals (first | refine zay rfl rfl (zak rfl rfl rfl) (za0 rfl ts22 rfl) ?_ | refine zay rfl rfl (zak rfl rfl rfl) (za7 rfl ts22 rfl) ?_ | refine zay rfl rfl (zak rfl rfl rfl) (zaw rfl ts22 rfl) ?_ | refine zay rfl rfl (zak rfl rfl rfl) (zbc rfl ts22 rfl) ?_ | refine zay rfl rfl (zak rfl rfl rfl) (zax rfl ts22 rfl) ?_ | refine za6 rfl rfl (za2 rfl rfl rfl) ?_ | refine za6 rfl rfl (zau rfl rfl rfl) ?_)
      all_goals (first | refine qx_opP rfl rfl (zak rfl rfl rfl) (does_geq rfl rfl rfl) (fun h95 => ?_) (fun h95 => ?_) | refine qx_opB rfl rfl (zak rfl rfl rfl) (does_geq rfl rfl rfl) (fun h95 => ?_) (fun h95 => ?_) | refine za6 rfl rfl (za2 rfl rfl rfl) ?_ | refine za6 rfl rfl (zau rfl rfl rfl) ?_)
      all_goals (first | refine zay rfl rfl (zaa rfl) (zb0 rfl rfl rfl) ?_ | refine zay rfl rfl (zaa rfl) (zb1 rfl rfl rfl) ?_ | refine zay rfl rfl (zaa rfl) (zbo rfl rfl rfl) ?_ | refine zay rfl rfl (zaa rfl) (zbp rfl rfl rfl) ?_)
      all_goals refine zay rfl rfl (zaa rfl) (mv_s (.inl rfl) rfl) ?_
      all_goals (first | refine zay rfl rfl (zak rfl rfl rfl) (mv_s (.inl rfl) rfl) ?_ | refine za6 rfl rfl (za2 rfl rfl rfl) ?_ | refine za6 rfl rfl (zau rfl rfl rfl) ?_)
      all_goals (first | refine qx_opP rfl rfl (zak rfl rfl rfl) (zbz rfl rfl rfl) (fun h99 => ?_) (fun h99 => ?_) | refine qx_opB rfl rfl (zak rfl rfl rfl) (zbz rfl rfl rfl) (fun h99 => ?_) (fun h99 => ?_) | refine za6 rfl rfl (za2 rfl rfl rfl) ?_ | refine za6 rfl rfl (zau rfl rfl rfl) ?_)
      all_goals (first | refine zay rfl rfl (zak rfl rfl rfl) (mv_s (.inl rfl) rfl) ?_ | refine za6 rfl rfl (za2 rfl rfl rfl) ?_ | refine za6 rfl rfl (zau rfl rfl rfl) ?_)
      all_goals (first | refine zay rfl rfl (zak rfl rfl rfl) (zal rfl tf39_0 (by decide) rfl) ?_ | refine zay rfl rfl (zak rfl rfl rfl) (zaj rfl tf39_0 (by decide) rfl) ?_ | refine za6 rfl rfl (zbs rfl rfl rfl) ?_ | refine za6 rfl rfl (zau rfl rfl rfl) ?_)
      all_goals (first | refine zay rfl rfl (zak rfl rfl rfl) (zao rfl ta22 rfl) ?_ | refine zay rfl rfl (zak rfl rfl rfl) (zar rfl ta22 rfl rfl rfl rfl rfl) ?_ | refine za6 rfl rfl (zbs rfl rfl rfl) ?_ | refine za6 rfl rfl (zau rfl rfl rfl) ?_)
      all_goals (first | refine zay rfl rfl (zak rfl rfl rfl) (mv_s (.inl rfl) rfl) ?_ | refine za6 rfl rfl (zbs rfl rfl rfl) ?_ | refine za6 rfl rfl (zau rfl rfl rfl) ?_)
      all_goals (first | refine zay rfl rfl (zak rfl rfl rfl) (does_sub rfl rfl rfl (IntWalk.i64_in _ (by omega))) ?_ | refine za6 rfl rfl (zbs rfl rfl rfl) ?_ | refine za6 rfl rfl (zau rfl rfl rfl) ?_)
      all_goals (first | refine zay rfl rfl (zak rfl rfl rfl) (za1 rfl ts22 ti3 rfl rfl (by omega) (zb5 (k := j - 1) (by omega)) rfl) ?_ | refine zay rfl rfl (zak rfl rfl rfl) (zav rfl ts22 ti3 rfl rfl (by omega) (zb5 (k := j - 1) (by omega))) ?_ | refine za6 rfl rfl (zbs rfl rfl rfl) ?_ | refine za6 rfl rfl (zau rfl rfl rfl) ?_)
      all_goals (first | refine zay rfl rfl (zak rfl rfl rfl) (zao rfl ta3 rfl) ?_ | refine zay rfl rfl (zak rfl rfl rfl) (zar rfl ta3 rfl rfl rfl rfl rfl) ?_ | refine za6 rfl rfl (zbs rfl rfl rfl) ?_ | refine za6 rfl rfl (zau rfl rfl rfl) ?_)
      all_goals (first | refine zay rfl rfl (zak rfl rfl rfl) (zal rfl tf39_0 (by decide) rfl) ?_ | refine zay rfl rfl (zak rfl rfl rfl) (zaj rfl tf39_0 (by decide) rfl) ?_ | refine za6 rfl rfl (zbs rfl rfl rfl) ?_ | refine za6 rfl rfl (zau rfl rfl rfl) ?_)
      all_goals (first | refine zay rfl rfl (zak rfl rfl rfl) (zao rfl ta22 rfl) ?_ | refine zay rfl rfl (zak rfl rfl rfl) (zar rfl ta22 rfl rfl rfl rfl rfl) ?_ | refine za6 rfl rfl (zbs rfl rfl rfl) ?_ | refine za6 rfl rfl (zau rfl rfl rfl) ?_)
      all_goals (first | refine zay rfl rfl (zak rfl rfl rfl) (mv_s (.inl rfl) rfl) ?_ | refine za6 rfl rfl (zbs rfl rfl rfl) ?_ | refine za6 rfl rfl (zau rfl rfl rfl) ?_)
      all_goals (first | refine zay rfl rfl (zak rfl rfl rfl) (za1 rfl ts22 ti3 rfl rfl rfl (zb5 (by omega)) rfl) ?_ | refine zay rfl rfl (zak rfl rfl rfl) (zav rfl ts22 ti3 rfl rfl rfl (by omega)) ?_ | refine za6 rfl rfl (zbs rfl rfl rfl) ?_ | refine za6 rfl rfl (zau rfl rfl rfl) ?_)
      all_goals (first | refine zay rfl rfl (zak rfl rfl rfl) (zao rfl ta3 rfl) ?_ | refine zay rfl rfl (zak rfl rfl rfl) (zar rfl ta3 rfl rfl rfl rfl rfl) ?_ | refine za6 rfl rfl (zbs rfl rfl rfl) ?_ | refine za6 rfl rfl (zau rfl rfl rfl) ?_)
      all_goals (first | refine qx_opP rfl rfl (zak rfl rfl rfl) (does_geq rfl rfl rfl) (fun h112 => ?_) (fun h112 => ?_) | refine qx_opB rfl rfl (zak rfl rfl rfl) (does_geq rfl rfl rfl) (fun h112 => ?_) (fun h112 => ?_) | refine za6 rfl rfl (zbs rfl rfl rfl) ?_ | refine za6 rfl rfl (zau rfl rfl rfl) ?_)
      all_goals (first | refine zay rfl rfl (zak rfl rfl rfl) (zb0 rfl rfl rfl) ?_ | refine zay rfl rfl (zak rfl rfl rfl) (zb1 rfl rfl rfl) ?_ | refine zay rfl rfl (zak rfl rfl rfl) (zbo rfl rfl rfl) ?_ | refine zay rfl rfl (zak rfl rfl rfl) (zbp rfl rfl rfl) ?_ | refine za6 rfl rfl (za2 rfl rfl rfl) ?_ | refine za6 rfl rfl (zau rfl rfl rfl) ?_)
      all_goals (first | refine zay rfl rfl (zaa rfl) (zb0 rfl rfl rfl) ?_ | refine zay rfl rfl (zaa rfl) (zb1 rfl rfl rfl) ?_ | refine zay rfl rfl (zaa rfl) (zbo rfl rfl rfl) ?_ | refine zay rfl rfl (zaa rfl) (zbp rfl rfl rfl) ?_)
      all_goals refine qx_nil ?_
      all_goals (repeat (first | refine zag ?_ | refine zap ?_ | refine zad ?_ | refine zaq ?_ | refine zac ?_))
      all_goals (first | refine zbq rfl ?_ | refine zbm rfl ?_)
      all_goals (repeat (first | refine zag ?_ | refine zap ?_ | refine zad ?_ | refine zaq ?_ | refine zac ?_))
      all_goals first
        | skip
          refine zaf ?_
          refine zab rfl rfl (zaa rfl) (mv_s (.inr rfl) rfl) ?_
          refine zan ?_
          repeat (first | refine zag ?_ | refine zap ?_ | refine zad ?_ | refine zaq ?_ | refine zac ?_)
          (refine zbt ?_; repeat (first | refine ath_r ?_ | refine abl_r ?_))
          exact post1 (.inr rfl) rfl (congrArg eB (validS_f hlt (by rw [hs]; exact sftB_f hlt2 (decide_eq_false (by omega)))).symm)
        | skip
          refine zaf ?_
          refine zab rfl rfl (zaa rfl) (mv_s (.inl rfl) rfl) ?_
          refine zab rfl rfl (zaa rfl) (zbw rfl rfl rfl (IntWalk.i64_in _ (by omega))) ?_
          refine zab rfl rfl (zaa rfl) (mv_s (.inr rfl) rfl) ?_
          refine zan ?_
          repeat (first | refine zag ?_ | refine zap ?_ | refine zad ?_ | refine zaq ?_ | refine zac ?_)
          refine ⟨j + 1, ⟨by omega, fun i hi => ?_⟩, by omega, wk_st [] (by decide) trivial ⟨.lo _ (by repeat' (first | exact Lo.s _ | exact zah | refine zae ?_ ?_ | refine zai ?_ | refine Lo.cells ?_ | refine Lo.agg _ ?_ | refine Lo.ref _ ?_ | refine Lo.tup _ ?_ | refine Lo.fn _ _ ?_ | refine Lo.sl _ ?_ | intro _)), .lo _ (by repeat' (first | exact Lo.s _ | exact zah | refine zae ?_ ?_ | refine zai ?_ | refine Lo.cells ?_ | refine Lo.agg _ ?_ | refine Lo.ref _ ?_ | refine Lo.tup _ ?_ | refine Lo.fn _ _ ?_ | refine Lo.sl _ ?_ | intro _)), .lo _ (by repeat' (first | exact Lo.s _ | exact zah | refine zae ?_ ?_ | refine zai ?_ | refine Lo.cells ?_ | refine Lo.agg _ ?_ | refine Lo.ref _ ?_ | refine Lo.tup _ ?_ | refine Lo.fn _ _ ?_ | refine Lo.sl _ ?_ | intro _)), .lo _ (by repeat' (first | exact Lo.s _ | exact zah | refine zae ?_ ?_ | refine zai ?_ | refine Lo.cells ?_ | refine Lo.agg _ ?_ | refine Lo.ref _ ?_ | refine Lo.tup _ ?_ | refine Lo.fn _ _ ?_ | refine Lo.sl _ ?_ | intro _)), .lo _ (by repeat' (first | exact Lo.s _ | exact zah | refine zae ?_ ?_ | refine zai ?_ | refine Lo.cells ?_ | refine Lo.agg _ ?_ | refine Lo.ref _ ?_ | refine Lo.tup _ ?_ | refine Lo.fn _ _ ?_ | refine Lo.sl _ ?_ | intro _)), trivial⟩⟩
          by_cases e : i = j
          · subst e; exact decide_eq_true (by omega)
          · exact hper i (by omega)
    · repeat (first | refine zag ?_ | refine zap ?_ | refine zad ?_ | refine zaq ?_ | refine zac ?_)
      (refine aw_exit ?_; repeat (first | refine ath_x ?_ | refine abl_hit ?_ | refine abl_miss rfl ?_ | refine zaq ?_ | refine zap ?_ | refine zag ?_ | refine zad ?_ | refine zac ?_))
      refine zaf ?_
      refine zab rfl rfl (zaa rfl) (mv_s (.inl rfl) rfl) ?_
      refine zab rfl rfl (zaa rfl) (zbw rfl rfl rfl (IntWalk.i64_in _ (by omega))) ?_
      refine zab rfl rfl (zaa rfl) (mv_s (.inr rfl) rfl) ?_
      refine zan ?_
      repeat (first | refine zag ?_ | refine zap ?_ | refine zad ?_ | refine zaq ?_ | refine zac ?_)
      refine ⟨k + 1, ⟨by omega, fun i hi => ?_⟩, by omega, wk_st [] (by decide) trivial ⟨.lo _ (by repeat' (first | exact Lo.s _ | exact zah | refine zae ?_ ?_ | refine zai ?_ | refine Lo.cells ?_ | refine Lo.agg _ ?_ | refine Lo.ref _ ?_ | refine Lo.tup _ ?_ | refine Lo.fn _ _ ?_ | refine Lo.sl _ ?_ | intro _)), .lo _ (by repeat' (first | exact Lo.s _ | exact zah | refine zae ?_ ?_ | refine zai ?_ | refine Lo.cells ?_ | refine Lo.agg _ ?_ | refine Lo.ref _ ?_ | refine Lo.tup _ ?_ | refine Lo.fn _ _ ?_ | refine Lo.sl _ ?_ | intro _)), .lo _ (by repeat' (first | exact Lo.s _ | exact zah | refine zae ?_ ?_ | refine zai ?_ | refine Lo.cells ?_ | refine Lo.agg _ ?_ | refine Lo.ref _ ?_ | refine Lo.tup _ ?_ | refine Lo.fn _ _ ?_ | refine Lo.sl _ ?_ | intro _)), trivial⟩⟩
      by_cases e : i = k
      · subst e; rw [hs]; exact sftB_t hhs (fun i hi => hper i (by omega))
      · exact hall i (by omega)
  · (refine aw_exit ?_; repeat (first | refine ath_x ?_ | refine abl_hit ?_ | refine abl_miss rfl ?_ | refine zaq ?_ | refine zap ?_ | refine zag ?_ | refine zad ?_ | refine zac ?_))
    refine zaf ?_
    refine zab rfl rfl (zaa rfl) (mv_s (.inr rfl) rfl) ?_
    refine zan ?_
    repeat (first | refine zag ?_ | refine zap ?_ | refine zad ?_ | refine zaq ?_ | refine zac ?_)
    (refine zbt ?_; repeat (first | refine ath_r ?_ | refine abl_r ?_))
    exact post1 (.inr rfl) rfl (congrArg eB (validS_t hh (fun j hj => hall j (by omega))).symm)

/-- counts for shifts -/
def cntB (l : List Sft) (c : List Int) : Bool := decide (c.length = l.length) && (List.range c.length).all fun k => decide (0 ≤ gti c k ∧ gti c k ≤ (gti l k).most)
theorem cntB_l {l : List Sft} {c : List Int} (h : c.length ≠ l.length) : cntB l c = false := by unfold cntB; rw [decide_eq_false h]; rfl
theorem cntB_f {l : List Sft} {c : List Int} {k : Nat} (hk : k < c.length) (h : ¬ (0 ≤ gti c k ∧ gti c k ≤ (gti l k).most)) : cntB l c = false := by
  unfold cntB; rw [rg_f hk (decide_eq_false h), Bool.and_false]
theorem cntB_t {l : List Sft} {c : List Int} (h : c.length = l.length) (h2 : ∀ k, k < c.length → 0 ≤ gti c k ∧ gti c k ≤ (gti l k).most) : cntB l c = true := by
  unfold cntB; rw [decide_eq_true h, rg_t (fun j hj => decide_eq_true (h2 j hj))]; rfl
theorem cntB_iff {l : List Sft} {c : List Int} (h : cntB l c = true) : c.length = l.length ∧ ∀ k, k < l.length → 0 ≤ gti c k ∧ gti c k ≤ (gti l k).most := by
  unfold cntB at h
  rw [Bool.and_eq_true, decide_eq_true_eq] at h
  refine ⟨h.1, fun k hk => ?_⟩
  have := List.all_eq_true.1 h.2 k (by rw [List.mem_range]; omega)
  rwa [decide_eq_true_eq] at this
set_option maxHeartbeats 1000000 in
theorem counts_pf (l : List Sft) (c : List Int) : Pure P 22 [eL eSh l, eL eI c] (eB (cntB l c)) := by
  refine aw_fn (by rw [IsP.eq (P := P)]; exact Try.func22) rfl rfl rfl rfl rfl (by repeat' (first | exact Lo.s _ | exact zah | refine zae ?_ ?_ | refine zai ?_ | refine Lo.cells ?_ | refine Lo.agg _ ?_ | refine Lo.ref _ ?_ | refine Lo.tup _ ?_ | refine Lo.fn _ _ ?_ | refine Lo.sl _ ?_ | intro _)) (by repeat' (first | exact Lo.s _ | exact zah | refine zae ?_ ?_ | refine zai ?_ | refine Lo.cells ?_ | refine Lo.agg _ ?_ | refine Lo.ref _ ?_ | refine Lo.tup _ ?_ | refine Lo.fn _ _ ?_ | refine Lo.sl _ ?_ | intro _)) (by simp only [argF]; rfl) ?_
  repeat (first | refine zag ?_ | refine zap ?_ | refine zad ?_ | refine zaq ?_ | refine zac ?_)
  refine aw_bdm (d := 1) rfl (fun hm1 => ?_)
  unfold maxLen at hm1
  refine zaf ?_
  refine zab rfl rfl (zaa rfl) (mv_s (.inr rfl) rfl) ?_
  refine zan ?_
  repeat (first | refine zag ?_ | refine zap ?_ | refine zad ?_ | refine zaq ?_ | refine zac ?_)
  all_goals refine zaf ?_
  all_goals (first | refine zab rfl rfl (zaa rfl) (za3 (.inl rfl) rfl) ?_ | refine zab rfl rfl (zaa rfl) (zbi (.inl rfl) rfl) ?_ | refine zab rfl rfl (zaa rfl) (mv_s (.inl rfl) rfl) ?_ | refine zab rfl rfl (zaa rfl) (za4 (.inl rfl) rfl) ?_)
  all_goals (first | refine zab rfl rfl (zaa rfl) (za0 rfl ts22 rfl) ?_ | refine zab rfl rfl (zaa rfl) (za7 rfl ts22 rfl) ?_ | refine zab rfl rfl (zaa rfl) (zaw rfl ts22 rfl) ?_ | refine zab rfl rfl (zaa rfl) (zbc rfl ts22 rfl) ?_ | refine zab rfl rfl (zaa rfl) (zax rfl ts22 rfl) ?_)
  all_goals (first | refine zab rfl rfl (zaa rfl) (za3 (.inl rfl) rfl) ?_ | refine zab rfl rfl (zaa rfl) (zbi (.inl rfl) rfl) ?_ | refine zab rfl rfl (zaa rfl) (mv_s (.inl rfl) rfl) ?_ | refine zab rfl rfl (zaa rfl) (za4 (.inl rfl) rfl) ?_)
  all_goals (first | refine zab rfl rfl (zaa rfl) (za0 rfl ts23 rfl) ?_ | refine zab rfl rfl (zaa rfl) (za7 rfl ts23 rfl) ?_ | refine zab rfl rfl (zaa rfl) (zaw rfl ts23 rfl) ?_ | refine zab rfl rfl (zaa rfl) (zbc rfl ts23 rfl) ?_ | refine zab rfl rfl (zaa rfl) (zax rfl ts23 rfl) ?_)
  all_goals (first | refine zbj rfl rfl (zaa rfl) (does_neq rfl rfl rfl) (fun h11 => ?_) (fun h11 => ?_) | refine zbk rfl rfl (zaa rfl) (does_neq rfl rfl rfl) (fun h11 => ?_) (fun h11 => ?_))
  all_goals refine zan ?_
  all_goals (repeat (first | refine zag ?_ | refine zap ?_ | refine zad ?_ | refine zaq ?_ | refine zac ?_))
  all_goals (first | refine zbq rfl ?_ | refine zbm rfl ?_)
  all_goals (repeat (first | refine zag ?_ | refine zap ?_ | refine zad ?_ | refine zaq ?_ | refine zac ?_))
  · skip
    refine zaf ?_
    refine zab rfl rfl (zaa rfl) (mv_s (.inr rfl) rfl) ?_
    refine zan ?_
    repeat (first | refine zag ?_ | refine zap ?_ | refine zad ?_ | refine zaq ?_ | refine zac ?_)
    (refine zbt ?_; repeat (first | refine ath_r ?_ | refine abl_r ?_))
    exact post1 (.inr rfl) rfl (congrArg eB (cntB_l (by omega)).symm)
  · have hl : c.length = l.length := by omega
    refine zaf ?_
    first | refine zab rfl rfl (zaa rfl) (za3 (.inl rfl) rfl) ?_ | refine zab rfl rfl (zaa rfl) (zbi (.inl rfl) rfl) ?_ | refine zab rfl rfl (zaa rfl) (mv_s (.inl rfl) rfl) ?_ | refine zab rfl rfl (zaa rfl) (za4 (.inl rfl) rfl) ?_
    first | refine zab rfl rfl (zaa rfl) (za0 rfl ts22 rfl) ?_ | refine zab rfl rfl (zaa rfl) (za7 rfl ts22 rfl) ?_ | refine zab rfl rfl (zaa rfl) (zaw rfl ts22 rfl) ?_ | refine zab rfl rfl (zaa rfl) (zbc rfl ts22 rfl) ?_ | refine zab rfl rfl (zaa rfl) (zax rfl ts22 rfl) ?_
    refine zab rfl rfl (zaa rfl) (mv_s (.inl rfl) rfl) ?_
    refine zan ?_
    repeat (first | refine zag ?_ | refine zap ?_ | refine zad ?_ | refine zaq ?_ | refine zac ?_)
    refine aw_loops (S := Nat) (fun k => [(0, eL eSh l), (1, eL eI c), (12, eL eI c), (13, eI c.length), (14, eI k)]) (fun _ => []) (fun k => k ≤ c.length ∧ ∀ j, j < k → 0 ≤ gti c j ∧ gti c j ≤ (gti l j).most) (fun k => c.length - k) 0 (wk_st [] (by decide) trivial ⟨.lo _ (by repeat' (first | exact Lo.s _ | exact zah | refine zae ?_ ?_ | refine zai ?_ | refine Lo.cells ?_ | refine Lo.agg _ ?_ | refine Lo.ref _ ?_ | refine Lo.tup _ ?_ | refine Lo.fn _ _ ?_ | refine Lo.sl _ ?_ | intro _)), .lo _ (by repeat' (first | exact Lo.s _ | exact zah | refine zae ?_ ?_ | refine zai ?_ | refine Lo.cells ?_ | refine Lo.agg _ ?_ | refine Lo.ref _ ?_ | refine Lo.tup _ ?_ | refine Lo.fn _ _ ?_ | refine Lo.sl _ ?_ | intro _)), .lo _ (by repeat' (first | exact Lo.s _ | exact zah | refine zae ?_ ?_ | refine zai ?_ | refine Lo.cells ?_ | refine Lo.agg _ ?_ | refine Lo.ref _ ?_ | refine Lo.tup _ ?_ | refine Lo.fn _ _ ?_ | refine Lo.sl _ ?_ | intro _)), .lo _ (by repeat' (first | exact Lo.s _ | exact zah | refine zae ?_ ?_ | refine zai ?_ | refine Lo.cells ?_ | refine Lo.agg _ ?_ | refine Lo.ref _ ?_ | refine Lo.tup _ ?_ | refine Lo.fn _ _ ?_ | refine Lo.sl _ ?_ | intro _)), .lo _ (by repeat' (first | exact Lo.s _ | exact zah | refine zae ?_ ?_ | refine zai ?_ | refine Lo.cells ?_ | refine Lo.agg _ ?_ | refine Lo.ref _ ?_ | refine Lo.tup _ ?_ | refine Lo.fn _ _ ?_ | refine Lo.sl _ ?_ | intro _)), trivial⟩) ⟨by omega, fun j hj => by omega⟩ (fun k hk => ?_)
    obtain ⟨hk, hall⟩ := hk
    repeat (first | refine zag ?_ | refine zap ?_ | refine zad ?_ | refine zaq ?_ | refine zac ?_)
    all_goals refine zaf ?_
    all_goals (first | refine zbj rfl rfl (zaa rfl) (zbd rfl rfl rfl) (fun h15 => ?_) (fun h15 => ?_) | refine zbk rfl rfl (zaa rfl) (zbd rfl rfl rfl) (fun h15 => ?_) (fun h15 => ?_))
    all_goals refine zan ?_
    all_goals (repeat (first | refine zag ?_ | refine zap ?_ | refine zad ?_ | refine zaq ?_ | refine zac ?_))
    all_goals (first | refine zbq rfl ?_ | refine zbm rfl ?_)
    all_goals (repeat (first | refine zag ?_ | refine zap ?_ | refine zad ?_ | refine zaq ?_ | refine zac ?_))
    · have hlt : k < c.length := by omega
      have hlt2 : k < l.length := by omega
      refine zaf ?_
      refine zab rfl rfl (zaa rfl) (mv_s (.inl rfl) rfl) ?_
      first | refine zab rfl rfl (zaa rfl) (za1 rfl ts22 ti3 rfl rfl rfl (zb5 (by omega)) rfl) ?_ | refine zab rfl rfl (zaa rfl) (zav rfl ts22 ti3 rfl rfl rfl (by omega)) ?_
      first | refine zab rfl rfl (zaa rfl) (zao rfl ta3 rfl) ?_ | refine zab rfl rfl (zaa rfl) (zar rfl ta3 rfl rfl rfl rfl rfl) ?_
      refine zab rfl rfl (zaa rfl) (mv_s (.inr rfl) rfl) ?_
      refine zab rfl rfl (zaa rfl) (mv_s (.inr rfl) rfl) ?_
      refine zan ?_
      repeat (first | refine zag ?_ | refine zap ?_ | refine zad ?_ | refine zaq ?_ | refine zac ?_)
      all_goals refine zaf ?_
      all_goals refine zab rfl rfl (zaa rfl) (mv_s (.inl rfl) rfl) ?_
      all_goals (first | refine zbj rfl rfl (zaa rfl) (zbd rfl rfl rfl) (fun h20 => ?_) (fun h20 => ?_) | refine zbk rfl rfl (zaa rfl) (zbd rfl rfl rfl) (fun h20 => ?_) (fun h20 => ?_))
      all_goals refine zab rfl rfl (zaa rfl) (mv_s (.inl rfl) rfl) ?_
      all_goals (first | refine zab rfl rfl (zak rfl rfl rfl) (mv_s (.inl rfl) rfl) ?_ | refine zam rfl rfl (za2 rfl rfl rfl) ?_ | refine zam rfl rfl (zau rfl rfl rfl) ?_)
      all_goals (first | refine zab rfl rfl (zak rfl rfl rfl) (za3 (.inl rfl) rfl) ?_ | refine zab rfl rfl (zak rfl rfl rfl) (zbi (.inl rfl) rfl) ?_ | refine zab rfl rfl (zak rfl rfl rfl) (mv_s (.inl rfl) rfl) ?_ | refine zab rfl rfl (zak rfl rfl rfl) (za4 (.inl rfl) rfl) ?_ | refine zam rfl rfl (za2 rfl rfl rfl) ?_ | refine zam rfl rfl (zau rfl rfl rfl) ?_)
      all_goals (first | refine zab rfl rfl (zak rfl rfl rfl) (mv_s (.inl rfl) rfl) ?_ | refine zam rfl rfl (za2 rfl rfl rfl) ?_ | refine zam rfl rfl (zau rfl rfl rfl) ?_)
      all_goals (first | refine zab rfl rfl (zak rfl rfl rfl) (za1 rfl ts23 ti39 rfl rfl rfl (zb5 (by omega)) rfl) ?_ | refine zab rfl rfl (zak rfl rfl rfl) (zav rfl ts23 ti39 rfl rfl rfl (by omega)) ?_ | refine zam rfl rfl (za2 rfl rfl rfl) ?_ | refine zam rfl rfl (zau rfl rfl rfl) ?_)
      all_goals (first | refine zab rfl rfl (zak rfl rfl rfl) (zal rfl tf39_2 (by decide) rfl) ?_ | refine zab rfl rfl (zak rfl rfl rfl) (zaj rfl tf39_2 (by decide) rfl) ?_ | refine zam rfl rfl (za2 rfl rfl rfl) ?_ | refine zam rfl rfl (zau rfl rfl rfl) ?_)
      all_goals (first | refine zab rfl rfl (zak rfl rfl rfl) (zao rfl ta3 rfl) ?_ | refine zab rfl rfl (zak rfl rfl rfl) (zar rfl ta3 rfl rfl rfl rfl rfl) ?_ | refine zam rfl rfl (za2 rfl rfl rfl) ?_ | refine zam rfl rfl (zau rfl rfl rfl) ?_)
      all_goals (first | refine zbj rfl rfl (zak rfl rfl rfl) (zbz rfl rfl rfl) (fun h28 => ?_) (fun h28 => ?_) | refine zbk rfl rfl (zak rfl rfl rfl) (zbz rfl rfl rfl) (fun h28 => ?_) (fun h28 => ?_) | refine zam rfl rfl (za2 rfl rfl rfl) ?_ | refine zam rfl rfl (zau rfl rfl rfl) ?_)
      all_goals (first | refine zab rfl rfl (zaa rfl) (zb0 rfl rfl rfl) ?_ | refine zab rfl rfl (zaa rfl) (zb1 rfl rfl rfl) ?_ | refine zab rfl rfl (zaa rfl) (zbo rfl rfl rfl) ?_ | refine zab rfl rfl (zaa rfl) (zbp rfl rfl rfl) ?_)
      all_goals refine zan ?_
      all_goals (repeat (first | refine zag ?_ | refine zap ?_ | refine zad ?_ | refine zaq ?_ | refine zac ?_))
      all_goals (first | refine zbq rfl ?_ | refine zbm rfl ?_)
      all_goals (repeat (first | refine zag ?_ | refine zap ?_ | refine zad ?_ | refine zaq ?_ | refine zac ?_))
      all_goals first
        | skip
          refine zaf ?_
          refine zab rfl rfl (zaa rfl) (mv_s (.inr rfl) rfl) ?_
          refine zan ?_
          repeat (first | refine zag ?_ | refine zap ?_ | refine zad ?_ | refine zaq ?_ | refine zac ?_)
          (refine zbt ?_; repeat (first | refine ath_r ?_ | refine abl_r ?_))
          exact post1 (.inr rfl) rfl (congrArg eB (cntB_f hlt (by omega)).symm)
        | skip
          refine zaf ?_
          refine zab rfl rfl (zaa rfl) (zbw rfl rfl rfl (IntWalk.i64_in _ (by omega))) ?_
          refine zab rfl rfl (zaa rfl) (mv_s (.inl rfl) rfl) ?_
          refine zan ?_
          repeat (first | refine zag ?_ | refine zap ?_ | refine zad ?_ | refine zaq ?_ | refine zac ?_)
          refine ⟨k + 1, ⟨by omega, fun i hi => ?_⟩, by omega, wk_st [] (by decide) trivial ⟨.lo _ (by repeat' (first | exact Lo.s _ | exact zah | refine zae ?_ ?_ | refine zai ?_ | refine Lo.cells ?_ | refine Lo.agg _ ?_ | refine Lo.ref _ ?_ | refine Lo.tup _ ?_ | refine Lo.fn _ _ ?_ | refine Lo.sl _ ?_ | intro _)), .lo _ (by repeat' (first | exact Lo.s _ | exact zah | refine zae ?_ ?_ | refine zai ?_ | refine Lo.cells ?_ | refine Lo.agg _ ?_ | refine Lo.ref _ ?_ | refine Lo.tup _ ?_ | refine Lo.fn _ _ ?_ | refine Lo.sl _ ?_ | intro _)), .lo _ (by repeat' (first | exact Lo.s _ | exact zah | refine zae ?_ ?_ | refine zai ?_ | refine Lo.cells ?_ | refine Lo.agg _ ?_ | refine Lo.ref _ ?_ | refine Lo.tup _ ?_ | refine Lo.fn _ _ ?_ | refine Lo.sl _ ?_ | intro _)), .lo _ (by repeat' (first | exact Lo.s _ | exact zah | refine zae ?_ ?_ | refine zai ?_ | refine Lo.cells ?_ | refine Lo.agg _ ?_ | refine Lo.ref _ ?_ | refine Lo.tup _ ?_ | refine Lo.fn _ _ ?_ | refine Lo.sl _ ?_ | intro _)), .lo _ (by repeat' (first | exact Lo.s _ | exact zah | refine zae ?_ ?_ | refine zai ?_ | refine Lo.cells ?_ | refine Lo.agg _ ?_ | refine Lo.ref _ ?_ | refine Lo.tup _ ?_ | refine Lo.fn _ _ ?_ | refine Lo.sl _ ?_ | intro _)), trivial⟩⟩
          by_cases e : i = k
          · subst e; omega
          · exact hall i (by omega)
    · (refine aw_exit ?_; repeat (first | refine ath_x ?_ | refine abl_hit ?_ | refine abl_miss rfl ?_ | refine zaq ?_ | refine zap ?_ | refine zag ?_ | refine zad ?_ | refine zac ?_))
      refine zaf ?_
      refine zab rfl rfl (zaa rfl) (mv_s (.inr rfl) rfl) ?_
      refine zan ?_
      repeat (first | refine zag ?_ | refine zap ?_ | refine zad ?_ | refine zaq ?_ | refine zac ?_)
      (refine zbt ?_; repeat (first | refine ath_r ?_ | refine abl_r ?_))
      exact post1 (.inr rfl) rfl (congrArg eB (cntB_t hl (fun j hj => hall j (by omega))).symm)
set_option maxHeartbeats 1000000 in
theorem rCounts_pf (l : List Sft) (c : List Int) : Pure P 27 [eL eSh l, eL eI c] (eB (cntB l c)) := by
  refine aw_fn (by rw [IsP.eq (P := P)]; exact Try.func27) rfl rfl rfl rfl rfl (by repeat' (first | exact Lo.s _ | exact zah | refine zae ?_ ?_ | refine zai ?_ | refine Lo.cells ?_ | refine Lo.agg _ ?_ | refine Lo.ref _ ?_ | refine Lo.tup _ ?_ | refine Lo.fn _ _ ?_ | refine Lo.sl _ ?_ | intro _)) (by repeat' (first | exact Lo.s _ | exact zah | refine zae ?_ ?_ | refine zai ?_ | refine Lo.cells ?_ | refine Lo.agg _ ?_ | refine Lo.ref _ ?_ | refine Lo.tup _ ?_ | refine Lo.fn _ _ ?_ | refine Lo.sl _ ?_ | intro _)) (by simp only [argF]; rfl) ?_
  repeat (first | refine zag ?_ | refine zap ?_ | refine zad ?_ | refine zaq ?_ | refine zac ?_)
  refine aw_bdm (d := 1) rfl (fun hm1 => ?_)
  unfold maxLen at hm1
  refine zaf ?_
  refine zab rfl rfl (zaa rfl) (mv_s (.inr rfl) rfl) ?_
  refine zan ?_
  repeat (first | refine zag ?_ | refine zap ?_ | refine zad ?_ | refine zaq ?_ | refine zac ?_)
  all_goals refine zaf ?_
  all_goals (first | refine zab rfl rfl (zaa rfl) (za3 (.inl rfl) rfl) ?_ | refine zab rfl rfl (zaa rfl) (zbi (.inl rfl) rfl) ?_ | refine zab rfl rfl (zaa rfl) (mv_s (.inl rfl) rfl) ?_ | refine zab rfl rfl (zaa rfl) (za4 (.inl rfl) rfl) ?_)
  all_goals (first | refine zab rfl rfl (zaa rfl) (za0 rfl ts22 rfl) ?_ | refine zab rfl rfl (zaa rfl) (za7 rfl ts22 rfl) ?_ | refine zab rfl rfl (zaa rfl) (zaw rfl ts22 rfl) ?_ | refine zab rfl rfl (zaa rfl) (zbc rfl ts22 rfl) ?_ | refine zab rfl rfl (zaa rfl) (zax rfl ts22 rfl) ?_)
  all_goals (first | refine zab rfl rfl (zaa rfl) (za3 (.inl rfl) rfl) ?_ | refine zab rfl rfl (zaa rfl) (zbi (.inl rfl) rfl) ?_ | refine zab rfl rfl (zaa rfl) (mv_s (.inl rfl) rfl) ?_ | refine zab rfl rfl (zaa rfl) (za4 (.inl rfl) rfl) ?_)
  all_goals (first | refine zab rfl rfl (zaa rfl) (za0 rfl ts23 rfl) ?_ | refine zab rfl rfl (zaa rfl) (za7 rfl ts23 rfl) ?_ | refine zab rfl rfl (zaa rfl) (zaw rfl ts23 rfl) ?_ | refine zab rfl rfl (zaa rfl) (zbc rfl ts23 rfl) ?_ | refine zab rfl rfl (zaa rfl) (zax rfl ts23 rfl) ?_)
  all_goals (first | refine zbj rfl rfl (zaa rfl) (does_neq rfl rfl rfl) (fun h10 => ?_) (fun h10 => ?_) | refine zbk rfl rfl (zaa rfl) (does_neq rfl rfl rfl) (fun h10 => ?_) (fun h10 => ?_))
  all_goals refine zan ?_
  all_goals (repeat (first | refine zag ?_ | refine zap ?_ | refine zad ?_ | refine zaq ?_ | refine zac ?_))
  all_goals (first | refine zbq rfl ?_ | refine zbm rfl ?_)
  all_goals (repeat (first | refine zag ?_ | refine zap ?_ | refine zad ?_ | refine zaq ?_ | refine zac ?_))
  · skip
    refine zaf ?_
    refine zab rfl rfl (zaa rfl) (mv_s (.inr rfl) rfl) ?_
    refine zan ?_
    repeat (first | refine zag ?_ | refine zap ?_ | refine zad ?_ | refine zaq ?_ | refine zac ?_)
    (refine zbt ?_; repeat (first | refine ath_r ?_ | refine abl_r ?_))
    exact post1 (.inr rfl) rfl (congrArg eB (cntB_l (by omega)).symm)
  · have hl : c.length = l.length := by omega
    refine zaf ?_
    refine zab rfl rfl (zaa rfl) (mv_s (.inr rfl) rfl) ?_
    refine zan ?_
    repeat (first | refine zag ?_ | refine zap ?_ | refine zad ?_ | refine zaq ?_ | refine zac ?_)
    refine aw_loops (S := Nat) (fun k => [(0, eL eSh l), (1, eL eI c), (5, eI k)]) (fun _ => []) (fun k => k ≤ c.length ∧ ∀ j, j < k → 0 ≤ gti c j ∧ gti c j ≤ (gti l j).most) (fun k => c.length - k) 0 (wk_st [] (by decide) trivial ⟨.lo _ (by repeat' (first | exact Lo.s _ | exact zah | refine zae ?_ ?_ | refine zai ?_ | refine Lo.cells ?_ | refine Lo.agg _ ?_ | refine Lo.ref _ ?_ | refine Lo.tup _ ?_ | refine Lo.fn _ _ ?_ | refine Lo.sl _ ?_ | intro _)), .lo _ (by repeat' (first | exact Lo.s _ | exact zah | refine zae ?_ ?_ | refine zai ?_ | refine Lo.cells ?_ | refine Lo.agg _ ?_ | refine Lo.ref _ ?_ | refine Lo.tup _ ?_ | refine Lo.fn _ _ ?_ | refine Lo.sl _ ?_ | intro _)), .lo _ (by repeat' (first | exact Lo.s _ | exact zah | refine zae ?_ ?_ | refine zai ?_ | refine Lo.cells ?_ | refine Lo.agg _ ?_ | refine Lo.ref _ ?_ | refine Lo.tup _ ?_ | refine Lo.fn _ _ ?_ | refine Lo.sl _ ?_ | intro _)), trivial⟩) ⟨by omega, fun j hj => by omega⟩ (fun k hk => ?_)
    obtain ⟨hk, hall⟩ := hk
    repeat (first | refine zag ?_ | refine zap ?_ | refine zad ?_ | refine zaq ?_ | refine zac ?_)
    all_goals refine zaf ?_
    all_goals refine zab rfl rfl (zaa rfl) (mv_s (.inl rfl) rfl) ?_
    all_goals (first | refine zab rfl rfl (zaa rfl) (za3 (.inl rfl) rfl) ?_ | refine zab rfl rfl (zaa rfl) (zbi (.inl rfl) rfl) ?_ | refine zab rfl rfl (zaa rfl) (mv_s (.inl rfl) rfl) ?_ | refine zab rfl rfl (zaa rfl) (za4 (.inl rfl) rfl) ?_)
    all_goals (first | refine zab rfl rfl (zaa rfl) (za0 rfl ts23 rfl) ?_ | refine zab rfl rfl (zaa rfl) (za7 rfl ts23 rfl) ?_ | refine zab rfl rfl (zaa rfl) (zaw rfl ts23 rfl) ?_ | refine zab rfl rfl (zaa rfl) (zbc rfl ts23 rfl) ?_ | refine zab rfl rfl (zaa rfl) (zax rfl ts23 rfl) ?_)
    all_goals (first | refine zbj rfl rfl (zaa rfl) (zbd rfl rfl rfl) (fun h14 => ?_) (fun h14 => ?_) | refine zbk rfl rfl (zaa rfl) (zbd rfl rfl rfl) (fun h14 => ?_) (fun h14 => ?_))
    all_goals refine zan ?_
    all_goals (repeat (first | refine zag ?_ | refine zap ?_ | refine zad ?_ | refine zaq ?_ | refine zac ?_))
    all_goals (first | refine zbq rfl ?_ | refine zbm rfl ?_)
    all_goals (repeat (first | refine zag ?_ | refine zap ?_ | refine zad ?_ | refine zaq ?_ | refine zac ?_))
    · have hlt : k < c.length := by omega
      have hlt2 : k < l.length := by omega
      all_goals refine aw_draw hmix ?_
      all_goals refine adraw_quiet (by kernel_rfl) ?_
      all_goals (first | refine zay rfl rfl (zaa rfl) (za3 (.inl rfl) rfl) ?_ | refine zay rfl rfl (zaa rfl) (zbi (.inl rfl) rfl) ?_ | refine zay rfl rfl (zaa rfl) (mv_s (.inl rfl) rfl) ?_ | refine zay rfl rfl (zaa rfl) (za4 (.inl rfl) rfl) ?_)
      all_goals refine zay rfl rfl (zaa rfl) (mv_s (.inl rfl) rfl) ?_
      all_goals (first | refine zay rfl rfl (zaa rfl) (za1 rfl ts22 ti3 rfl rfl rfl (zb5 (by omega)) rfl) ?_ | refine zay rfl rfl (zaa rfl) (zav rfl ts22 ti3 rfl rfl rfl (by omega)) ?_)
      all_goals (first | refine zay rfl rfl (zaa rfl) (zao rfl ta3 rfl) ?_ | refine zay rfl rfl (zaa rfl) (zar rfl ta3 rfl rfl rfl rfl rfl) ?_)
      all_goals (first | refine qx_opP rfl rfl (zaa rfl) (zbd rfl rfl rfl) (fun h21 => ?_) (fun h21 => ?_) | refine qx_opB rfl rfl (zaa rfl) (zbd rfl rfl rfl) (fun h21 => ?_) (fun h21 => ?_))
      all_goals refine zay rfl rfl (zaa rfl) (mv_s (.inl rfl) rfl) ?_
      all_goals (first | refine zay rfl rfl (zak rfl rfl rfl) (za3 (.inl rfl) rfl) ?_ | refine zay rfl rfl (zak rfl rfl rfl) (zbi (.inl rfl) rfl) ?_ | refine zay rfl rfl (zak rfl rfl rfl) (mv_s (.inl rfl) rfl) ?_ | refine zay rfl rfl (zak rfl rfl rfl) (za4 (.inl rfl) rfl) ?_ | refine za6 rfl rfl (za2 rfl rfl rfl) ?_ | refine za6 rfl rfl (zau rfl rfl rfl) ?_)
      all_goals (first | refine zay rfl rfl (zak rfl rfl rfl) (mv_s (.inl rfl) rfl) ?_ | refine za6 rfl rfl (za2 rfl rfl rfl) ?_ | refine za6 rfl rfl (zau rfl rfl rfl) ?_)
      all_goals (first | refine zay rfl rfl (zak rfl rfl rfl) (za1 rfl ts22 ti3 rfl rfl rfl (zb5 (by omega)) rfl) ?_ | refine zay rfl rfl (zak rfl rfl rfl) (zav rfl ts22 ti3 rfl rfl rfl (by omega)) ?_ | refine za6 rfl rfl (za2 rfl rfl rfl) ?_ | refine za6 rfl rfl (zau rfl rfl rfl) ?_)
      all_goals (first | refine zay rfl rfl (zak rfl rfl rfl) (zao rfl ta3 rfl) ?_ | refine zay rfl rfl (zak rfl rfl rfl) (zar rfl ta3 rfl rfl rfl rfl rfl) ?_ | refine za6 rfl rfl (za2 rfl rfl rfl) ?_ | refine za6 rfl rfl (zau rfl rfl rfl) ?_)
      all_goals (first | refine zay rfl rfl (zak rfl rfl rfl) (za3 (.inl rfl) rfl) ?_ | refine zay rfl rfl (zak rfl rfl rfl) (zbi (.inl rfl) rfl) ?_ | refine zay rfl rfl (zak rfl rfl rfl) (mv_s (.inl rfl) rfl) ?_ | refine zay rfl rfl (zak rfl rfl rfl) (za4 (.inl rfl) rfl) ?_ | refine za6 rfl rfl (za2 rfl rfl rfl) ?_ | refine za6 rfl rfl (zau rfl rfl rfl) ?_)
      all_goals (first | refine zay rfl rfl (zak rfl rfl rfl) (mv_s (.inl rfl) rfl) ?_ | refine za6 rfl rfl (za2 rfl rfl rfl) ?_ | refine za6 rfl rfl (zau rfl rfl rfl) ?_)
      all_goals (first | refine zay rfl rfl (zak rfl rfl rfl) (za1 rfl ts23 ti39 rfl rfl rfl (zb5 (by omega)) rfl) ?_ | refine zay rfl rfl (zak rfl rfl rfl) (zav rfl ts23 ti39 rfl rfl rfl (by omega)) ?_ | refine za6 rfl rfl (za2 rfl rfl rfl) ?_ | refine za6 rfl rfl (zau rfl rfl rfl) ?_)
      all_goals (first | refine zay rfl rfl (zak rfl rfl rfl) (zal rfl tf39_2 (by decide) rfl) ?_ | refine zay rfl rfl (zak rfl rfl rfl) (zaj rfl tf39_2 (by decide) rfl) ?_ | refine za6 rfl rfl (za2 rfl rfl rfl) ?_ | refine za6 rfl rfl (zau rfl rfl rfl) ?_)
      all_goals (first | refine zay rfl rfl (zak rfl rfl rfl) (zao rfl ta3 rfl) ?_ | refine zay rfl rfl (zak rfl rfl rfl) (zar rfl ta3 rfl rfl rfl rfl rfl) ?_ | refine za6 rfl rfl (za2 rfl rfl rfl) ?_ | refine za6 rfl rfl (zau rfl rfl rfl) ?_)
      all_goals (first | refine qx_opP rfl rfl (zak rfl rfl rfl) (zbz rfl rfl rfl) (fun h32 => ?_) (fun h32 => ?_) | refine qx_opB rfl rfl (zak rfl rfl rfl) (zbz rfl rfl rfl) (fun h32 => ?_) (fun h32 => ?_) | refine za6 rfl rfl (za2 rfl rfl rfl) ?_ | refine za6 rfl rfl (zau rfl rfl rfl) ?_)
      all_goals (first | refine zay rfl rfl (zaa rfl) (zb0 rfl rfl rfl) ?_ | refine zay rfl rfl (zaa rfl) (zb1 rfl rfl rfl) ?_ | refine zay rfl rfl (zaa rfl) (zbo rfl rfl rfl) ?_ | refine zay rfl rfl (zaa rfl) (zbp rfl rfl rfl) ?_)
      all_goals refine qx_nil ?_
      all_goals (repeat (first | refine zag ?_ | refine zap ?_ | refine zad ?_ | refine zaq ?_ | refine zac ?_))
      all_goals (first | refine zbq rfl ?_ | refine zbm rfl ?_)
      all_goals (repeat (first | refine zag ?_ | refine zap ?_ | refine zad ?_ | refine zaq ?_ | refine zac ?_))
      all_goals first
        | skip
          refine zaf ?_
          refine zab rfl rfl (zaa rfl) (mv_s (.inr rfl) rfl) ?_
          refine zan ?_
          repeat (first | refine zag ?_ | refine zap ?_ | refine zad ?_ | refine zaq ?_ | refine zac ?_)
          (refine zbt ?_; repeat (first | refine ath_r ?_ | refine abl_r ?_))
          exact post1 (.inr rfl) rfl (congrArg eB (cntB_f hlt (by omega)).symm)
        | skip
          refine zaf ?_
          refine zab rfl rfl (zaa rfl) (mv_s (.inl rfl) rfl) ?_
          refine zab rfl rfl (zaa rfl) (zbw rfl rfl rfl (IntWalk.i64_in _ (by omega))) ?_
          refine zab rfl rfl (zaa rfl) (mv_s (.inr rfl) rfl) ?_
          refine zan ?_
          repeat (first | refine zag ?_ | refine zap ?_ | refine zad ?_ | refine zaq ?_ | refine zac ?_)
          refine ⟨k + 1, ⟨by omega, fun i hi => ?_⟩, by omega, wk_st [] (by decide) trivial ⟨.lo _ (by repeat' (first | exact Lo.s _ | exact zah | refine zae ?_ ?_ | refine zai ?_ | refine Lo.cells ?_ | refine Lo.agg _ ?_ | refine Lo.ref _ ?_ | refine Lo.tup _ ?_ | refine Lo.fn _ _ ?_ | refine Lo.sl _ ?_ | intro _)), .lo _ (by repeat' (first | exact Lo.s _ | exact zah | refine zae ?_ ?_ | refine zai ?_ | refine Lo.cells ?_ | refine Lo.agg _ ?_ | refine Lo.ref _ ?_ | refine Lo.tup _ ?_ | refine Lo.fn _ _ ?_ | refine Lo.sl _ ?_ | intro _)), .lo _ (by repeat' (first | exact Lo.s _ | exact zah | refine zae ?_ ?_ | refine zai ?_ | refine Lo.cells ?_ | refine Lo.agg _ ?_ | refine Lo.ref _ ?_ | refine Lo.tup _ ?_ | refine Lo.fn _ _ ?_ | refine Lo.sl _ ?_ | intro _)), trivial⟩⟩
          by_cases e : i = k
          · subst e; omega
          · exact hall i (by omega)
    · (refine aw_exit ?_; repeat (first | refine ath_x ?_ | refine abl_hit ?_ | refine abl_miss rfl ?_ | refine zaq ?_ | refine zap ?_ | refine zag ?_ | refine zad ?_ | refine zac ?_))
      refine zaf ?_
      refine zab rfl rfl (zaa rfl) (mv_s (.inr rfl) rfl) ?_
      refine zan ?_
      repeat (first | refine zag ?_ | refine zap ?_ | refine zad ?_ | refine zaq ?_ | refine zac ?_)
      (refine zbt ?_; repeat (first | refine ath_r ?_ | refine abl_r ?_))
      exact post1 (.inr rfl) rfl (congrArg eB (cntB_t hl (fun j hj => hall j (by omega))).symm)

/-- whether period p is in a list -/
def inB (l : List Int) (p : Int) : Bool := l.any fun x => decide (x = p)
theorem inB_t {l : List Int} {p : Int} {k : Nat} (hk : k < l.length) (h : gti l k = p) : inB l p = true := by
  unfold inB; rw [List.any_eq_true]; exact ⟨_, gti_mem hk, decide_eq_true h⟩
theorem inB_f {l : List Int} {p : Int} (h : ∀ k, k < l.length → gti l k ≠ p) : inB l p = false := by
  unfold inB
  rw [List.any_eq_false]
  intro a ha
  obtain ⟨j, hj, rfl⟩ := List.mem_iff_getElem.1 ha
  have h2 := gti_get hj
  rw [List.getElem?_eq_getElem hj] at h2
  rw [Option.some.inj h2, decide_eq_true_eq]
  exact h j hj
theorem in_pf (s : Sft) (p : Int) : Pure P 33 [eSh s, eI p] (eB (inB s.pd p)) := by
  refine aw_fn (by rw [IsP.eq (P := P)]; exact Try.func33) rfl rfl rfl rfl rfl (by repeat' (first | exact Lo.s _ | exact zah | refine zae ?_ ?_ | refine zai ?_ | refine Lo.cells ?_ | refine Lo.agg _ ?_ | refine Lo.ref _ ?_ | refine Lo.tup _ ?_ | refine Lo.fn _ _ ?_ | refine Lo.sl _ ?_ | intro _)) (by repeat' (first | exact Lo.s _ | exact zah | refine zae ?_ ?_ | refine zai ?_ | refine Lo.cells ?_ | refine Lo.agg _ ?_ | refine Lo.ref _ ?_ | refine Lo.tup _ ?_ | refine Lo.fn _ _ ?_ | refine Lo.sl _ ?_ | intro _)) (by simp only [argF]; rfl) ?_
  repeat (first | refine zag ?_ | refine zap ?_ | refine zad ?_ | refine zaq ?_ | refine zac ?_)
  refine zaf ?_
  refine zab rfl rfl (zaa rfl) (does_box rfl rfl rfl rfl) ?_
  refine zbr (wk_froz (id := 0) rfl) (zbr (wk_ref (d := 2) rfl rfl rfl) ?_)
  refine zab rfl rfl (zaa rfl) (mv_s (.inr rfl) rfl) ?_
  refine zan ?_
  repeat (first | refine zag ?_ | refine zap ?_ | refine zad ?_ | refine zaq ?_ | refine zac ?_)
  refine zaf ?_
  refine zab rfl rfl (zaa rfl) (mv_s (.inr rfl) rfl) ?_
  refine zan ?_
  repeat (first | refine zag ?_ | refine zap ?_ | refine zad ?_ | refine zaq ?_ | refine zac ?_)
  refine aw_loops (S := Nat) (fun k => [(1, eI p), (2, .ref (eSh s).cells), (5, eI k)]) (fun _ => []) (fun k => k ≤ s.pd.length ∧ ∀ j, j < k → gti s.pd j ≠ p) (fun k => s.pd.length - k) 0 (wk_st [] (by decide) trivial ⟨.lo _ (by repeat' (first | exact Lo.s _ | exact zah | refine zae ?_ ?_ | refine zai ?_ | refine Lo.cells ?_ | refine Lo.agg _ ?_ | refine Lo.ref _ ?_ | refine Lo.tup _ ?_ | refine Lo.fn _ _ ?_ | refine Lo.sl _ ?_ | intro _)), .lo _ (by repeat' (first | exact Lo.s _ | exact zah | refine zae ?_ ?_ | refine zai ?_ | refine Lo.cells ?_ | refine Lo.agg _ ?_ | refine Lo.ref _ ?_ | refine Lo.tup _ ?_ | refine Lo.fn _ _ ?_ | refine Lo.sl _ ?_ | intro _)), .lo _ (by repeat' (first | exact Lo.s _ | exact zah | refine zae ?_ ?_ | refine zai ?_ | refine Lo.cells ?_ | refine Lo.agg _ ?_ | refine Lo.ref _ ?_ | refine Lo.tup _ ?_ | refine Lo.fn _ _ ?_ | refine Lo.sl _ ?_ | intro _)), trivial⟩) ⟨by omega, fun j hj => by omega⟩ (fun k hk => ?_)
  obtain ⟨hk, hall⟩ := hk
  repeat (first | refine zag ?_ | refine zap ?_ | refine zad ?_ | refine zaq ?_ | refine zac ?_)
  refine zaf ?_
  refine zab rfl rfl (zaa rfl) (mv_s (.inl rfl) rfl) ?_
  first | refine zab rfl rfl (zaa rfl) (zal rfl tf39_0 (by decide) rfl) ?_ | refine zab rfl rfl (zaa rfl) (zaj rfl tf39_0 (by decide) rfl) ?_
  first | refine zab rfl rfl (zaa rfl) (zao rfl ta22 rfl) ?_ | refine zab rfl rfl (zaa rfl) (zar rfl ta22 rfl rfl rfl rfl rfl) ?_
  first | refine zab rfl rfl (zaa rfl) (za0 rfl ts22 rfl) ?_ | refine zab rfl rfl (zaa rfl) (za7 rfl ts22 rfl) ?_ | refine zab rfl rfl (zaa rfl) (zaw rfl ts22 rfl) ?_ | refine zab rfl rfl (zaa rfl) (zbc rfl ts22 rfl) ?_ | refine zab rfl rfl (zaa rfl) (zax rfl ts22 rfl) ?_
  refine zab rfl rfl (zaa rfl) (zbd rfl rfl rfl) ?_
  refine zan ?_
  repeat (first | refine zag ?_ | refine zap ?_ | refine zad ?_ | refine zaq ?_ | refine zac ?_)
  refine aw_bdm (d := 8) rfl (fun hm3 => ?_)
  unfold maxLen at hm3
  refine aw_if rfl (fun h => ?_) (fun h => ?_)
  · repeat (first | refine zag ?_ | refine zap ?_ | refine zad ?_ | refine zaq ?_ | refine zac ?_)
    have hlt : k < s.pd.length := by omega
    all_goals refine zaf ?_
    all_goals (first | refine zab rfl rfl (zaa rfl) (zal rfl tf39_0 (by decide) rfl) ?_ | refine zab rfl rfl (zaa rfl) (zaj rfl tf39_0 (by decide) rfl) ?_)
    all_goals (first | refine zab rfl rfl (zaa rfl) (zao rfl ta22 rfl) ?_ | refine zab rfl rfl (zaa rfl) (zar rfl ta22 rfl rfl rfl rfl rfl) ?_)
    all_goals refine zab rfl rfl (zaa rfl) (mv_s (.inl rfl) rfl) ?_
    all_goals (first | refine zab rfl rfl (zaa rfl) (za1 rfl ts22 ti3 rfl rfl rfl (zb5 (by omega)) rfl) ?_ | refine zab rfl rfl (zaa rfl) (zav rfl ts22 ti3 rfl rfl rfl (by omega)) ?_)
    all_goals (first | refine zab rfl rfl (zaa rfl) (zao rfl ta3 rfl) ?_ | refine zab rfl rfl (zaa rfl) (zar rfl ta3 rfl rfl rfl rfl rfl) ?_)
    all_goals refine zab rfl rfl (zaa rfl) (mv_s (.inl rfl) rfl) ?_
    all_goals (first | refine zbj rfl rfl (zaa rfl) (does_eql rfl rfl rfl) (fun h19 => ?_) (fun h19 => ?_) | refine zbk rfl rfl (zaa rfl) (does_eql rfl rfl rfl) (fun h19 => ?_) (fun h19 => ?_))
    all_goals refine zan ?_
    all_goals (repeat (first | refine zag ?_ | refine zap ?_ | refine zad ?_ | refine zaq ?_ | refine zac ?_))
    all_goals (first | refine zbq rfl ?_ | refine zbm rfl ?_)
    all_goals (repeat (first | refine zag ?_ | refine zap ?_ | refine zad ?_ | refine zaq ?_ | refine zac ?_))
    · skip
      refine zaf ?_
      refine zab rfl rfl (zaa rfl) (mv_s (.inr rfl) rfl) ?_
      refine zan ?_
      repeat (first | refine zag ?_ | refine zap ?_ | refine zad ?_ | refine zaq ?_ | refine zac ?_)
      (refine zbt ?_; repeat (first | refine ath_r ?_ | refine abl_r ?_))
      exact post1 (.inr rfl) rfl (congrArg eB (inB_t hlt h19).symm)
    · skip
      refine zaf ?_
      refine zab rfl rfl (zaa rfl) (mv_s (.inl rfl) rfl) ?_
      refine zab rfl rfl (zaa rfl) (zbw rfl rfl rfl (IntWalk.i64_in _ (by omega))) ?_
      refine zab rfl rfl (zaa rfl) (mv_s (.inr rfl) rfl) ?_
      refine zan ?_
      repeat (first | refine zag ?_ | refine zap ?_ | refine zad ?_ | refine zaq ?_ | refine zac ?_)
      refine ⟨k + 1, ⟨by omega, fun i hi => ?_⟩, by omega, wk_st [] (by decide) trivial ⟨.lo _ (by repeat' (first | exact Lo.s _ | exact zah | refine zae ?_ ?_ | refine zai ?_ | refine Lo.cells ?_ | refine Lo.agg _ ?_ | refine Lo.ref _ ?_ | refine Lo.tup _ ?_ | refine Lo.fn _ _ ?_ | refine Lo.sl _ ?_ | intro _)), .lo _ (by repeat' (first | exact Lo.s _ | exact zah | refine zae ?_ ?_ | refine zai ?_ | refine Lo.cells ?_ | refine Lo.agg _ ?_ | refine Lo.ref _ ?_ | refine Lo.tup _ ?_ | refine Lo.fn _ _ ?_ | refine Lo.sl _ ?_ | intro _)), .lo _ (by repeat' (first | exact Lo.s _ | exact zah | refine zae ?_ ?_ | refine zai ?_ | refine Lo.cells ?_ | refine Lo.agg _ ?_ | refine Lo.ref _ ?_ | refine Lo.tup _ ?_ | refine Lo.fn _ _ ?_ | refine Lo.sl _ ?_ | intro _)), trivial⟩⟩
      by_cases e : i = k
      · subst e; exact h19
      · exact hall i (by omega)
  · repeat (first | refine zag ?_ | refine zap ?_ | refine zad ?_ | refine zaq ?_ | refine zac ?_)
    (refine aw_exit ?_; repeat (first | refine ath_x ?_ | refine abl_hit ?_ | refine abl_miss rfl ?_ | refine zaq ?_ | refine zap ?_ | refine zag ?_ | refine zad ?_ | refine zac ?_))
    refine zaf ?_
    refine zab rfl rfl (zaa rfl) (mv_s (.inr rfl) rfl) ?_
    refine zan ?_
    repeat (first | refine zag ?_ | refine zap ?_ | refine zad ?_ | refine zaq ?_ | refine zac ?_)
    (refine zbt ?_; repeat (first | refine ath_r ?_ | refine abl_r ?_))
    exact post1 (.inr rfl) rfl (congrArg eB (inB_f (fun j hj => hall j (by omega))).symm)
end Go.Proofs.Ytmoipmnhgdmkpaa.Aw
end
