/-
  Texts joined: ShL, ShN, ShO, Orc, ClE, EvG, OrcG, EvK. Conditions: none.
-/
import Derived.Test.YtmoipmnhgdmkpaaJP3
import Derived.Test.YtmoipmnhgdmkpaaJP4
import Derived.Test.YtmoipmnhgdmkpaaJP12
import Derived.Test.YtmoipmnhgdmkpaaJP7
import Derived.Test.YtmoipmnhgdmkpaaJP11
import Derived.Test.YtmoipmnhgdmkpaaJP8
section
namespace Go.Proofs.Ytmoipmnhgdmkpaa.Aw
set_option linter.unusedSimpArgs false
set_option linter.unusedVariables false
set_option linter.unusedSectionVars false
open Go.RowKit Go.Proofs
variable {P : Program} [IsP P]

theorem clT {p : Prop} (h : @decide p (Classical.propDecidable p) = true) : p := @of_decide_eq_true p (Classical.propDecidable p) h
theorem same01_pf (a : List Fr) : Pure P 36 [eL eF a, eL eF a] (eB true) := by
  refine aw_fn (by rw [IsP.eq (P := P)]; exact Try.func36) rfl rfl rfl rfl rfl (by repeat' (first | exact Lo.s _ | exact zah | refine zae ?_ ?_ | refine zai ?_ | refine Lo.cells ?_ | refine Lo.agg _ ?_ | refine Lo.ref _ ?_ | refine Lo.tup _ ?_ | refine Lo.fn _ _ ?_ | refine Lo.sl _ ?_ | intro _)) (by repeat' (first | exact Lo.s _ | exact zah | refine zae ?_ ?_ | refine zai ?_ | refine Lo.cells ?_ | refine Lo.agg _ ?_ | refine Lo.ref _ ?_ | refine Lo.tup _ ?_ | refine Lo.fn _ _ ?_ | refine Lo.sl _ ?_ | intro _)) (by simp only [argF]; rfl) ?_
  repeat (first | refine zag ?_ | refine zap ?_ | refine zad ?_ | refine zaq ?_ | refine zac ?_)
  refine aw_bdm (d := 0) rfl (fun hm1 => ?_)
  unfold maxLen at hm1
  refine zaf ?_
  refine zab rfl rfl (zaa rfl) (mv_s (.inr rfl) rfl) ?_
  refine zan ?_
  repeat (first | refine zag ?_ | refine zap ?_ | refine zad ?_ | refine zaq ?_ | refine zac ?_)
  all_goals refine zaf ?_
  all_goals (first | refine zab rfl rfl (zaa rfl) (za3 (.inl rfl) rfl) ?_ | refine zab rfl rfl (zaa rfl) (zbi (.inl rfl) rfl) ?_ | refine zab rfl rfl (zaa rfl) (mv_s (.inl rfl) rfl) ?_ | refine zab rfl rfl (zaa rfl) (za4 (.inl rfl) rfl) ?_)
  all_goals (first | refine zab rfl rfl (zaa rfl) (za0 rfl ts27 rfl) ?_ | refine zab rfl rfl (zaa rfl) (za7 rfl ts27 rfl) ?_ | refine zab rfl rfl (zaa rfl) (zaw rfl ts27 rfl) ?_ | refine zab rfl rfl (zaa rfl) (zbc rfl ts27 rfl) ?_ | refine zab rfl rfl (zaa rfl) (zax rfl ts27 rfl) ?_)
  all_goals (first | refine zab rfl rfl (zaa rfl) (za3 (.inl rfl) rfl) ?_ | refine zab rfl rfl (zaa rfl) (zbi (.inl rfl) rfl) ?_ | refine zab rfl rfl (zaa rfl) (mv_s (.inl rfl) rfl) ?_ | refine zab rfl rfl (zaa rfl) (za4 (.inl rfl) rfl) ?_)
  all_goals (first | refine zab rfl rfl (zaa rfl) (za0 rfl ts27 rfl) ?_ | refine zab rfl rfl (zaa rfl) (za7 rfl ts27 rfl) ?_ | refine zab rfl rfl (zaa rfl) (zaw rfl ts27 rfl) ?_ | refine zab rfl rfl (zaa rfl) (zbc rfl ts27 rfl) ?_ | refine zab rfl rfl (zaa rfl) (zax rfl ts27 rfl) ?_)
  all_goals (first | refine zbj rfl rfl (zaa rfl) (does_neq rfl rfl rfl) (fun h10 => ?_) (fun h10 => ?_) | refine zbk rfl rfl (zaa rfl) (does_neq rfl rfl rfl) (fun h10 => ?_) (fun h10 => ?_))
  all_goals refine zan ?_
  all_goals (repeat (first | refine zag ?_ | refine zap ?_ | refine zad ?_ | refine zaq ?_ | refine zac ?_))
  all_goals (first | refine zbq rfl ?_ | refine zbm rfl ?_)
  all_goals (repeat (first | refine zag ?_ | refine zap ?_ | refine zad ?_ | refine zaq ?_ | refine zac ?_))
  · exact absurd rfl h10
  refine zaf ?_
  refine zab rfl rfl (zaa rfl) (mv_s (.inr rfl) rfl) ?_
  refine zan ?_
  repeat (first | refine zag ?_ | refine zap ?_ | refine zad ?_ | refine zaq ?_ | refine zac ?_)
  refine aw_loops (S := Nat) (fun k => [(0, eL eF a), (1, eL eF a), (5, eI k)]) (fun _ => []) (fun k => k ≤ a.length) (fun k => a.length - k) 0 (wk_st [] (by decide) trivial ⟨.lo _ (by repeat' (first | exact Lo.s _ | exact zah | refine zae ?_ ?_ | refine zai ?_ | refine Lo.cells ?_ | refine Lo.agg _ ?_ | refine Lo.ref _ ?_ | refine Lo.tup _ ?_ | refine Lo.fn _ _ ?_ | refine Lo.sl _ ?_ | intro _)), .lo _ (by repeat' (first | exact Lo.s _ | exact zah | refine zae ?_ ?_ | refine zai ?_ | refine Lo.cells ?_ | refine Lo.agg _ ?_ | refine Lo.ref _ ?_ | refine Lo.tup _ ?_ | refine Lo.fn _ _ ?_ | refine Lo.sl _ ?_ | intro _)), .lo _ (by repeat' (first | exact Lo.s _ | exact zah | refine zae ?_ ?_ | refine zai ?_ | refine Lo.cells ?_ | refine Lo.agg _ ?_ | refine Lo.ref _ ?_ | refine Lo.tup _ ?_ | refine Lo.fn _ _ ?_ | refine Lo.sl _ ?_ | intro _)), trivial⟩) (Nat.zero_le _) (fun k hk => ?_)
  repeat (first | refine zag ?_ | refine zap ?_ | refine zad ?_ | refine zaq ?_ | refine zac ?_)
  all_goals refine zaf ?_
  all_goals refine zab rfl rfl (zaa rfl) (mv_s (.inl rfl) rfl) ?_
  all_goals (first | refine zab rfl rfl (zaa rfl) (za3 (.inl rfl) rfl) ?_ | refine zab rfl rfl (zaa rfl) (zbi (.inl rfl) rfl) ?_ | refine zab rfl rfl (zaa rfl) (mv_s (.inl rfl) rfl) ?_ | refine zab rfl rfl (zaa rfl) (za4 (.inl rfl) rfl) ?_)
  all_goals (first | refine zab rfl rfl (zaa rfl) (za0 rfl ts27 rfl) ?_ | refine zab rfl rfl (zaa rfl) (za7 rfl ts27 rfl) ?_ | refine zab rfl rfl (zaa rfl) (zaw rfl ts27 rfl) ?_ | refine zab rfl rfl (zaa rfl) (zbc rfl ts27 rfl) ?_ | refine zab rfl rfl (zaa rfl) (zax rfl ts27 rfl) ?_)
  all_goals (first | refine zbj rfl rfl (zaa rfl) (zbd rfl rfl rfl) (fun h14 => ?_) (fun h14 => ?_) | refine zbk rfl rfl (zaa rfl) (zbd rfl rfl rfl) (fun h14 => ?_) (fun h14 => ?_))
  all_goals refine zan ?_
  all_goals (repeat (first | refine zag ?_ | refine zap ?_ | refine zad ?_ | refine zaq ?_ | refine zac ?_))
  all_goals (first | refine zbq rfl ?_ | refine zbm rfl ?_)
  all_goals (repeat (first | refine zag ?_ | refine zap ?_ | refine zad ?_ | refine zaq ?_ | refine zac ?_))
  · have hlt : k < a.length := by omega
    all_goals refine aw_draw hmix ?_
    all_goals refine adraw_quiet (by kernel_rfl) ?_
    all_goals (first | refine zay rfl rfl (zaa rfl) (za3 (.inl rfl) rfl) ?_ | refine zay rfl rfl (zaa rfl) (zbi (.inl rfl) rfl) ?_ | refine zay rfl rfl (zaa rfl) (mv_s (.inl rfl) rfl) ?_ | refine zay rfl rfl (zaa rfl) (za4 (.inl rfl) rfl) ?_)
    all_goals refine zay rfl rfl (zaa rfl) (mv_s (.inl rfl) rfl) ?_
    all_goals (first | refine zay rfl rfl (zaa rfl) (za1 rfl ts27 ti59 rfl rfl rfl (zb5 (by omega)) rfl) ?_ | refine zay rfl rfl (zaa rfl) (zav rfl ts27 ti59 rfl rfl rfl (by omega)) ?_)
    all_goals (first | refine zay rfl rfl (zaa rfl) (za9 rfl ta59 ti59 rfl rfl) ?_ | refine zay rfl rfl (zaa rfl) (zbf rfl ta59 ti59 rfl rfl rfl rfl rfl) ?_ | refine zay rfl rfl (zaa rfl) (za8 rfl ta59 ti59 rfl (Nat.le_of_ble_eq_true rfl)) ?_ | refine zay rfl rfl (zaa rfl) (zbg rfl ta59 ti59 rfl rfl rfl rfl (Nat.le_of_ble_eq_true rfl)) ?_)
    all_goals (first | refine zay rfl rfl (zaa rfl) (za3 (.inl rfl) rfl) ?_ | refine zay rfl rfl (zaa rfl) (zbi (.inl rfl) rfl) ?_ | refine zay rfl rfl (zaa rfl) (mv_s (.inl rfl) rfl) ?_ | refine zay rfl rfl (zaa rfl) (za4 (.inl rfl) rfl) ?_)
    all_goals refine zay rfl rfl (zaa rfl) (mv_s (.inl rfl) rfl) ?_
    all_goals (first | refine zay rfl rfl (zaa rfl) (za1 rfl ts27 ti59 rfl rfl rfl (zb5 (by omega)) rfl) ?_ | refine zay rfl rfl (zaa rfl) (zav rfl ts27 ti59 rfl rfl rfl (by omega)) ?_)
    all_goals (first | refine zay rfl rfl (zaa rfl) (za9 rfl ta59 ti59 rfl rfl) ?_ | refine zay rfl rfl (zaa rfl) (zbf rfl ta59 ti59 rfl rfl rfl rfl rfl) ?_ | refine zay rfl rfl (zaa rfl) (za8 rfl ta59 ti59 rfl (Nat.le_of_ble_eq_true rfl)) ?_ | refine zay rfl rfl (zaa rfl) (zbg rfl ta59 ti59 rfl rfl rfl rfl (Nat.le_of_ble_eq_true rfl)) ?_)
    all_goals (first | refine qx_opP rfl rfl (zaa rfl) (does_nea rfl rfl rfl te59 rfl rfl rfl) (fun h25 => ?_) (fun h25 => ?_) | refine qx_opB rfl rfl (zaa rfl) (does_nea rfl rfl rfl te59 rfl rfl rfl) (fun h25 => ?_) (fun h25 => ?_))
    all_goals refine qx_nil ?_
    all_goals (repeat (first | refine zag ?_ | refine zap ?_ | refine zad ?_ | refine zaq ?_ | refine zac ?_))
    all_goals (first | refine zbq rfl ?_ | refine zbm rfl ?_)
    all_goals (repeat (first | refine zag ?_ | refine zap ?_ | refine zad ?_ | refine zaq ?_ | refine zac ?_))
    · exact absurd rfl (clT h25)
    · skip
      refine zaf ?_
      refine zab rfl rfl (zaa rfl) (mv_s (.inl rfl) rfl) ?_
      refine zab rfl rfl (zaa rfl) (zbw rfl rfl rfl (IntWalk.i64_in _ (by omega))) ?_
      refine zab rfl rfl (zaa rfl) (mv_s (.inr rfl) rfl) ?_
      refine zan ?_
      repeat (first | refine zag ?_ | refine zap ?_ | refine zad ?_ | refine zaq ?_ | refine zac ?_)
      exact ⟨k + 1, by omega, by omega, wk_st [] (by decide) trivial ⟨.lo _ (by repeat' (first | exact Lo.s _ | exact zah | refine zae ?_ ?_ | refine zai ?_ | refine Lo.cells ?_ | refine Lo.agg _ ?_ | refine Lo.ref _ ?_ | refine Lo.tup _ ?_ | refine Lo.fn _ _ ?_ | refine Lo.sl _ ?_ | intro _)), .lo _ (by repeat' (first | exact Lo.s _ | exact zah | refine zae ?_ ?_ | refine zai ?_ | refine Lo.cells ?_ | refine Lo.agg _ ?_ | refine Lo.ref _ ?_ | refine Lo.tup _ ?_ | refine Lo.fn _ _ ?_ | refine Lo.sl _ ?_ | intro _)), .lo _ (by repeat' (first | exact Lo.s _ | exact zah | refine zae ?_ ?_ | refine zai ?_ | refine Lo.cells ?_ | refine Lo.agg _ ?_ | refine Lo.ref _ ?_ | refine Lo.tup _ ?_ | refine Lo.fn _ _ ?_ | refine Lo.sl _ ?_ | intro _)), trivial⟩⟩
  · (refine aw_exit ?_; repeat (first | refine ath_x ?_ | refine abl_hit ?_ | refine abl_miss rfl ?_ | refine zaq ?_ | refine zap ?_ | refine zag ?_ | refine zad ?_ | refine zac ?_))
    refine zaf ?_
    refine zab rfl rfl (zaa rfl) (mv_s (.inr rfl) rfl) ?_
    refine zan ?_
    repeat (first | refine zag ?_ | refine zap ?_ | refine zad ?_ | refine zaq ?_ | refine zac ?_)
    (refine zbt ?_; repeat (first | refine ath_r ?_ | refine abl_r ?_))
    exact post1 (.inr rfl) rfl rfl
set_option maxHeartbeats 2000000 in
theorem same06_pf (p : LP) : Pure P 17 [eP p, eP p] (eB true) := by
  have hlo : Lo 0 (eP p) := .agg _ (zae (lo_Fs _) (zae (zai fun r => lo_Fs r) (zae (zai fun _ => .s _) (zae (lo_Fs _) zah))))
  refine aw_fn (by rw [IsP.eq (P := P)]; exact Try.func17) rfl rfl rfl rfl rfl (zae hlo (zae hlo zah)) (.s _) (by simp only [argF]; rfl) ?_
  repeat (first | refine zag ?_ | refine zap ?_ | refine zad ?_ | refine zaq ?_ | refine zac ?_)
  refine zaf ?_
  refine zab rfl rfl (zaa rfl) (does_box rfl rfl rfl rfl) ?_
  refine zbr (wk_froz (id := 0) rfl) (zbr (wk_ref (d := 2) rfl rfl rfl) ?_)
  refine zab rfl rfl (zaa rfl) (does_box rfl rfl rfl rfl) ?_
  refine zbr (wk_froz (id := 1) rfl) (zbr (wk_ref (d := 3) rfl rfl rfl) ?_)
  refine zab rfl rfl (zaa rfl) (mv_s (.inr rfl) rfl) ?_
  refine zan ?_
  repeat (first | refine zag ?_ | refine zap ?_ | refine zad ?_ | refine zaq ?_ | refine zac ?_)
  have h1 := same01_pf (P := P) p.c
  have h2 := same01_pf (P := P) p.b
  all_goals refine zaf ?_
  all_goals (first | refine zab rfl rfl (zaa rfl) (zal rfl tf49_0 (by decide) rfl) ?_ | refine zab rfl rfl (zaa rfl) (zaj rfl tf49_0 (by decide) rfl) ?_)
  all_goals (first | refine zab rfl rfl (zaa rfl) (zao rfl ta27 rfl) ?_ | refine zab rfl rfl (zaa rfl) (zar rfl ta27 rfl rfl rfl rfl rfl) ?_)
  all_goals (first | refine zab rfl rfl (zaa rfl) (zal rfl tf49_0 (by decide) rfl) ?_ | refine zab rfl rfl (zaa rfl) (zaj rfl tf49_0 (by decide) rfl) ?_)
  all_goals (first | refine zab rfl rfl (zaa rfl) (zao rfl ta27 rfl) ?_ | refine zab rfl rfl (zaa rfl) (zar rfl ta27 rfl rfl rfl rfl rfl) ?_)
  all_goals refine zab rfl rfl (zaa rfl) (za5 rfl rfl (h1) (zat rfl (zat rfl zbl))) ?_
  all_goals (first | refine zab rfl rfl (zaa rfl) (does_notp rfl rfl) ?_ | refine zab rfl rfl (zaa rfl) (does_not rfl rfl) ?_)
  all_goals refine zab rfl rfl (zaa rfl) (mv_s (.inl rfl) rfl) ?_
  all_goals (first | refine zab rfl rfl (zak rfl rfl rfl) (zal rfl tf49_3 (by decide) rfl) ?_ | refine zab rfl rfl (zak rfl rfl rfl) (zaj rfl tf49_3 (by decide) rfl) ?_ | refine zam rfl rfl (za2 rfl rfl rfl) ?_ | refine zam rfl rfl (zau rfl rfl rfl) ?_)
  all_goals (first | refine zab rfl rfl (zak rfl rfl rfl) (zao rfl ta27 rfl) ?_ | refine zab rfl rfl (zak rfl rfl rfl) (zar rfl ta27 rfl rfl rfl rfl rfl) ?_ | refine zam rfl rfl (za2 rfl rfl rfl) ?_ | refine zam rfl rfl (zau rfl rfl rfl) ?_)
  all_goals (first | refine zab rfl rfl (zak rfl rfl rfl) (zal rfl tf49_3 (by decide) rfl) ?_ | refine zab rfl rfl (zak rfl rfl rfl) (zaj rfl tf49_3 (by decide) rfl) ?_ | refine zam rfl rfl (za2 rfl rfl rfl) ?_ | refine zam rfl rfl (zau rfl rfl rfl) ?_)
  all_goals (first | refine zab rfl rfl (zak rfl rfl rfl) (zao rfl ta27 rfl) ?_ | refine zab rfl rfl (zak rfl rfl rfl) (zar rfl ta27 rfl rfl rfl rfl rfl) ?_ | refine zam rfl rfl (za2 rfl rfl rfl) ?_ | refine zam rfl rfl (zau rfl rfl rfl) ?_)
  all_goals (first | refine zab rfl rfl (zak rfl rfl rfl) (za5 rfl rfl (h2) (zat rfl (zat rfl zbl))) ?_ | refine zam rfl rfl (za2 rfl rfl rfl) ?_ | refine zam rfl rfl (zau rfl rfl rfl) ?_)
  all_goals (first | refine zab rfl rfl (zak rfl rfl rfl) (does_notp rfl rfl) ?_ | refine zab rfl rfl (zak rfl rfl rfl) (does_not rfl rfl) ?_ | refine zam rfl rfl (za2 rfl rfl rfl) ?_ | refine zam rfl rfl (zau rfl rfl rfl) ?_)
  all_goals (first | refine zab rfl rfl (zaa rfl) (zb0 rfl rfl rfl) ?_ | refine zab rfl rfl (zaa rfl) (zb1 rfl rfl rfl) ?_ | refine zab rfl rfl (zaa rfl) (zbo rfl rfl rfl) ?_ | refine zab rfl rfl (zaa rfl) (zbp rfl rfl rfl) ?_)
  all_goals refine zab rfl rfl (zaa rfl) (mv_s (.inl rfl) rfl) ?_
  all_goals (first | refine zab rfl rfl (zak rfl rfl rfl) (zal rfl tf49_1 (by decide) rfl) ?_ | refine zab rfl rfl (zak rfl rfl rfl) (zaj rfl tf49_1 (by decide) rfl) ?_ | refine zam rfl rfl (za2 rfl rfl rfl) ?_ | refine zam rfl rfl (zau rfl rfl rfl) ?_)
  all_goals (first | refine zab rfl rfl (zak rfl rfl rfl) (zao rfl ta47 rfl) ?_ | refine zab rfl rfl (zak rfl rfl rfl) (zar rfl ta47 rfl rfl rfl rfl rfl) ?_ | refine zam rfl rfl (za2 rfl rfl rfl) ?_ | refine zam rfl rfl (zau rfl rfl rfl) ?_)
  all_goals (first | refine zab rfl rfl (zak rfl rfl rfl) (za0 rfl ts47 rfl) ?_ | refine zab rfl rfl (zak rfl rfl rfl) (za7 rfl ts47 rfl) ?_ | refine zab rfl rfl (zak rfl rfl rfl) (zaw rfl ts47 rfl) ?_ | refine zab rfl rfl (zak rfl rfl rfl) (zbc rfl ts47 rfl) ?_ | refine zab rfl rfl (zak rfl rfl rfl) (zax rfl ts47 rfl) ?_ | refine zam rfl rfl (za2 rfl rfl rfl) ?_ | refine zam rfl rfl (zau rfl rfl rfl) ?_)
  all_goals (first | refine zab rfl rfl (zak rfl rfl rfl) (zal rfl tf49_1 (by decide) rfl) ?_ | refine zab rfl rfl (zak rfl rfl rfl) (zaj rfl tf49_1 (by decide) rfl) ?_ | refine zam rfl rfl (za2 rfl rfl rfl) ?_ | refine zam rfl rfl (zau rfl rfl rfl) ?_)
  all_goals (first | refine zab rfl rfl (zak rfl rfl rfl) (zao rfl ta47 rfl) ?_ | refine zab rfl rfl (zak rfl rfl rfl) (zar rfl ta47 rfl rfl rfl rfl rfl) ?_ | refine zam rfl rfl (za2 rfl rfl rfl) ?_ | refine zam rfl rfl (zau rfl rfl rfl) ?_)
  all_goals (first | refine zab rfl rfl (zak rfl rfl rfl) (za0 rfl ts47 rfl) ?_ | refine zab rfl rfl (zak rfl rfl rfl) (za7 rfl ts47 rfl) ?_ | refine zab rfl rfl (zak rfl rfl rfl) (zaw rfl ts47 rfl) ?_ | refine zab rfl rfl (zak rfl rfl rfl) (zbc rfl ts47 rfl) ?_ | refine zab rfl rfl (zak rfl rfl rfl) (zax rfl ts47 rfl) ?_ | refine zam rfl rfl (za2 rfl rfl rfl) ?_ | refine zam rfl rfl (zau rfl rfl rfl) ?_)
  all_goals (first | refine zbj rfl rfl (zak rfl rfl rfl) (does_neq rfl rfl rfl) (fun h28 => ?_) (fun h28 => ?_) | refine zbk rfl rfl (zak rfl rfl rfl) (does_neq rfl rfl rfl) (fun h28 => ?_) (fun h28 => ?_) | refine zam rfl rfl (za2 rfl rfl rfl) ?_ | refine zam rfl rfl (zau rfl rfl rfl) ?_)
  all_goals (first | refine zab rfl rfl (zaa rfl) (zb0 rfl rfl rfl) ?_ | refine zab rfl rfl (zaa rfl) (zb1 rfl rfl rfl) ?_ | refine zab rfl rfl (zaa rfl) (zbo rfl rfl rfl) ?_ | refine zab rfl rfl (zaa rfl) (zbp rfl rfl rfl) ?_)
  all_goals refine zab rfl rfl (zaa rfl) (mv_s (.inl rfl) rfl) ?_
  all_goals (first | refine zab rfl rfl (zak rfl rfl rfl) (zal rfl tf49_2 (by decide) rfl) ?_ | refine zab rfl rfl (zak rfl rfl rfl) (zaj rfl tf49_2 (by decide) rfl) ?_ | refine zam rfl rfl (za2 rfl rfl rfl) ?_ | refine zam rfl rfl (zau rfl rfl rfl) ?_)
  all_goals (first | refine zab rfl rfl (zak rfl rfl rfl) (zao rfl ta22 rfl) ?_ | refine zab rfl rfl (zak rfl rfl rfl) (zar rfl ta22 rfl rfl rfl rfl rfl) ?_ | refine zam rfl rfl (za2 rfl rfl rfl) ?_ | refine zam rfl rfl (zau rfl rfl rfl) ?_)
  all_goals (first | refine zab rfl rfl (zak rfl rfl rfl) (za0 rfl ts22 rfl) ?_ | refine zab rfl rfl (zak rfl rfl rfl) (za7 rfl ts22 rfl) ?_ | refine zab rfl rfl (zak rfl rfl rfl) (zaw rfl ts22 rfl) ?_ | refine zab rfl rfl (zak rfl rfl rfl) (zbc rfl ts22 rfl) ?_ | refine zab rfl rfl (zak rfl rfl rfl) (zax rfl ts22 rfl) ?_ | refine zam rfl rfl (za2 rfl rfl rfl) ?_ | refine zam rfl rfl (zau rfl rfl rfl) ?_)
  all_goals (first | refine zab rfl rfl (zak rfl rfl rfl) (zal rfl tf49_2 (by decide) rfl) ?_ | refine zab rfl rfl (zak rfl rfl rfl) (zaj rfl tf49_2 (by decide) rfl) ?_ | refine zam rfl rfl (za2 rfl rfl rfl) ?_ | refine zam rfl rfl (zau rfl rfl rfl) ?_)
  all_goals (first | refine zab rfl rfl (zak rfl rfl rfl) (zao rfl ta22 rfl) ?_ | refine zab rfl rfl (zak rfl rfl rfl) (zar rfl ta22 rfl rfl rfl rfl rfl) ?_ | refine zam rfl rfl (za2 rfl rfl rfl) ?_ | refine zam rfl rfl (zau rfl rfl rfl) ?_)
  all_goals (first | refine zab rfl rfl (zak rfl rfl rfl) (za0 rfl ts22 rfl) ?_ | refine zab rfl rfl (zak rfl rfl rfl) (za7 rfl ts22 rfl) ?_ | refine zab rfl rfl (zak rfl rfl rfl) (zaw rfl ts22 rfl) ?_ | refine zab rfl rfl (zak rfl rfl rfl) (zbc rfl ts22 rfl) ?_ | refine zab rfl rfl (zak rfl rfl rfl) (zax rfl ts22 rfl) ?_ | refine zam rfl rfl (za2 rfl rfl rfl) ?_ | refine zam rfl rfl (zau rfl rfl rfl) ?_)
  all_goals (first | refine zbj rfl rfl (zak rfl rfl rfl) (does_neq rfl rfl rfl) (fun h37 => ?_) (fun h37 => ?_) | refine zbk rfl rfl (zak rfl rfl rfl) (does_neq rfl rfl rfl) (fun h37 => ?_) (fun h37 => ?_) | refine zam rfl rfl (za2 rfl rfl rfl) ?_ | refine zam rfl rfl (zau rfl rfl rfl) ?_)
  all_goals (first | refine zab rfl rfl (zaa rfl) (zb0 rfl rfl rfl) ?_ | refine zab rfl rfl (zaa rfl) (zb1 rfl rfl rfl) ?_ | refine zab rfl rfl (zaa rfl) (zbo rfl rfl rfl) ?_ | refine zab rfl rfl (zaa rfl) (zbp rfl rfl rfl) ?_)
  all_goals refine zan ?_
  all_goals (repeat (first | refine zag ?_ | refine zap ?_ | refine zad ?_ | refine zaq ?_ | refine zac ?_))
  all_goals (first | refine zbq rfl ?_ | refine zbm rfl ?_)
  all_goals (repeat (first | refine zag ?_ | refine zap ?_ | refine zad ?_ | refine zaq ?_ | refine zac ?_))
  all_goals first
    | exact absurd rfl h28
    | exact absurd rfl h37
    | skip
  refine zaf ?_
  refine zab rfl rfl (zaa rfl) (mv_s (.inr rfl) rfl) ?_
  refine zan ?_
  repeat (first | refine zag ?_ | refine zap ?_ | refine zad ?_ | refine zaq ?_ | refine zac ?_)
  refine aw_loops (S := Nat) (fun k => [(2, .ref (eP p).cells), (3, .ref (eP p).cells), (5, eI k)]) (fun _ => []) (fun k => k ≤ p.rel.length) (fun k => p.rel.length - k) 0 (wk_st [] (by decide) trivial ⟨.lo _ (.ref _ hlo.cells), .lo _ (.ref _ hlo.cells), .lo _ (by repeat' (first | exact Lo.s _ | exact zah | refine zae ?_ ?_ | refine zai ?_ | refine Lo.cells ?_ | refine Lo.agg _ ?_ | refine Lo.ref _ ?_ | refine Lo.tup _ ?_ | refine Lo.fn _ _ ?_ | refine Lo.sl _ ?_ | intro _)), trivial⟩) (Nat.zero_le _) (fun k hk => ?_)
  repeat (first | refine zag ?_ | refine zap ?_ | refine zad ?_ | refine zaq ?_ | refine zac ?_)
  refine zaf ?_
  refine zab rfl rfl (zaa rfl) (mv_s (.inl rfl) rfl) ?_
  first | refine zab rfl rfl (zaa rfl) (zal rfl tf49_2 (by decide) rfl) ?_ | refine zab rfl rfl (zaa rfl) (zaj rfl tf49_2 (by decide) rfl) ?_
  first | refine zab rfl rfl (zaa rfl) (zao rfl ta22 rfl) ?_ | refine zab rfl rfl (zaa rfl) (zar rfl ta22 rfl rfl rfl rfl rfl) ?_
  first | refine zab rfl rfl (zaa rfl) (za0 rfl ts22 rfl) ?_ | refine zab rfl rfl (zaa rfl) (za7 rfl ts22 rfl) ?_ | refine zab rfl rfl (zaa rfl) (zaw rfl ts22 rfl) ?_ | refine zab rfl rfl (zaa rfl) (zbc rfl ts22 rfl) ?_ | refine zab rfl rfl (zaa rfl) (zax rfl ts22 rfl) ?_
  refine zab rfl rfl (zaa rfl) (zbd rfl rfl rfl) ?_
  refine zan ?_
  repeat (first | refine zag ?_ | refine zap ?_ | refine zad ?_ | refine zaq ?_ | refine zac ?_)
  refine aw_bdm (d := 41) rfl (fun hm2 => ?_)
  unfold maxLen at hm2
  refine aw_if rfl (fun h => ?_) (fun h => ?_)
  · have hlt : k < p.rel.length := by omega
    repeat (first | refine zag ?_ | refine zap ?_ | refine zad ?_ | refine zaq ?_ | refine zac ?_)
    all_goals refine aw_draw hmix ?_
    all_goals refine adraw_quiet (by kernel_rfl) ?_
    all_goals (first | refine zay rfl rfl (zaa rfl) (zal rfl tf49_2 (by decide) rfl) ?_ | refine zay rfl rfl (zaa rfl) (zaj rfl tf49_2 (by decide) rfl) ?_)
    all_goals (first | refine zay rfl rfl (zaa rfl) (zao rfl ta22 rfl) ?_ | refine zay rfl rfl (zaa rfl) (zar rfl ta22 rfl rfl rfl rfl rfl) ?_)
    all_goals refine zay rfl rfl (zaa rfl) (mv_s (.inl rfl) rfl) ?_
    all_goals (first | refine zay rfl rfl (zaa rfl) (za1 rfl ts22 ti3 rfl rfl rfl (zb5 (by omega)) rfl) ?_ | refine zay rfl rfl (zaa rfl) (zav rfl ts22 ti3 rfl rfl rfl (by omega)) ?_)
    all_goals (first | refine zay rfl rfl (zaa rfl) (zao rfl ta3 rfl) ?_ | refine zay rfl rfl (zaa rfl) (zar rfl ta3 rfl rfl rfl rfl rfl) ?_)
    all_goals (first | refine zay rfl rfl (zaa rfl) (zal rfl tf49_2 (by decide) rfl) ?_ | refine zay rfl rfl (zaa rfl) (zaj rfl tf49_2 (by decide) rfl) ?_)
    all_goals (first | refine zay rfl rfl (zaa rfl) (zao rfl ta22 rfl) ?_ | refine zay rfl rfl (zaa rfl) (zar rfl ta22 rfl rfl rfl rfl rfl) ?_)
    all_goals refine zay rfl rfl (zaa rfl) (mv_s (.inl rfl) rfl) ?_
    all_goals (first | refine zay rfl rfl (zaa rfl) (za1 rfl ts22 ti3 rfl rfl rfl (zb5 (by omega)) rfl) ?_ | refine zay rfl rfl (zaa rfl) (zav rfl ts22 ti3 rfl rfl rfl (by omega)) ?_)
    all_goals (first | refine zay rfl rfl (zaa rfl) (zao rfl ta3 rfl) ?_ | refine zay rfl rfl (zaa rfl) (zar rfl ta3 rfl rfl rfl rfl rfl) ?_)
    all_goals (first | refine qx_opP rfl rfl (zaa rfl) (does_neq rfl rfl rfl) (fun h56 => ?_) (fun h56 => ?_) | refine qx_opB rfl rfl (zaa rfl) (does_neq rfl rfl rfl) (fun h56 => ?_) (fun h56 => ?_))
    all_goals refine qx_nil ?_
    all_goals (repeat (first | refine zag ?_ | refine zap ?_ | refine zad ?_ | refine zaq ?_ | refine zac ?_))
    all_goals (first | refine zbq rfl ?_ | refine zbm rfl ?_)
    all_goals (repeat (first | refine zag ?_ | refine zap ?_ | refine zad ?_ | refine zaq ?_ | refine zac ?_))
    · exact absurd rfl h56
    · skip
      refine zaf ?_
      refine zab rfl rfl (zaa rfl) (mv_s (.inl rfl) rfl) ?_
      refine zab rfl rfl (zaa rfl) (zbw rfl rfl rfl (IntWalk.i64_in _ (by omega))) ?_
      refine zab rfl rfl (zaa rfl) (mv_s (.inr rfl) rfl) ?_
      refine zan ?_
      repeat (first | refine zag ?_ | refine zap ?_ | refine zad ?_ | refine zaq ?_ | refine zac ?_)
      exact ⟨k + 1, by omega, by omega, wk_st [] (by decide) trivial ⟨.lo _ (.ref _ hlo.cells), .lo _ (.ref _ hlo.cells), .lo _ (by repeat' (first | exact Lo.s _ | exact zah | refine zae ?_ ?_ | refine zai ?_ | refine Lo.cells ?_ | refine Lo.agg _ ?_ | refine Lo.ref _ ?_ | refine Lo.tup _ ?_ | refine Lo.fn _ _ ?_ | refine Lo.sl _ ?_ | intro _)), trivial⟩⟩
  repeat (first | refine zag ?_ | refine zap ?_ | refine zad ?_ | refine zaq ?_ | refine zac ?_)
  (refine aw_exit ?_; repeat (first | refine ath_x ?_ | refine abl_hit ?_ | refine abl_miss rfl ?_ | refine zaq ?_ | refine zap ?_ | refine zag ?_ | refine zad ?_ | refine zac ?_))
  refine zaf ?_
  refine zab rfl rfl (zaa rfl) (mv_s (.inr rfl) rfl) ?_
  refine zan ?_
  repeat (first | refine zag ?_ | refine zap ?_ | refine zad ?_ | refine zaq ?_ | refine zac ?_)
  refine aw_loops (S := Nat) (fun k => [(2, .ref (eP p).cells), (3, .ref (eP p).cells), (6, eI k)]) (fun _ => []) (fun k => k ≤ p.a.length) (fun k => p.a.length - k) 0 (wk_st [] (by decide) trivial ⟨.lo _ (.ref _ hlo.cells), .lo _ (.ref _ hlo.cells), .lo _ (by repeat' (first | exact Lo.s _ | exact zah | refine zae ?_ ?_ | refine zai ?_ | refine Lo.cells ?_ | refine Lo.agg _ ?_ | refine Lo.ref _ ?_ | refine Lo.tup _ ?_ | refine Lo.fn _ _ ?_ | refine Lo.sl _ ?_ | intro _)), trivial⟩) (Nat.zero_le _) (fun k hk => ?_)
  repeat (first | refine zag ?_ | refine zap ?_ | refine zad ?_ | refine zaq ?_ | refine zac ?_)
  refine zaf ?_
  refine zab rfl rfl (zaa rfl) (mv_s (.inl rfl) rfl) ?_
  first | refine zab rfl rfl (zaa rfl) (zal rfl tf49_1 (by decide) rfl) ?_ | refine zab rfl rfl (zaa rfl) (zaj rfl tf49_1 (by decide) rfl) ?_
  first | refine zab rfl rfl (zaa rfl) (zao rfl ta47 rfl) ?_ | refine zab rfl rfl (zaa rfl) (zar rfl ta47 rfl rfl rfl rfl rfl) ?_
  first | refine zab rfl rfl (zaa rfl) (za0 rfl ts47 rfl) ?_ | refine zab rfl rfl (zaa rfl) (za7 rfl ts47 rfl) ?_ | refine zab rfl rfl (zaa rfl) (zaw rfl ts47 rfl) ?_ | refine zab rfl rfl (zaa rfl) (zbc rfl ts47 rfl) ?_ | refine zab rfl rfl (zaa rfl) (zax rfl ts47 rfl) ?_
  refine zab rfl rfl (zaa rfl) (zbd rfl rfl rfl) ?_
  refine zan ?_
  repeat (first | refine zag ?_ | refine zap ?_ | refine zad ?_ | refine zaq ?_ | refine zac ?_)
  refine aw_bdm (d := 59) rfl (fun hm2 => ?_)
  unfold maxLen at hm2
  refine aw_if rfl (fun h => ?_) (fun h => ?_)
  · have hlt : k < p.a.length := by omega
    have h3 := same01_pf (P := P) (gti p.a k)
    repeat (first | refine zag ?_ | refine zap ?_ | refine zad ?_ | refine zaq ?_ | refine zac ?_)
    all_goals refine aw_draw hmix ?_
    all_goals refine adraw_ex ?_
    all_goals (first | refine zas rfl rfl (zaa rfl) (fun _ => (zal rfl tf49_1 (by decide) rfl)) ?_ | refine zas rfl rfl (zaa rfl) (fun _ => (zaj rfl tf49_1 (by decide) rfl)) ?_)
    all_goals (first | refine zas rfl rfl (zaa rfl) (fun _ => (zao rfl ta47 rfl)) ?_ | refine zb4 rfl rfl (zaa rfl) (look_ptr rfl ta47 rfl rfl rfl rfl rfl) ?_)
    all_goals refine zas rfl rfl (zaa rfl) (fun _ => (mv_s (.inl rfl) rfl)) ?_
    all_goals (first | refine zas rfl rfl (zaa rfl) (fun _ => (za1 rfl ts47 ti27 rfl rfl rfl (zb5 (by omega)) rfl)) ?_ | refine zas rfl rfl (zaa rfl) (fun _ => (zav rfl ts47 ti27 rfl rfl rfl (by omega))) ?_)
    all_goals (first | refine zas rfl rfl (zaa rfl) (fun _ => (zao rfl ta27 rfl)) ?_ | refine zb4 rfl rfl (zaa rfl) (look_ptr rfl ta27 rfl rfl rfl rfl rfl) ?_)
    all_goals (first | refine zas rfl rfl (zaa rfl) (fun _ => (zal rfl tf49_1 (by decide) rfl)) ?_ | refine zas rfl rfl (zaa rfl) (fun _ => (zaj rfl tf49_1 (by decide) rfl)) ?_)
    all_goals (first | refine zas rfl rfl (zaa rfl) (fun _ => (zao rfl ta47 rfl)) ?_ | refine zb4 rfl rfl (zaa rfl) (look_ptr rfl ta47 rfl rfl rfl rfl rfl) ?_)
    all_goals refine zas rfl rfl (zaa rfl) (fun _ => (mv_s (.inl rfl) rfl)) ?_
    all_goals (first | refine zas rfl rfl (zaa rfl) (fun _ => (za1 rfl ts47 ti27 rfl rfl rfl (zb5 (by omega)) rfl)) ?_ | refine zas rfl rfl (zaa rfl) (fun _ => (zav rfl ts47 ti27 rfl rfl rfl (by omega))) ?_)
    all_goals (first | refine zas rfl rfl (zaa rfl) (fun _ => (zao rfl ta27 rfl)) ?_ | refine zb4 rfl rfl (zaa rfl) (look_ptr rfl ta27 rfl rfl rfl rfl rfl) ?_)
    all_goals refine zas rfl rfl (zaa rfl) (fun _ => (za5 rfl rfl (h3) (zat rfl (zat rfl zbl)))) ?_
    all_goals (first | refine zas rfl rfl (zaa rfl) (fun _ => (does_notp rfl rfl)) ?_ | refine zas rfl rfl (zaa rfl) (fun _ => (does_not rfl rfl)) ?_)
    all_goals refine ex_nil (by kernel_rfl) ?_
    all_goals (repeat (first | refine zag ?_ | refine zap ?_ | refine zad ?_ | refine zaq ?_ | refine zac ?_))
    refine zbm rfl ?_
    repeat (first | refine zag ?_ | refine zap ?_ | refine zad ?_ | refine zaq ?_ | refine zac ?_)
    refine zaf ?_
    refine zab rfl rfl (zaa rfl) (mv_s (.inl rfl) rfl) ?_
    refine zab rfl rfl (zaa rfl) (zbw rfl rfl rfl (IntWalk.i64_in _ (by omega))) ?_
    refine zab rfl rfl (zaa rfl) (mv_s (.inr rfl) rfl) ?_
    refine zan ?_
    repeat (first | refine zag ?_ | refine zap ?_ | refine zad ?_ | refine zaq ?_ | refine zac ?_)
    exact ⟨k + 1, by omega, by omega, wk_st [] (by decide) trivial ⟨.lo _ (.ref _ hlo.cells), .lo _ (.ref _ hlo.cells), .lo _ (by repeat' (first | exact Lo.s _ | exact zah | refine zae ?_ ?_ | refine zai ?_ | refine Lo.cells ?_ | refine Lo.agg _ ?_ | refine Lo.ref _ ?_ | refine Lo.tup _ ?_ | refine Lo.fn _ _ ?_ | refine Lo.sl _ ?_ | intro _)), trivial⟩⟩
  repeat (first | refine zag ?_ | refine zap ?_ | refine zad ?_ | refine zaq ?_ | refine zac ?_)
  (refine aw_exit ?_; repeat (first | refine ath_x ?_ | refine abl_hit ?_ | refine abl_miss rfl ?_ | refine zaq ?_ | refine zap ?_ | refine zag ?_ | refine zad ?_ | refine zac ?_))
  refine zaf ?_
  refine zab rfl rfl (zaa rfl) (mv_s (.inr rfl) rfl) ?_
  refine zan ?_
  repeat (first | refine zag ?_ | refine zap ?_ | refine zad ?_ | refine zaq ?_ | refine zac ?_)
  (refine zbt ?_; repeat (first | refine ath_r ?_ | refine abl_r ?_))
  exact post1 (.inr rfl) rfl rfl
end Go.Proofs.Ytmoipmnhgdmkpaa.Aw
end
section
namespace Go.Proofs.Ytmoipmnhgdmkpaa.Aw
set_option linter.unusedSimpArgs false
set_option linter.unusedVariables false
set_option linter.unusedSectionVars false
open Go.RowKit Go.Proofs
variable {P : Program} [IsP P]

set_option maxHeartbeats 2000000 in
theorem lawParts_pf (h1 : Pure P 5 [] (eB true)) (d : List Int) (l : List Sft) (p : Pln) : Pure P 4 [eL eI d, eL eSh l, ePl p] (eB true) := by
  have h2 := few_pf (P := P) d l
  have h3 := covers_pf (P := P) d l p
  have h4 := rCovers_pf (P := P) d l p
  have h5 := imp_pf (P := P) d l
  have h6 := rImp_pf (P := P) d l
  have h7 := sProgram_pf (P := P) d l
  have h8 := rProgram_pf (P := P) d l
  have h9 := sValid_pf54 (P := P) d l
  have h10 := qValid_pf54 (P := P) d l
  generalize fewB d l = y at h2
  generalize covE d l p.c = r at h3 h4
  generalize impE d l = s at h5 h6
  generalize prgR d l = t at h7 h8
  generalize validS d l = z at h9 h10
  obtain ⟨b, m, e⟩ := r
  obtain ⟨i, g⟩ := s
  obtain ⟨q, o⟩ := t
  have h11 := same06_pf (P := P) q
  have hlq := lo_P q
  obtain ⟨qc, qa, qr, qb⟩ := q
  replace h3 : Pure P 9 [eL eI d, eL eSh l, ePl p] (.tup [eB b, eI m, eI e]) := h3
  replace h4 : Pure P 10 [eL eI d, eL eSh l, ePl p] (.tup [eB b, eI m, eI e]) := h4
  replace h5 : Pure P 11 [eL eI d, eL eSh l] (.tup [eI i, eI g]) := h5
  replace h6 : Pure P 12 [eL eI d, eL eSh l] (.tup [eI i, eI g]) := h6
  replace h7 : Pure P 13 [eL eI d, eL eSh l] (.tup [.agg [eL eF qc, eL (eL eF) qa, eL eI qr, eL eF qb], eI o]) := h7
  replace h8 : Pure P 14 [eL eI d, eL eSh l] (.tup [.agg [eL eF qc, eL (eL eF) qa, eL eI qr, eL eF qb], eI o]) := h8
  replace h11 : Pure P 17 [.agg [eL eF qc, eL (eL eF) qa, eL eI qr, eL eF qb], .agg [eL eF qc, eL (eL eF) qa, eL eI qr, eL eF qb]] (eB true) := h11
  refine aw_fn (by rw [IsP.eq (P := P)]; exact Try.func4) rfl rfl rfl rfl rfl (by repeat' (first | exact Lo.s _ | exact zah | refine zae ?_ ?_ | refine zai ?_ | refine Lo.cells ?_ | refine Lo.agg _ ?_ | refine Lo.ref _ ?_ | refine Lo.tup _ ?_ | refine Lo.fn _ _ ?_ | refine Lo.sl _ ?_ | intro _)) (by repeat' (first | exact Lo.s _ | exact zah | refine zae ?_ ?_ | refine zai ?_ | refine Lo.cells ?_ | refine Lo.agg _ ?_ | refine Lo.ref _ ?_ | refine Lo.tup _ ?_ | refine Lo.fn _ _ ?_ | refine Lo.sl _ ?_ | intro _)) (by simp only [argF]; rfl) ?_
  repeat (first | refine zag ?_ | refine zap ?_ | refine zad ?_ | refine zaq ?_ | refine zac ?_)
  refine zaf ?_
  refine zab rfl rfl (zaa rfl) (does_box rfl rfl rfl rfl) ?_
  refine zbr (wk_froz (id := 0) rfl) (zbr (wk_ref (d := 5) rfl rfl rfl) ?_)
  refine zab rfl rfl (zaa rfl) (mv_s (.inr rfl) rfl) ?_
  refine zan ?_
  repeat (first | refine zag ?_ | refine zap ?_ | refine zad ?_ | refine zaq ?_ | refine zac ?_)
  refine zaf ?_
  refine zab rfl rfl (zaa rfl) (za5 rfl rfl (h1) zbl) ?_
  first | refine zab rfl rfl (zaa rfl) (does_notp rfl rfl) ?_ | refine zab rfl rfl (zaa rfl) (does_not rfl rfl) ?_
  refine zan ?_
  repeat (first | refine zag ?_ | refine zap ?_ | refine zad ?_ | refine zaq ?_ | refine zac ?_)
  refine zbm rfl ?_
  repeat (first | refine zag ?_ | refine zap ?_ | refine zad ?_ | refine zaq ?_ | refine zac ?_)
  all_goals refine zaf ?_
  all_goals (first | refine zab rfl rfl (zaa rfl) (za3 (.inl rfl) rfl) ?_ | refine zab rfl rfl (zaa rfl) (zbi (.inl rfl) rfl) ?_ | refine zab rfl rfl (zaa rfl) (mv_s (.inl rfl) rfl) ?_ | refine zab rfl rfl (zaa rfl) (za4 (.inl rfl) rfl) ?_)
  all_goals (first | refine zab rfl rfl (zaa rfl) (za3 (.inl rfl) rfl) ?_ | refine zab rfl rfl (zaa rfl) (zbi (.inl rfl) rfl) ?_ | refine zab rfl rfl (zaa rfl) (mv_s (.inl rfl) rfl) ?_ | refine zab rfl rfl (zaa rfl) (za4 (.inl rfl) rfl) ?_)
  all_goals (first | refine zbj rfl rfl (zaa rfl) (za5 rfl rfl (h2) (zat rfl (zat rfl zbl))) (fun h25 => ?_) (fun h25 => ?_) | refine zbk rfl rfl (zaa rfl) (za5 rfl rfl (h2) (zat rfl (zat rfl zbl))) (fun h25 => ?_) (fun h25 => ?_))
  all_goals (first | refine zab rfl rfl (zaa rfl) (does_notp rfl rfl) ?_ | refine zab rfl rfl (zaa rfl) (does_not rfl rfl) ?_)
  all_goals refine zab rfl rfl (zaa rfl) (mv_s (.inl rfl) rfl) ?_
  all_goals (first | refine zab rfl rfl (zak rfl rfl rfl) (zal rfl tf25_0 (by decide) rfl) ?_ | refine zab rfl rfl (zak rfl rfl rfl) (zaj rfl tf25_0 (by decide) rfl) ?_ | refine zam rfl rfl (za2 rfl rfl rfl) ?_ | refine zam rfl rfl (zau rfl rfl rfl) ?_)
  all_goals (first | refine zab rfl rfl (zak rfl rfl rfl) (zao rfl ta22 rfl) ?_ | refine zab rfl rfl (zak rfl rfl rfl) (zar rfl ta22 rfl rfl rfl rfl rfl) ?_ | refine zam rfl rfl (za2 rfl rfl rfl) ?_ | refine zam rfl rfl (zau rfl rfl rfl) ?_)
  all_goals (first | refine zab rfl rfl (zak rfl rfl rfl) (za0 rfl ts22 rfl) ?_ | refine zab rfl rfl (zak rfl rfl rfl) (za7 rfl ts22 rfl) ?_ | refine zab rfl rfl (zak rfl rfl rfl) (zaw rfl ts22 rfl) ?_ | refine zab rfl rfl (zak rfl rfl rfl) (zbc rfl ts22 rfl) ?_ | refine zab rfl rfl (zak rfl rfl rfl) (zax rfl ts22 rfl) ?_ | refine zam rfl rfl (za2 rfl rfl rfl) ?_ | refine zam rfl rfl (zau rfl rfl rfl) ?_)
  all_goals (first | refine zbj rfl rfl (zak rfl rfl rfl) (zbz rfl rfl rfl) (fun h31 => ?_) (fun h31 => ?_) | refine zbk rfl rfl (zak rfl rfl rfl) (zbz rfl rfl rfl) (fun h31 => ?_) (fun h31 => ?_) | refine zam rfl rfl (za2 rfl rfl rfl) ?_ | refine zam rfl rfl (zau rfl rfl rfl) ?_)
  all_goals (first | refine zab rfl rfl (zaa rfl) (zb0 rfl rfl rfl) ?_ | refine zab rfl rfl (zaa rfl) (zb1 rfl rfl rfl) ?_ | refine zab rfl rfl (zaa rfl) (zbo rfl rfl rfl) ?_ | refine zab rfl rfl (zaa rfl) (zbp rfl rfl rfl) ?_)
  all_goals refine zan ?_
  all_goals (repeat (first | refine zag ?_ | refine zap ?_ | refine zad ?_ | refine zaq ?_ | refine zac ?_))
  all_goals (first | refine zbq rfl ?_ | refine zbm rfl ?_)
  all_goals (repeat (first | refine zag ?_ | refine zap ?_ | refine zad ?_ | refine zaq ?_ | refine zac ?_))
  all_goals first
    | skip
      refine zaf ?_
      refine zab rfl rfl (zaa rfl) (mv_s (.inr rfl) rfl) ?_
      refine zan ?_
      repeat (first | refine zag ?_ | refine zap ?_ | refine zad ?_ | refine zaq ?_ | refine zac ?_)
      (refine zbt ?_; repeat (first | refine ath_r ?_ | refine abl_r ?_))
      exact post1 (.inr rfl) rfl rfl
    | skip
  refine zaf ?_
  first | refine zab rfl rfl (zaa rfl) (za3 (.inl rfl) rfl) ?_ | refine zab rfl rfl (zaa rfl) (zbi (.inl rfl) rfl) ?_ | refine zab rfl rfl (zaa rfl) (mv_s (.inl rfl) rfl) ?_ | refine zab rfl rfl (zaa rfl) (za4 (.inl rfl) rfl) ?_
  first | refine zab rfl rfl (zaa rfl) (za3 (.inl rfl) rfl) ?_ | refine zab rfl rfl (zaa rfl) (zbi (.inl rfl) rfl) ?_ | refine zab rfl rfl (zaa rfl) (mv_s (.inl rfl) rfl) ?_ | refine zab rfl rfl (zaa rfl) (za4 (.inl rfl) rfl) ?_
  first | refine zab rfl rfl (zaa rfl) (za9 rfl ta25 ti25 rfl rfl) ?_ | refine zab rfl rfl (zaa rfl) (zbf rfl ta25 ti25 rfl rfl rfl rfl rfl) ?_ | refine zab rfl rfl (zaa rfl) (za8 rfl ta25 ti25 rfl (Nat.le_of_ble_eq_true rfl)) ?_ | refine zab rfl rfl (zaa rfl) (zbg rfl ta25 ti25 rfl rfl rfl rfl (Nat.le_of_ble_eq_true rfl)) ?_
  refine zab rfl rfl (zaa rfl) (za5 rfl rfl (h3) (zat rfl (zat rfl (zat rfl zbl)))) ?_
  first | refine zab rfl rfl (zaa rfl) (mv_tup (.inl rfl) rfl) ?_ | refine zab rfl rfl (zaa rfl) (mv_s (.inl rfl) rfl) ?_
  refine zab rfl rfl (zaa rfl) (zbh rfl rfl rfl) ?_
  refine zab rfl rfl (zaa rfl) (zbh rfl rfl rfl) ?_
  refine zab rfl rfl (zaa rfl) (zbh rfl rfl rfl) ?_
  refine zab rfl rfl (zaa rfl) (mv_s (.inr rfl) rfl) ?_
  refine zab rfl rfl (zaa rfl) (mv_s (.inr rfl) rfl) ?_
  refine zab rfl rfl (zaa rfl) (mv_s (.inr rfl) rfl) ?_
  refine zan ?_
  repeat (first | refine zag ?_ | refine zap ?_ | refine zad ?_ | refine zaq ?_ | refine zac ?_)
  refine zaf ?_
  first | refine zab rfl rfl (zaa rfl) (za3 (.inl rfl) rfl) ?_ | refine zab rfl rfl (zaa rfl) (zbi (.inl rfl) rfl) ?_ | refine zab rfl rfl (zaa rfl) (mv_s (.inl rfl) rfl) ?_ | refine zab rfl rfl (zaa rfl) (za4 (.inl rfl) rfl) ?_
  first | refine zab rfl rfl (zaa rfl) (za3 (.inl rfl) rfl) ?_ | refine zab rfl rfl (zaa rfl) (zbi (.inl rfl) rfl) ?_ | refine zab rfl rfl (zaa rfl) (mv_s (.inl rfl) rfl) ?_ | refine zab rfl rfl (zaa rfl) (za4 (.inl rfl) rfl) ?_
  first | refine zab rfl rfl (zaa rfl) (za9 rfl ta25 ti25 rfl rfl) ?_ | refine zab rfl rfl (zaa rfl) (zbf rfl ta25 ti25 rfl rfl rfl rfl rfl) ?_ | refine zab rfl rfl (zaa rfl) (za8 rfl ta25 ti25 rfl (Nat.le_of_ble_eq_true rfl)) ?_ | refine zab rfl rfl (zaa rfl) (zbg rfl ta25 ti25 rfl rfl rfl rfl (Nat.le_of_ble_eq_true rfl)) ?_
  refine zab rfl rfl (zaa rfl) (za5 rfl rfl (h4) (zat rfl (zat rfl (zat rfl zbl)))) ?_
  first | refine zab rfl rfl (zaa rfl) (mv_tup (.inl rfl) rfl) ?_ | refine zab rfl rfl (zaa rfl) (mv_s (.inl rfl) rfl) ?_
  refine zab rfl rfl (zaa rfl) (zbh rfl rfl rfl) ?_
  refine zab rfl rfl (zaa rfl) (zbh rfl rfl rfl) ?_
  refine zab rfl rfl (zaa rfl) (zbh rfl rfl rfl) ?_
  refine zab rfl rfl (zaa rfl) (mv_s (.inr rfl) rfl) ?_
  refine zab rfl rfl (zaa rfl) (mv_s (.inr rfl) rfl) ?_
  refine zab rfl rfl (zaa rfl) (mv_s (.inr rfl) rfl) ?_
  refine zan ?_
  repeat (first | refine zag ?_ | refine zap ?_ | refine zad ?_ | refine zaq ?_ | refine zac ?_)
  refine zaf ?_
  first | refine zab rfl rfl (zaa rfl) (za3 (.inl rfl) rfl) ?_ | refine zab rfl rfl (zaa rfl) (zbi (.inl rfl) rfl) ?_ | refine zab rfl rfl (zaa rfl) (mv_s (.inl rfl) rfl) ?_ | refine zab rfl rfl (zaa rfl) (za4 (.inl rfl) rfl) ?_
  first | refine zab rfl rfl (zaa rfl) (za3 (.inl rfl) rfl) ?_ | refine zab rfl rfl (zaa rfl) (zbi (.inl rfl) rfl) ?_ | refine zab rfl rfl (zaa rfl) (mv_s (.inl rfl) rfl) ?_ | refine zab rfl rfl (zaa rfl) (za4 (.inl rfl) rfl) ?_
  refine zab rfl rfl (zaa rfl) (za5 rfl rfl (h5) (zat rfl (zat rfl zbl))) ?_
  first | refine zab rfl rfl (zaa rfl) (mv_tup (.inl rfl) rfl) ?_ | refine zab rfl rfl (zaa rfl) (mv_s (.inl rfl) rfl) ?_
  refine zab rfl rfl (zaa rfl) (zbh rfl rfl rfl) ?_
  refine zab rfl rfl (zaa rfl) (zbh rfl rfl rfl) ?_
  refine zab rfl rfl (zaa rfl) (mv_s (.inr rfl) rfl) ?_
  refine zab rfl rfl (zaa rfl) (mv_s (.inr rfl) rfl) ?_
  refine zan ?_
  repeat (first | refine zag ?_ | refine zap ?_ | refine zad ?_ | refine zaq ?_ | refine zac ?_)
  refine zaf ?_
  first | refine zab rfl rfl (zaa rfl) (za3 (.inl rfl) rfl) ?_ | refine zab rfl rfl (zaa rfl) (zbi (.inl rfl) rfl) ?_ | refine zab rfl rfl (zaa rfl) (mv_s (.inl rfl) rfl) ?_ | refine zab rfl rfl (zaa rfl) (za4 (.inl rfl) rfl) ?_
  first | refine zab rfl rfl (zaa rfl) (za3 (.inl rfl) rfl) ?_ | refine zab rfl rfl (zaa rfl) (zbi (.inl rfl) rfl) ?_ | refine zab rfl rfl (zaa rfl) (mv_s (.inl rfl) rfl) ?_ | refine zab rfl rfl (zaa rfl) (za4 (.inl rfl) rfl) ?_
  refine zab rfl rfl (zaa rfl) (za5 rfl rfl (h6) (zat rfl (zat rfl zbl))) ?_
  first | refine zab rfl rfl (zaa rfl) (mv_tup (.inl rfl) rfl) ?_ | refine zab rfl rfl (zaa rfl) (mv_s (.inl rfl) rfl) ?_
  refine zab rfl rfl (zaa rfl) (zbh rfl rfl rfl) ?_
  refine zab rfl rfl (zaa rfl) (zbh rfl rfl rfl) ?_
  refine zab rfl rfl (zaa rfl) (mv_s (.inr rfl) rfl) ?_
  refine zab rfl rfl (zaa rfl) (mv_s (.inr rfl) rfl) ?_
  refine zan ?_
  repeat (first | refine zag ?_ | refine zap ?_ | refine zad ?_ | refine zaq ?_ | refine zac ?_)
  refine zaf ?_
  first | refine zab rfl rfl (zaa rfl) (za3 (.inl rfl) rfl) ?_ | refine zab rfl rfl (zaa rfl) (zbi (.inl rfl) rfl) ?_ | refine zab rfl rfl (zaa rfl) (mv_s (.inl rfl) rfl) ?_ | refine zab rfl rfl (zaa rfl) (za4 (.inl rfl) rfl) ?_
  first | refine zab rfl rfl (zaa rfl) (za3 (.inl rfl) rfl) ?_ | refine zab rfl rfl (zaa rfl) (zbi (.inl rfl) rfl) ?_ | refine zab rfl rfl (zaa rfl) (mv_s (.inl rfl) rfl) ?_ | refine zab rfl rfl (zaa rfl) (za4 (.inl rfl) rfl) ?_
  refine zab rfl rfl (zaa rfl) (za5 rfl rfl (h7) (zat rfl (zat rfl zbl))) ?_
  first | refine zab rfl rfl (zaa rfl) (mv_tup (.inl rfl) rfl) ?_ | refine zab rfl rfl (zaa rfl) (mv_s (.inl rfl) rfl) ?_
  refine zab rfl rfl (zaa rfl) (zbh rfl rfl rfl) ?_
  refine zab rfl rfl (zaa rfl) (zbh rfl rfl rfl) ?_
  refine zab rfl rfl (zaa rfl) (zbu rfl ti49 rfl rfl) ?_
  refine zb2 rfl (zaa rfl) (zbe rfl ti49 rfl rfl rfl rfl rfl rfl (by decide) (by decide)) ?_
  refine zab rfl rfl (zaa rfl) (mv_s (.inr rfl) rfl) ?_
  refine zan ?_
  repeat (first | refine zag ?_ | refine zap ?_ | refine zad ?_ | refine zaq ?_ | refine zac ?_)
  refine zaf ?_
  first | refine zab rfl rfl (zaa rfl) (za3 (.inl rfl) rfl) ?_ | refine zab rfl rfl (zaa rfl) (zbi (.inl rfl) rfl) ?_ | refine zab rfl rfl (zaa rfl) (mv_s (.inl rfl) rfl) ?_ | refine zab rfl rfl (zaa rfl) (za4 (.inl rfl) rfl) ?_
  first | refine zab rfl rfl (zaa rfl) (za3 (.inl rfl) rfl) ?_ | refine zab rfl rfl (zaa rfl) (zbi (.inl rfl) rfl) ?_ | refine zab rfl rfl (zaa rfl) (mv_s (.inl rfl) rfl) ?_ | refine zab rfl rfl (zaa rfl) (za4 (.inl rfl) rfl) ?_
  refine zab rfl rfl (zaa rfl) (za5 rfl rfl (h8) (zat rfl (zat rfl zbl))) ?_
  first | refine zab rfl rfl (zaa rfl) (mv_tup (.inl rfl) rfl) ?_ | refine zab rfl rfl (zaa rfl) (mv_s (.inl rfl) rfl) ?_
  refine zab rfl rfl (zaa rfl) (zbh rfl rfl rfl) ?_
  refine zab rfl rfl (zaa rfl) (zbh rfl rfl rfl) ?_
  refine zab rfl rfl (zaa rfl) (zbu rfl ti49 rfl rfl) ?_
  refine zb2 rfl (zaa rfl) (zbe rfl ti49 rfl rfl rfl rfl rfl rfl (by decide) (by decide)) ?_
  refine zab rfl rfl (zaa rfl) (mv_s (.inr rfl) rfl) ?_
  refine zan ?_
  repeat (first | refine zag ?_ | refine zap ?_ | refine zad ?_ | refine zaq ?_ | refine zac ?_)
  cases z <;> cases b
  all_goals (refine zaf ?_)
  all_goals (first | refine zab rfl rfl (zaa rfl) (za3 (.inl rfl) rfl) ?_ | refine zab rfl rfl (zaa rfl) (zbi (.inl rfl) rfl) ?_ | refine zab rfl rfl (zaa rfl) (mv_s (.inl rfl) rfl) ?_ | refine zab rfl rfl (zaa rfl) (za4 (.inl rfl) rfl) ?_)
  all_goals (first | refine zab rfl rfl (zaa rfl) (za3 (.inl rfl) rfl) ?_ | refine zab rfl rfl (zaa rfl) (zbi (.inl rfl) rfl) ?_ | refine zab rfl rfl (zaa rfl) (mv_s (.inl rfl) rfl) ?_ | refine zab rfl rfl (zaa rfl) (za4 (.inl rfl) rfl) ?_)
  all_goals (refine zab rfl rfl (zaa rfl) (za5 rfl rfl (h9) (zat rfl (zat rfl zbl))) ?_)
  all_goals (first | refine zab rfl rfl (zaa rfl) (za3 (.inl rfl) rfl) ?_ | refine zab rfl rfl (zaa rfl) (zbi (.inl rfl) rfl) ?_ | refine zab rfl rfl (zaa rfl) (mv_s (.inl rfl) rfl) ?_ | refine zab rfl rfl (zaa rfl) (za4 (.inl rfl) rfl) ?_)
  all_goals (first | refine zab rfl rfl (zaa rfl) (za3 (.inl rfl) rfl) ?_ | refine zab rfl rfl (zaa rfl) (zbi (.inl rfl) rfl) ?_ | refine zab rfl rfl (zaa rfl) (mv_s (.inl rfl) rfl) ?_ | refine zab rfl rfl (zaa rfl) (za4 (.inl rfl) rfl) ?_)
  all_goals (refine zab rfl rfl (zaa rfl) (za5 rfl rfl (h10) (zat rfl (zat rfl zbl))) ?_)
  all_goals (refine zab rfl rfl (zaa rfl) (does_eqlb (by rw [IsP.eq (P := P)]; kernel_rfl) rfl rfl rfl) ?_)
  all_goals (refine zab rfl rfl (zaa rfl) (mv_s (.inl rfl) rfl) ?_)
  all_goals (first | refine zab rfl rfl (zak rfl rfl rfl) (mv_s (.inl rfl) rfl) ?_ | refine zam rfl rfl (zbs rfl rfl rfl) ?_ | refine zam rfl rfl (zau rfl rfl rfl) ?_)
  all_goals (first | refine zab rfl rfl (zak rfl rfl rfl) (mv_s (.inl rfl) rfl) ?_ | refine zam rfl rfl (zbs rfl rfl rfl) ?_ | refine zam rfl rfl (zau rfl rfl rfl) ?_)
  all_goals (first | refine zab rfl rfl (zak rfl rfl rfl) (does_eqlb (by rw [IsP.eq (P := P)]; kernel_rfl) rfl rfl rfl) ?_ | refine zam rfl rfl (zbs rfl rfl rfl) ?_ | refine zam rfl rfl (zau rfl rfl rfl) ?_)
  all_goals (first | refine zab rfl rfl (zaa rfl) (zb0 rfl rfl rfl) ?_ | refine zab rfl rfl (zaa rfl) (zb1 rfl rfl rfl) ?_ | refine zab rfl rfl (zaa rfl) (zbo rfl rfl rfl) ?_ | refine zab rfl rfl (zaa rfl) (zbp rfl rfl rfl) ?_)
  all_goals (refine zab rfl rfl (zaa rfl) (mv_s (.inl rfl) rfl) ?_)
  all_goals (first | refine zab rfl rfl (zak rfl rfl rfl) (mv_s (.inl rfl) rfl) ?_ | refine zam rfl rfl (zbs rfl rfl rfl) ?_ | refine zam rfl rfl (zau rfl rfl rfl) ?_)
  all_goals (first | refine zab rfl rfl (zak rfl rfl rfl) (mv_s (.inl rfl) rfl) ?_ | refine zam rfl rfl (zbs rfl rfl rfl) ?_ | refine zam rfl rfl (zau rfl rfl rfl) ?_)
  all_goals (first | refine zab rfl rfl (zak rfl rfl rfl) (dec_t rfl (does_eql rfl rfl rfl)) ?_ | refine zam rfl rfl (zbs rfl rfl rfl) ?_ | refine zam rfl rfl (zau rfl rfl rfl) ?_)
  all_goals (first | refine zab rfl rfl (zaa rfl) (zb0 rfl rfl rfl) ?_ | refine zab rfl rfl (zaa rfl) (zb1 rfl rfl rfl) ?_ | refine zab rfl rfl (zaa rfl) (zbo rfl rfl rfl) ?_ | refine zab rfl rfl (zaa rfl) (zbp rfl rfl rfl) ?_)
  all_goals (refine zab rfl rfl (zaa rfl) (mv_s (.inl rfl) rfl) ?_)
  all_goals (first | refine zab rfl rfl (zak rfl rfl rfl) (mv_s (.inl rfl) rfl) ?_ | refine zam rfl rfl (zbs rfl rfl rfl) ?_ | refine zam rfl rfl (zau rfl rfl rfl) ?_)
  all_goals (first | refine zab rfl rfl (zak rfl rfl rfl) (mv_s (.inl rfl) rfl) ?_ | refine zam rfl rfl (zbs rfl rfl rfl) ?_ | refine zam rfl rfl (zau rfl rfl rfl) ?_)
  all_goals (first | refine zab rfl rfl (zak rfl rfl rfl) (dec_t rfl (does_eql rfl rfl rfl)) ?_ | refine zam rfl rfl (zbs rfl rfl rfl) ?_ | refine zam rfl rfl (zau rfl rfl rfl) ?_)
  all_goals (first | refine zab rfl rfl (zaa rfl) (zb0 rfl rfl rfl) ?_ | refine zab rfl rfl (zaa rfl) (zb1 rfl rfl rfl) ?_ | refine zab rfl rfl (zaa rfl) (zbo rfl rfl rfl) ?_ | refine zab rfl rfl (zaa rfl) (zbp rfl rfl rfl) ?_)
  all_goals (refine zab rfl rfl (zaa rfl) (mv_s (.inl rfl) rfl) ?_)
  all_goals (first | refine zab rfl rfl (zak rfl rfl rfl) (mv_s (.inl rfl) rfl) ?_ | refine zam rfl rfl (zbs rfl rfl rfl) ?_ | refine zam rfl rfl (zau rfl rfl rfl) ?_)
  all_goals (first | refine zab rfl rfl (zak rfl rfl rfl) (mv_s (.inl rfl) rfl) ?_ | refine zam rfl rfl (zbs rfl rfl rfl) ?_ | refine zam rfl rfl (zau rfl rfl rfl) ?_)
  all_goals (first | refine zab rfl rfl (zak rfl rfl rfl) (dec_t rfl (does_eql rfl rfl rfl)) ?_ | refine zam rfl rfl (zbs rfl rfl rfl) ?_ | refine zam rfl rfl (zau rfl rfl rfl) ?_)
  all_goals (first | refine zab rfl rfl (zaa rfl) (zb0 rfl rfl rfl) ?_ | refine zab rfl rfl (zaa rfl) (zb1 rfl rfl rfl) ?_ | refine zab rfl rfl (zaa rfl) (zbo rfl rfl rfl) ?_ | refine zab rfl rfl (zaa rfl) (zbp rfl rfl rfl) ?_)
  all_goals (refine zab rfl rfl (zaa rfl) (mv_s (.inl rfl) rfl) ?_)
  all_goals (first | refine zab rfl rfl (zak rfl rfl rfl) (mv_s (.inl rfl) rfl) ?_ | refine zam rfl rfl (zbs rfl rfl rfl) ?_ | refine zam rfl rfl (zau rfl rfl rfl) ?_)
  all_goals (first | refine zab rfl rfl (zak rfl rfl rfl) (mv_s (.inl rfl) rfl) ?_ | refine zam rfl rfl (zbs rfl rfl rfl) ?_ | refine zam rfl rfl (zau rfl rfl rfl) ?_)
  all_goals (first | refine zab rfl rfl (zak rfl rfl rfl) (dec_t rfl (does_eql rfl rfl rfl)) ?_ | refine zam rfl rfl (zbs rfl rfl rfl) ?_ | refine zam rfl rfl (zau rfl rfl rfl) ?_)
  all_goals (first | refine zab rfl rfl (zaa rfl) (zb0 rfl rfl rfl) ?_ | refine zab rfl rfl (zaa rfl) (zb1 rfl rfl rfl) ?_ | refine zab rfl rfl (zaa rfl) (zbo rfl rfl rfl) ?_ | refine zab rfl rfl (zaa rfl) (zbp rfl rfl rfl) ?_)
  all_goals (refine zab rfl rfl (zaa rfl) (mv_s (.inl rfl) rfl) ?_)
  all_goals (first | refine zab rfl rfl (zak rfl rfl rfl) (za9 rfl ta49 ti49 rfl rfl) ?_ | refine zab rfl rfl (zak rfl rfl rfl) (zbf rfl ta49 ti49 rfl rfl rfl rfl rfl) ?_ | refine zab rfl rfl (zak rfl rfl rfl) (za8 rfl ta49 ti49 rfl (Nat.le_of_ble_eq_true rfl)) ?_ | refine zab rfl rfl (zak rfl rfl rfl) (zbg rfl ta49 ti49 rfl rfl rfl rfl (Nat.le_of_ble_eq_true rfl)) ?_ | refine zam rfl rfl (zbs rfl rfl rfl) ?_ | refine zam rfl rfl (zau rfl rfl rfl) ?_)
  all_goals (first | refine zab rfl rfl (zak rfl rfl rfl) (za9 rfl ta49 ti49 rfl rfl) ?_ | refine zab rfl rfl (zak rfl rfl rfl) (zbf rfl ta49 ti49 rfl rfl rfl rfl rfl) ?_ | refine zab rfl rfl (zak rfl rfl rfl) (za8 rfl ta49 ti49 rfl (Nat.le_of_ble_eq_true rfl)) ?_ | refine zab rfl rfl (zak rfl rfl rfl) (zbg rfl ta49 ti49 rfl rfl rfl rfl (Nat.le_of_ble_eq_true rfl)) ?_ | refine zam rfl rfl (zbs rfl rfl rfl) ?_ | refine zam rfl rfl (zau rfl rfl rfl) ?_)
  all_goals (first | refine zab rfl rfl (zak rfl rfl rfl) (za5 rfl rfl (h11) (zat rfl (zat rfl zbl))) ?_ | refine zam rfl rfl (zbs rfl rfl rfl) ?_ | refine zam rfl rfl (zau rfl rfl rfl) ?_)
  all_goals (first | refine zab rfl rfl (zaa rfl) (zb0 rfl rfl rfl) ?_ | refine zab rfl rfl (zaa rfl) (zb1 rfl rfl rfl) ?_ | refine zab rfl rfl (zaa rfl) (zbo rfl rfl rfl) ?_ | refine zab rfl rfl (zaa rfl) (zbp rfl rfl rfl) ?_)
  all_goals (refine zab rfl rfl (zaa rfl) (mv_s (.inl rfl) rfl) ?_)
  all_goals (first | refine zab rfl rfl (zak rfl rfl rfl) (mv_s (.inl rfl) rfl) ?_ | refine zam rfl rfl (zbs rfl rfl rfl) ?_ | refine zam rfl rfl (zau rfl rfl rfl) ?_)
  all_goals (first | refine zab rfl rfl (zak rfl rfl rfl) (mv_s (.inl rfl) rfl) ?_ | refine zam rfl rfl (zbs rfl rfl rfl) ?_ | refine zam rfl rfl (zau rfl rfl rfl) ?_)
  all_goals (first | refine zab rfl rfl (zak rfl rfl rfl) (dec_t rfl (does_eql rfl rfl rfl)) ?_ | refine zam rfl rfl (zbs rfl rfl rfl) ?_ | refine zam rfl rfl (zau rfl rfl rfl) ?_)
  all_goals (first | refine zab rfl rfl (zaa rfl) (zb0 rfl rfl rfl) ?_ | refine zab rfl rfl (zaa rfl) (zb1 rfl rfl rfl) ?_ | refine zab rfl rfl (zaa rfl) (zbo rfl rfl rfl) ?_ | refine zab rfl rfl (zaa rfl) (zbp rfl rfl rfl) ?_)
  all_goals (refine zab rfl rfl (zaa rfl) (mv_s (.inr rfl) rfl) ?_)
  all_goals (refine zan ?_)
  all_goals (repeat (first | refine zag ?_ | refine zap ?_ | refine zad ?_ | refine zaq ?_ | refine zac ?_))
  all_goals (refine zbt ?_; repeat (first | refine ath_r ?_ | refine abl_r ?_))
  all_goals exact post1 (.inr rfl) rfl rfl
end Go.Proofs.Ytmoipmnhgdmkpaa.Aw
end
section
namespace Go.Proofs.Ytmoipmnhgdmkpaa
open Go.ChangeShapes Go.WideShapes Go.ChangeAt Go.RowKit
set_option maxRecDepth 100000 in
theorem shiftParts_lifted (hawake : Aw.Pure Try.prog 5 [] (Aw.eB true)) (os : Os) (started : os.Started) (H : Type) (enc : TypeId × Value → H) :
    ReturnsInHanded {} Try.checked os 4 .any (Rows.shiftPartsSpec.pre6 enc Try.prog Try.f4 Rows.shiftPartsRow.domain false) (Rows.shiftPartsSpec.post enc Try.prog Try.f4 false true false false) := by
  refine returnsInHanded_of_change (C := Try.checked) own_knob started (by kernel_rfl) Try.func4
    (ChangeSpec.witness6 (enc := enc) (C := Try.checked) false ⟨#[], #[.slice none 0 0, .slice none 0 0, .agg #[.slice none 0 0, .int .i64 0]], []⟩ 8 (by kernel_rfl) (by kernel_rfl) (by kernel_rfl) (by kernel_rfl)) ?_
  intro W base args ds gs before hval0 hW hcnd _
  have hval : ∀ (j : Nat) t v, Try.f4.params[j]? = some t → args[j]? = some v → Value.okWide Try.prog W .any base t v := hval0
  have hW' := hW
  obtain ⟨p, q, hA0, hV, rfl, hfz, hnd⟩ := hW
  have hA : DataW.TrodAll enc Try.prog W 0 (fun _ => true) true Try.f4.params.toList args.toList ds p := hA0
  rw [Try.params4] at hA hval
  obtain ⟨v0, v1, v2, d0, d1, d2, p0, p1, p2, rfl, rfl, rfl, h0, h1, h2⟩ := trodAll_three hA
  obtain ⟨rfl, rfl⟩ := trodVars_none hV
  obtain ⟨m, hn⟩ := Aw.open_ints (hval 0 22 v0 rfl rfl) h0
  obtain ⟨l, hs⟩ := Aw.open_shifts (hval 1 23 v1 rfl rfl) h1
  obtain ⟨k, hk⟩ := Aw.open_plan (hval 2 25 v2 rfl rfl) h2
  simp only [List.append_nil] at hW'
  refine (Aw.pure_law (Aw.lawParts_pf (P := Try.prog) hawake m l k) W #[v0, v1, v2] rfl (fun j v x hv hx => ?_)).mono fun e W' ⟨he, hb⟩ => ?_
  · match j, hv, hx with
    | 0, hv, hx => simp at hv hx; subst hv hx; exact hn
    | 1, hv, hx => simp at hv hx; subst hv hx; exact hs
    | 2, hv, hx => simp at hv hx; subst hv hx; exact hk
    | j + 3, hv, hx => simp at hv
  subst he
  have hp : ∀ x ∈ p0 ++ p1 ++ p2, x.block < W.heap.size := fun x hx => hW'.lt x (by simpa using hx)
  have hg := trodAll_mk3 (Below.trod laid_out (by kernel_rfl) (of_decide_eq_true (by kernel_rfl)) h0 hb (fun x hx => hp x (by simp [hx]))) (Below.trod laid_out (by kernel_rfl) (of_decide_eq_true (by kernel_rfl)) h1 hb (fun x hx => hp x (by simp [hx]))) (Below.trod laid_out (by kernel_rfl) (of_decide_eq_true (by kernel_rfl)) h2 hb (fun x hx => hp x (by simp [hx])))
  rw [← List.append_assoc] at hg
  exact ⟨_, rfl, law_post (t := 4) hW' (by kernel_rfl) Try.underlying4 ⟨rfl, rfl, rfl⟩ rfl hg hb⟩

theorem shiftParts_of (hawake : Aw.Pure Try.prog 5 [] (Aw.eB true)) : Rows.ShiftPartsSaid :=
  OpenClaim.holds_of_wide 4 Try.f4 rfl rfl rfl rfl rfl rfl rfl ⟨rfl, rfl, rfl, rfl, rfl⟩ rfl rfl rfl rfl rfl (by kernel_rfl) Try.func4 (by kernel_rfl)
    (of_decide_eq_true (by kernel_rfl)) (by unfold Func.isWrapper; first | (rw [if_pos (by decide +kernel)]; kernel_rfl) | (rw [if_neg (by decide +kernel)]; exact ⟨rfl, rfl⟩))
    (fun os started H enc _ => shiftParts_lifted hawake os started H enc)


end Go.Proofs.Ytmoipmnhgdmkpaa
end
section
namespace Go.Proofs.Ytmoipmnhgdmkpaa.Aw
set_option linter.unusedSimpArgs false
set_option linter.unusedVariables false
open Go Go.RowKit Go.Proofs
variable {P : Program} [IsP P]

def unF : AV → Option Fr
  | .agg [.s (.int .i64 a), .s (.int .i64 b)] => some ⟨a, b⟩
  | _ => none
theorem unF_of {x : AV} {a : Fr} (h : unF x = some a) : x = eF a := by
  unfold unF at h
  split at h
  · cases h; rfl
  · cases h
/-- functions of two fractions -/
def orc2 (f : Nat) (a b : Fr) : Option AV :=
  bif Nat.beq f 61 then some (eFE (mulE a b)) else
  bif Nat.beq f 65 then some (eFE (subE a b)) else
  bif Nat.beq f 98 then some (eFE (divE a b)) else
  bif Nat.beq f 66 then some (eFE (addE a b)) else
  bif Nat.beq f 57 then some (.tup [eI (cmpE a b).1, eI (cmpE a b).2]) else none
def orcF : Orc := fun f args => match args with
  | [x] => bif Nat.beq f 55 then match unF x with
      | some a => some (eB a.okB)
      | none => none
    else none
  | [x, y] => match unF x with
    | none => none
    | some a => match unF y with
      | none => none
      | some b => orc2 f a b
  | _ => none
theorem orcF_ok : OrcOk P orcF := by
  intro f args r h
  unfold orcF at h
  split at h
  · rename_i x
    cases hb : Nat.beq f 55 with
    | false => rw [hb] at h; cases h
    | true =>
      rw [hb, cond_true] at h
      split at h
      · rename_i a ha; cases h; rw [Nat.eq_of_beq_eq_true hb, unF_of ha]; exact fValid_pf a
      · cases h
  · rename_i x y
    split at h
    · cases h
    · rename_i a ha
      split at h
      · cases h
      · rename_i b hb
        rw [unF_of ha, unF_of hb]
        unfold orc2 at h
        cases h1 : Nat.beq f 61 with
        | true => rw [h1] at h; cases h; rw [Nat.eq_of_beq_eq_true h1]; exact fMul_pf a b
        | false =>
        rw [h1, cond_false] at h
        cases h1 : Nat.beq f 65 with
        | true => rw [h1] at h; cases h; rw [Nat.eq_of_beq_eq_true h1]; exact fSub_pf a b
        | false =>
        rw [h1, cond_false] at h
        cases h1 : Nat.beq f 98 with
        | true => rw [h1] at h; cases h; rw [Nat.eq_of_beq_eq_true h1]; exact fDiv_pf a b
        | false =>
        rw [h1, cond_false] at h
        cases h1 : Nat.beq f 66 with
        | true => rw [h1] at h; cases h; rw [Nat.eq_of_beq_eq_true h1]; exact fAdd_pf a b
        | false =>
        rw [h1, cond_false] at h
        cases h1 : Nat.beq f 57 with
        | true => rw [h1] at h; cases h; rw [Nat.eq_of_beq_eq_true h1]; exact fCmp_pf a b
        | false => rw [h1, cond_false] at h; cases h
  · cases h
end Go.Proofs.Ytmoipmnhgdmkpaa.Aw
end
section
namespace Go.Proofs.Ytmoipmnhgdmkpaa.Aw
set_option linter.unusedSimpArgs false
set_option linter.unusedVariables false
set_option linter.unusedSectionVars false
open Go Go.RowKit Go.Proofs
variable {P : Program} [IsP P]

theorem pure_emp {f : FuncId} {r : AV} (h0 : Pure P f [.s (.slice none 0 0)] r) (h1 : ∀ a : Addr, a.spot = none → Pure P f [.s (.slice (some a) 0 0)] r) : Pure P f [.emp] r :=
  ⟨h0.ent, h0.lo, fun G vargs hs hsz hrep => by
    have hlt : 0 < vargs.size := by rw [hsz]; simp
    have g := hrep 0 vargs[0] .emp (by simp [hlt]) rfl
    have one : ∀ {x : AV}, Rep G vargs[0] x → ∀ (j : Nat) v y, vargs[j]? = some v → [x][j]? = some y → Rep G v y := by
      intro x hx j v y hv hy
      cases j with
      | zero => simp at hy; subst hy; rw [Array.getElem?_eq_getElem hlt] at hv; cases hv; exact hx
      | succ j => simp at hy
    generalize hv : vargs[0] = v0 at g
    cases g with
    | emp A hA =>
      cases A with
      | none => exact h0.call G vargs hs hsz (one (by rw [hv]; exact .s _))
      | some a => exact (h1 a (hA a rfl)).call G vargs hs hsz (one (by rw [hv]; exact .s _))⟩
section
variable {o : Oper} {F : Frm} {σ : List Ob}
theorem does_append_e {t e : TypeId} {s y : Operand} {z : Option Value} {sz bt : Nat} {a : Addr} (ho : o.op = .call { callee := .builtin .append, args := #[s, y], argTypes := #[t, t] })
    (ht : zbv P t = some e) (hi : zbx P e = some (z, sz, bt)) (hx : F.eval s = .emp) (hy : F.eval y = .s (.slice (some a) 0 0)) : Does P o F σ .emp σ :=
  zby fun G ρ hr hop => by
    have g1 := hop s (by simp [ho, Op.operands, Call.operands])
    have g2 := hop y (by simp [ho, Op.operands, Call.operands])
    rw [hx] at g1
    rw [hy] at g2
    have g2 := rep_s g2
    generalize hv1 : ρ s = v1 at g1
    cases g1 with
    | emp B hB =>
      have hrun : (Builtin.append_ #[t, t] o.type #[.slice B 0 0, .slice (some a) 0 0]).run P G.w = .ok (.slice B 0 0) G.w := by
        have hf : (Builtin.firstCells sz 0 (.slice (some a) 0 0)).run P G.w = .ok #[] G.w := run_firstCells_some (P := P) G.w sz 0 a 0 0 [] (by simp) (by simp)
        cases B with
        | none => simp [Builtin.append_, run_underlying (slice_of ht), run_sizeOf hi, Builtin.lenOf, hf]
        | some a => simp [Builtin.append_, run_underlying (slice_of ht), run_sizeOf hi, Builtin.lenOf, hf, storeCells]
      refine ⟨.slice B 0 0, ?_, .emp B hB⟩
      simp only [execOp, ho, resolve, invoke, builtin, Sem.run_bind, Sem.run_pure, Result.andThen_ok, List.map_toArray, List.map_cons, List.map_nil, hv1, g2, hrun]
theorem does_eqsome {t t' e : TypeId} {x y : Operand} {a : Addr} (ho : o.op = .binOp .eql t x y t') (ht : zbv P t = some e) (hx : F.eval x = .s (.slice (some a) 0 0)) (hy : F.eval y = .s (.slice none 0 0)) : Does P o F σ (.s (.bool false)) σ :=
  zby fun G ρ hr hop => by
    have g1 := hop x (by simp [ho, Op.operands])
    have g2 := hop y (by simp [ho, Op.operands])
    rw [hx] at g1
    rw [hy] at g2
    have g1 := rep_s g1
    have g2 := rep_s g2
    have := run_nil_cmp (P := P) ht x y (some a) 0 0 .eql G.w (r := false) (.inl ⟨rfl, rfl⟩)
    refine ⟨.bool false, ?_, .s _⟩
    rw [Sem.run_bind] at this
    simp only [execOp, ho, Sem.run_bind, g1, g2]
    exact this ▸ rfl
end
theorem rep_semp {G : Cx} {v : Value} (h : Rep G v (.s (.slice none 0 0))) : Rep G v .emp := by cases h; exact .emp none (fun a ha => by cases ha)
theorem wk_semp {N d : Nat} {F : Frm} {σ : List Ob} (hd : F.get d = .s (.slice none 0 0)) : Weak N F σ ((d, .emp) :: F) σ := fun G a h =>
  ⟨G, rfl, .refl G, h.rel, h.fr.more (rep_semp (by rw [← hd]; exact h.fr d)), h.df, h.nt⟩
theorem cloneE0_pf : Pure P 50 [.s (.slice none 0 0)] .emp := by
  refine aw_fn (by rw [IsP.eq (P := P)]; exact Try.func50) rfl rfl rfl rfl rfl (zae (.s _) zah) .emp (by simp only [argF]; rfl) ?_
  repeat (first | refine zag ?_ | refine zap ?_ | refine zad ?_ | refine zaq ?_ | refine zac ?_)
  refine zaf ?_
  first | refine zab rfl rfl (zaa rfl) (za3 (.inr rfl) rfl) ?_ | refine zab rfl rfl (zaa rfl) (zbi (.inr rfl) rfl) ?_ | refine zab rfl rfl (zaa rfl) (mv_s (.inr rfl) rfl) ?_ | refine zab rfl rfl (zaa rfl) (za4 (.inr rfl) rfl) ?_
  refine zan ?_
  repeat (first | refine zag ?_ | refine zap ?_ | refine zad ?_ | refine zaq ?_ | refine zac ?_)
  refine zaf ?_
  refine zab rfl rfl (zaa rfl) (mv_s (.inl rfl) rfl) ?_
  refine zab rfl rfl (zaa rfl) (does_eqnil0 rfl ts22 rfl rfl (.inl ⟨rfl, rfl⟩)) ?_
  refine zan ?_
  repeat (first | refine zag ?_ | refine zap ?_ | refine zad ?_ | refine zaq ?_ | refine zac ?_)
  refine zbq rfl ?_
  repeat (first | refine zag ?_ | refine zap ?_ | refine zad ?_ | refine zaq ?_ | refine zac ?_)
  refine zaf ?_
  first | refine zab rfl rfl (zaa rfl) (za3 (.inr rfl) rfl) ?_ | refine zab rfl rfl (zaa rfl) (zbi (.inr rfl) rfl) ?_ | refine zab rfl rfl (zaa rfl) (mv_s (.inr rfl) rfl) ?_ | refine zab rfl rfl (zaa rfl) (za4 (.inr rfl) rfl) ?_
  refine zan ?_
  repeat (first | refine zag ?_ | refine zap ?_ | refine zad ?_ | refine zaq ?_ | refine zac ?_)
  refine zb3 (wk_semp (d := 2) rfl) ?_
  (refine zbt ?_; repeat (first | refine ath_r ?_ | refine abl_r ?_))
  exact post1 (.inr rfl) rfl rfl
theorem cloneE1_pf (a : Addr) : Pure P 50 [.s (.slice (some a) 0 0)] .emp := by
  refine aw_fn (by rw [IsP.eq (P := P)]; exact Try.func50) rfl rfl rfl rfl rfl (zae (.s _) zah) .emp (by simp only [argF]; rfl) ?_
  repeat (first | refine zag ?_ | refine zap ?_ | refine zad ?_ | refine zaq ?_ | refine zac ?_)
  refine zaf ?_
  first | refine zab rfl rfl (zaa rfl) (za3 (.inr rfl) rfl) ?_ | refine zab rfl rfl (zaa rfl) (zbi (.inr rfl) rfl) ?_ | refine zab rfl rfl (zaa rfl) (mv_s (.inr rfl) rfl) ?_ | refine zab rfl rfl (zaa rfl) (za4 (.inr rfl) rfl) ?_
  refine zan ?_
  repeat (first | refine zag ?_ | refine zap ?_ | refine zad ?_ | refine zaq ?_ | refine zac ?_)
  refine zaf ?_
  refine zab rfl rfl (zaa rfl) (mv_s (.inl rfl) rfl) ?_
  refine zab rfl rfl (zaa rfl) (does_eqsome (a := a) rfl ts22 rfl rfl) ?_
  refine zan ?_
  repeat (first | refine zag ?_ | refine zap ?_ | refine zad ?_ | refine zaq ?_ | refine zac ?_)
  refine zbm rfl ?_
  repeat (first | refine zag ?_ | refine zap ?_ | refine zad ?_ | refine zaq ?_ | refine zac ?_)
  refine zaf ?_
  refine zab rfl rfl (zaa rfl) (does_lit0 rfl rfl ts22 ti3) ?_
  refine zab rfl rfl (zaa rfl) (mv_s (.inl rfl) rfl) ?_
  refine zab rfl rfl (zaa rfl) (does_append_e (a := a) rfl ts22 ti3 rfl rfl) ?_
  refine zab rfl rfl (zaa rfl) (za4 (.inr rfl) rfl) ?_
  refine zan ?_
  repeat (first | refine zag ?_ | refine zap ?_ | refine zad ?_ | refine zaq ?_ | refine zac ?_)
  (refine zbt ?_; repeat (first | refine ath_r ?_ | refine abl_r ?_))
  exact post1 (.inr rfl) rfl rfl
theorem cloneE_pf : Pure P 50 [.emp] .emp := pure_emp cloneE0_pf (fun a ha => cloneE1_pf a)
end Go.Proofs.Ytmoipmnhgdmkpaa.Aw
end
section
namespace Go.Proofs.Ytmoipmnhgdmkpaa.Aw
set_option linter.unusedSimpArgs false
set_option linter.unusedVariables false
open Go Go.RowKit

/-- a row of the call's own as a finished slice -/
def fin1 (s : Sto) : AV → AV
  | .own id sz n => match s.get id with
    | none => .own id sz n
    | some ob => match rowOf ob with
      | some (sz', cs) => bif Nat.beq sz' sz && Nat.beq n cs.length then .sl cs else .own id sz n
      | none => .own id sz n
  | .emp => .sl []
  | .s (.slice none 0 0) => .sl []
  | x => x
def fin2 (s : Sto) : AV → AV
  | .tup l => .tup (l.map (fin1 s))
  | .agg l => .agg (l.map (fin1 s))
  | x => fin1 s x
theorem fin1_ok (s : Sto) (x : AV) : Fini s.abs x (fin1 s x) := by
  unfold fin1
  split
  · rename_i id sz n
    split
    · exact .refl _
    · rename_i ob hob
      split
      · rename_i sz' cs hr
        generalize hb : (Nat.beq sz' sz && Nat.beq n cs.length) = b
        cases b with
        | false => exact .refl _
        | true =>
          simp only [Bool.and_eq_true] at hb
          obtain rfl := Nat.eq_of_beq_eq_true hb.1
          exact .own id sz' n ob cs (sto_at hob) hr (Nat.eq_of_beq_eq_true hb.2)
      · exact .refl _
  · exact .emp
  · exact .nil
  · exact .refl _
theorem fin2_ok (s : Sto) (x : AV) : Fini s.abs x (fin2 s x) := by
  unfold fin2
  split
  · rename_i l
    exact .tup _ _ (by simp) (fun j x y hx hy => by
      rw [List.getElem?_map, hx] at hy
      cases hy
      exact fin1_ok s x)
  · rename_i l
    exact .agg _ _ (by simp) (fun j x y hx hy => by
      rw [List.getElem?_map, hx] at hy
      cases hy
      exact fin1_ok s x)
  · exact fin1_ok s x
end Go.Proofs.Ytmoipmnhgdmkpaa.Aw
end
section
namespace Go.Proofs.Ytmoipmnhgdmkpaa.Aw
set_option linter.unusedSimpArgs false
set_option linter.unusedVariables false
set_option linter.unusedSectionVars false
open Go Go.RowKit Go.Proofs
variable {P : Program} [IsP P]

def unIs : List AV → Option (List Int)
  | [] => some []
  | .s (.int .i64 n) :: l => match unIs l with
    | some r => some (n :: r)
    | none => none
  | _ :: _ => none
theorem unIs_of : ∀ {l : List AV} {r : List Int}, unIs l = some r → l = r.map eI
  | [], r, h => by cases h; rfl
  | x :: l, r, h => by
    unfold unIs at h
    split at h
    · rename_i e; cases e
    · rename_i n l' e
      cases e
      split at h
      · rename_i r' hr
        cases h
        rw [unIs_of hr]; rfl
      · cases h
    · cases h
def unSh : AV → Option Sft
  | .agg [.sl p, .s (.int .i64 c), .s (.int .i64 m)] => match unIs p with
    | some p => some ⟨p, c, m⟩
    | none => none
  | _ => none
theorem unSh_of {x : AV} {s : Sft} (h : unSh x = some s) : x = eSh s := by
  unfold unSh at h
  split at h
  · split at h
    · rename_i r hr
      cases h
      rw [unIs_of hr]; rfl
    · cases h
  · cases h
def unShs : List AV → Option (List Sft)
  | [] => some []
  | x :: l => match unSh x, unShs l with
    | some s, some r => some (s :: r)
    | _, _ => none
theorem unShs_of : ∀ {l : List AV} {r : List Sft}, unShs l = some r → l = r.map eSh
  | [], r, h => by cases h; rfl
  | x :: l, r, h => by
    unfold unShs at h
    split at h
    · rename_i s r' h1 h2
      cases h
      rw [unSh_of h1, unShs_of h2]; rfl
    · cases h
def orcFirst (l : List AV) : Option AV := match unShs l with
  | some s => bif Nat.ble s.length 12 then some (eBx (zeroI s.length) (mostL s)) else none
  | none => none
def orcHalves (lo hi : List AV) (k t : Int) : Option AV := match unIs lo, unIs hi with
  | some lo, some hi => bif decide (0 ≤ k) && Nat.blt k.toNat lo.length && Nat.beq hi.length lo.length && Nat.ble lo.length 12 && decide (-1000 ≤ t) && decide (t ≤ 1000) then some (.tup [eBx lo (setI hi k.toNat t), eBx (setI lo k.toNat (t + 1)) hi]) else none
  | _, _ => none
def orcProgram (d l lo hi : List AV) : Option AV := match unIs d, unShs l, unIs lo, unIs hi with
  | some d, some l, some lo, some hi => bif validS d l && Nat.beq lo.length l.length && Nat.beq hi.length l.length then some (.tup [eP (prgE d l lo hi), eL eI (pe1 d d.length)]) else none
  | _, _, _, _ => none
def orcS : Orc := fun f args => match args with
  | [.emp] => bif Nat.beq f 50 then some .emp else none
  | [.sl l] => bif Nat.beq f 26 then orcFirst l else none
  | [.agg [.sl lo, .sl hi], .s (.int .i64 k), .s (.int .i64 t)] => bif Nat.beq f 41 then orcHalves lo hi k t else none
  | [.sl d, .sl l, .agg [.sl lo, .sl hi]] => bif Nat.beq f 31 then orcProgram d l lo hi else none
  | _ => none
theorem orcS_ok : OrcOk P orcS := by
  intro f args r h
  unfold orcS at h
  split at h
  · cases hb : Nat.beq f 50 with
    | false => rw [hb] at h; cases h
    | true => rw [hb, cond_true] at h; cases h; rw [Nat.eq_of_beq_eq_true hb]; exact cloneE_pf
  · rename_i l
    cases hb : Nat.beq f 26 with
    | false => rw [hb] at h; cases h
    | true =>
      rw [hb, cond_true] at h
      unfold orcFirst at h
      split at h
      · rename_i s hs
        cases hc : Nat.ble s.length 12 with
        | false => rw [hc] at h; cases h
        | true =>
          rw [hc] at h; cases h
          rw [Nat.eq_of_beq_eq_true hb, unShs_of hs]
          exact first_pf s (Nat.le_of_ble_eq_true hc)
      · cases h
  · rename_i lo hi k t
    cases hb : Nat.beq f 41 with
    | false => rw [hb] at h; cases h
    | true =>
      rw [hb, cond_true] at h
      unfold orcHalves at h
      split at h
      · rename_i lo' hi' h1 h2
        cases hc : (decide (0 ≤ k) && Nat.blt k.toNat lo'.length && Nat.beq hi'.length lo'.length && Nat.ble lo'.length 12 && decide (-1000 ≤ t) && decide (t ≤ 1000)) with
        | false => rw [hc] at h; cases h
        | true =>
          rw [hc] at h; cases h
          simp only [Bool.and_eq_true, decide_eq_true_eq] at hc
          obtain ⟨⟨⟨⟨⟨c1, c2⟩, c3⟩, c4⟩, c5⟩, c6⟩ := hc
          rw [Nat.eq_of_beq_eq_true hb, unIs_of h1, unIs_of h2]
          have := halves_pf (P := P) lo' hi' k.toNat t (by simpa [Nat.blt_eq] using c2) (Nat.eq_of_beq_eq_true c3) (Nat.le_of_ble_eq_true c4) c5 c6
          rw [Int.toNat_of_nonneg c1] at this
          exact this
      · cases h
  · rename_i d l lo hi
    cases hb : Nat.beq f 31 with
    | false => rw [hb] at h; cases h
    | true =>
      rw [hb, cond_true] at h
      unfold orcProgram at h
      split at h
      · rename_i d' l' lo' hi' h1 h2 h3 h4
        cases hc : (validS d' l' && Nat.beq lo'.length l'.length && Nat.beq hi'.length l'.length) with
        | false => rw [hc] at h; cases h
        | true =>
          rw [hc] at h; cases h
          simp only [Bool.and_eq_true] at hc
          rw [Nat.eq_of_beq_eq_true hb, unIs_of h1, unShs_of h2, unIs_of h3, unIs_of h4]
          exact program_pf d' l' lo' hi' hc.1.1 (Nat.eq_of_beq_eq_true hc.1.2) (Nat.eq_of_beq_eq_true hc.2)
      · cases h
  · cases h
def orcG : Orc := fun f args => match orcS f args with
  | some r => some r
  | none => orcF f args
theorem orcG_ok : OrcOk P orcG := by
  intro f args r h
  unfold orcG at h
  split at h
  · rename_i r' hr
    cases h
    exact orcS_ok f args _ hr
  · exact orcF_ok f args r h
def fin3 (s : Sto) : AV → AV
  | .tup l => .tup (l.map (fin2 s))
  | x => fin2 s x
theorem fin3_ok (s : Sto) (x : AV) : Fini s.abs x (fin3 s x) := by
  unfold fin3
  split
  · rename_i l
    exact .tup _ _ (by simp) (fun j x y hx hy => by
      rw [List.getElem?_map, hx] at hy
      cases hy
      exact fin2_ok s x)
  · exact fin2_ok s x
def chkPure3 (P : Program) (orc : Orc) (n : Nat) (f : FuncId) (args : List AV) (r : AV) : Bool := match evCall P orc n f args Sto.nil with
  | some (x, s, _) => avEq (fin3 s x) r && loB 0 r && losB 0 args
  | none => false
theorem chkPure3_ok {P : Program} {orc : Orc} (hm : P.follows .mixedOrders = true) (ho : OrcOk P orc) {n : Nat} {f : FuncId} {args : List AV} {r : AV} (h : chkPure3 P orc n f args r = true) : Pure P f args r := by
  unfold chkPure3 at h
  split at h
  · rename_i x s W he
    simp only [Bool.and_eq_true] at h
    obtain ⟨⟨h1, h2⟩, h3⟩ := h
    have hf := fin3_ok s x
    rw [avEq_of _ _ h1] at hf
    have hc := (evCall_ok hm ho n f args _ _ _ _ he).1
    refine ⟨hc.ent, loB_of r h2, fun G vargs hst hsz hrep => ?_⟩
    let G0 : Cx := { base := G.w.heap.size, w0 := G.w, w := G.w, mu := fun _ => none, St := G.St }
    have hrel : Rel G0 Sto.nil.abs := ⟨Below.refl _ _, Nat.le_refl _, hst, by simp [Sto.abs_nil], by rintro i j b ⟨_, _, h⟩; simp [Sto.abs_nil] at h, fun _ _ => rfl⟩
    have hlo := losB_of args h3
    refine (hc.call G0 vargs hrel hsz (fun j v x hv hx => (hrep j v x hv hx).low (hlo x (List.mem_of_getElem? hx)) (fun _ _ h => h) (fun _ _ _ => rfl) (fun id y h => by omega) (fun h => by omega))).mono ?_
    rintro e w' ⟨v, G', rfl, rfl, he', hr', hv⟩
    have hbase : G'.base = G.w.heap.size := he'.base
    have hbel : Below G.w.heap.size G.w G'.w := by have := hr'.below; rw [hbase, he'.w0] at this; exact this
    have hfin := fin_rep (B := G.w.heap.size) hr' (by omega) hf hv
    refine ⟨v, G'.all G.w.heap.size, rfl, rfl, hbel, fun b o h => .inl (he'.st b o h), fun b o h => ?_, fun b o h => ?_, hfin⟩
    · rcases h with h | h
      · exact he'.stN b o h
      · exact .inr h.1
    · rcases h with h | h
      · exact hr'.st b o h
      · exact h.2
  · cases h
end Go.Proofs.Ytmoipmnhgdmkpaa.Aw
end
section
namespace Go.Proofs.Ytmoipmnhgdmkpaa.Aw
set_option linter.unusedSimpArgs false
set_option linter.unusedVariables false
set_option linter.unusedSectionVars false
open Go Go.RowKit

def stoEq (a b : Sto) : Bool := Nat.beq a.len b.len && (List.range a.len).all fun i => oEq (a.get i) (b.get i)
theorem stoEq_of {a b : Sto} (h : stoEq a b = true) : a.abs = b.abs := by
  unfold stoEq at h
  simp only [Bool.and_eq_true] at h
  have hl := Nat.eq_of_beq_eq_true h.1
  refine List.ext_getElem? fun i => ?_
  by_cases hi : i < a.len
  · have := oEq_of (List.all_eq_true.1 h.2 i (by simpa using hi))
    rw [← Sto.get_abs, ← Sto.get_abs]; exact this
  · rw [List.getElem?_eq_none (by rw [Sto.abs_len]; omega), List.getElem?_eq_none (by rw [Sto.abs_len]; omega)]
/-- a call that was evaluated apart -/
structure Ent where
  f : FuncId
  args : List AV
  s : Sto
  r : AV
  s' : Sto
  W : List Nat
def Ent.ok (P : Program) (e : Ent) : Prop := CallE P e.f e.args e.s.abs e.r e.s'.abs ∧ Chg e.s e.s' e.W
def chkEnt (P : Program) (orc : Orc) (n : Nat) (e : Ent) : Bool := match evCall P orc n e.f e.args e.s with
  | some (x, s1, W1) => avEq x e.r && stoEq s1 e.s' && W1.all (fun i => e.W.contains i)
  | none => false
theorem ent_ok {P : Program} {orc : Orc} (hm : P.follows .mixedOrders = true) (ho : OrcOk P orc) {n : Nat} {e : Ent} (h : chkEnt P orc n e = true) : e.ok P := by
  unfold chkEnt at h
  split at h
  · rename_i x s1 W1 he
    simp only [Bool.and_eq_true] at h
    obtain ⟨⟨h1, h2⟩, h3⟩ := h
    obtain ⟨c1, c2⟩ := evCall_ok hm ho n _ _ _ _ _ _ he
    rw [avEq_of _ _ h1, stoEq_of h2] at c1
    refine ⟨c1, fun id hid => ?_⟩
    rw [← stoEq_of h2]
    refine c2 id (fun hm => hid ?_)
    have := List.all_eq_true.1 h3 id hm
    simpa using this
  · cases h
def tabOf : List Ent → CallF
  | [] => fun _ _ _ => none
  | e :: l => fun f args s => bif Nat.beq f e.f && avsEq args e.args && stoEq s e.s then some (e.r, e.s', e.W) else tabOf l f args s
theorem tabOf_ok {P : Program} : ∀ (l : List Ent), (∀ e ∈ l, e.ok P) → CallOk P (tabOf l)
  | [], _ => fun f args s r s' W h => by cases h
  | e :: l, hl => fun f args s r s' W h => by
    unfold tabOf at h
    cases hb : (Nat.beq f e.f && avsEq args e.args && stoEq s e.s) with
    | false => rw [hb] at h; exact tabOf_ok l (fun e he => hl e (List.mem_cons_of_mem _ he)) f args s r s' W h
    | true =>
      rw [hb] at h; cases h
      simp only [Bool.and_eq_true] at hb
      obtain ⟨⟨h1, h2⟩, h3⟩ := hb
      obtain ⟨c1, c2⟩ := hl e List.mem_cons_self
      rw [Nat.eq_of_beq_eq_true h1, avsEq_of _ _ h2, stoEq_of h3]
      refine ⟨c1, fun id hid => ?_⟩
      rw [stoEq_of h3]
      exact c2 id hid
section
variable (P : Program) (orc : Orc) (tab : CallF)
def evCallT : Nat → CallF
  | 0 => fun _ _ _ => none
  | n + 1 => fun f args s => match tab f args s with
    | some x => some x
    | none => match P.funcs[f]? with
    | none => none
    | some fn => match fn.body with
      | none => none
      | some c => bif (fn.name == "runtime.NumGoroutine") || !(Nat.ble args.length fn.ntmps) then none else match (mkCode P orc (evCallT n) fn.ntmps c).run n (argT 0 args) s [] with
        | some (.normal, t, s', W) => retOf P s.len fn.results.toList t s' W
        | some (.ret, t, s', W) => retOf P s.len fn.results.toList t s' W
        | _ => none
end
section
variable {P : Program} {orc : Orc} {tab : CallF}
theorem evCallT_ok (hm : P.follows .mixedOrders = true) (ho : OrcOk P orc) (ht : CallOk P tab) : ∀ n, CallOk P (evCallT P orc tab n)
  | 0 => fun f args s r s' W h => by cases h
  | n + 1 => fun f args s r s' W h => by
    have ih := evCallT_ok hm ho ht n
    unfold evCallT at h
    split at h
    · rename_i x hx
      cases h
      exact ht _ _ _ _ _ _ hx
    split at h
    · cases h
    · rename_i fn hf
      split at h
      · cases h
      · rename_i c hb
        generalize hg : ((fn.name == "runtime.NumGoroutine") || !(Nat.ble args.length fn.ntmps)) = g at h
        cases g with
        | true => cases h
        | false =>
          rw [cond_false] at h
          simp only [Bool.or_eq_false_iff, Bool.not_eq_false'] at hg
          have hcode := mkCode_ok (N := fn.ntmps) hm ho ih c
          have main : ∀ e t s1 W1, (e = .normal ∨ e = .ret) → (mkCode P orc (evCallT P orc tab n) fn.ntmps c).run n (argT 0 args) s [] = some (e, t, s1, W1) → retOf P s.len fn.results.toList t s1 W1 = some (r, s', W) → CallE P f args s.abs r s'.abs ∧ Chg s s' W := by
            intro e t s1 W1 he hrun hret
            obtain ⟨h1, h2, _⟩ := hcode n (argF 0 args) (argT 0 args) s [] _ (argT_ok args 0) hrun
            unfold retOf at hret
            split at hret
            · rename_i xs hx
              have hret := Option.some.inj hret
              refine keepOr_ok (callE_fn hf hg.1 hb (Nat.le_of_ble_eq_true hg.2) (ew_mono h1 ?_)) (h2 s (.refl s)) hret
              rintro e F2 σ2 ⟨rfl, hF2, rfl⟩
              exact ⟨he, rfl, xs, evResL_ok hF2 hx, rfl⟩
            · cases hret
          split at h
          · rename_i t s1 W1 he; exact main _ _ _ _ (.inl rfl) he h
          · rename_i t s1 W1 he; exact main _ _ _ _ (.inr rfl) he h
          · cases h
def fin4 (s : Sto) : AV → AV
  | .tup l => .tup (l.map (fin2 s))
  | x => fin2 s x
theorem fin4_ok (s : Sto) (x : AV) : Fini s.abs x (fin4 s x) := by
  unfold fin4
  split
  · rename_i l
    exact .tup _ _ (by simp) (fun j x y hx hy => by
      rw [List.getElem?_map, hx] at hy
      cases hy
      exact fin2_ok s x)
  · exact fin2_ok s x
def chkPureT (P : Program) (orc : Orc) (tab : CallF) (n : Nat) (f : FuncId) (args : List AV) (r : AV) : Bool := match evCallT P orc tab n f args Sto.nil with
  | some (x, s, _) => avEq (fin4 s x) r && loB 0 r && losB 0 args
  | none => false
theorem chkPureT_ok (hm : P.follows .mixedOrders = true) (ho : OrcOk P orc) (ht : CallOk P tab) {n : Nat} {f : FuncId} {args : List AV} {r : AV} (h : chkPureT P orc tab n f args r = true) : Pure P f args r := by
  unfold chkPureT at h
  split at h
  · rename_i x s W he
    simp only [Bool.and_eq_true] at h
    obtain ⟨⟨h1, h2⟩, h3⟩ := h
    have hf := fin4_ok s x
    rw [avEq_of _ _ h1] at hf
    have hc := (evCallT_ok hm ho ht n f args _ _ _ _ he).1
    refine ⟨hc.ent, loB_of r h2, fun G vargs hst hsz hrep => ?_⟩
    let G0 : Cx := { base := G.w.heap.size, w0 := G.w, w := G.w, mu := fun _ => none, St := G.St }
    have hrel : Rel G0 Sto.nil.abs := ⟨Below.refl _ _, Nat.le_refl _, hst, by simp [Sto.abs_nil], by rintro i j b ⟨_, _, h⟩; simp [Sto.abs_nil] at h, fun _ _ => rfl⟩
    have hlo := losB_of args h3
    refine (hc.call G0 vargs hrel hsz (fun j v x hv hx => (hrep j v x hv hx).low (hlo x (List.mem_of_getElem? hx)) (fun _ _ h => h) (fun _ _ _ => rfl) (fun id y h => by omega) (fun h => by omega))).mono ?_
    rintro e w' ⟨v, G', rfl, rfl, he', hr', hv⟩
    have hbase : G'.base = G.w.heap.size := he'.base
    have hbel : Below G.w.heap.size G.w G'.w := by have := hr'.below; rw [hbase, he'.w0] at this; exact this
    have hfin := fin_rep (B := G.w.heap.size) hr' (by omega) hf hv
    refine ⟨v, G'.all G.w.heap.size, rfl, rfl, hbel, fun b o h => .inl (he'.st b o h), fun b o h => ?_, fun b o h => ?_, hfin⟩
    · rcases h with h | h
      · exact he'.stN b o h
      · exact .inr h.1
    · rcases h with h | h
      · exact hr'.st b o h
      · exact h.2
  · cases h
end
end Go.Proofs.Ytmoipmnhgdmkpaa.Aw
end
