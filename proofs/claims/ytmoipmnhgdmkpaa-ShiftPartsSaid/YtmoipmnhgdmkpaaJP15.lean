/-
  Texts joined: ShH, ShM. Conditions: none.
-/
import Derived.Test.YtmoipmnhgdmkpaaJP10
import Derived.Test.YtmoipmnhgdmkpaaJP9
section
namespace Go.Proofs.Ytmoipmnhgdmkpaa.Aw
set_option linter.unusedSimpArgs false
set_option linter.unusedVariables false
set_option linter.unusedSectionVars false
open Go.RowKit Go.Proofs
variable {P : Program} [IsP P]

def headK (d : List Int) (l : List Sft) (p : Pln) : Prop := validS d l = true ∧ cntB l p.c = true ∧ shE d l p.c < 0 ∧ p.cost = prcP l p.c l.length
instance (d : List Int) (l : List Sft) (p : Pln) : Decidable (headK d l p) := by unfold headK; infer_instance
def chkE (d : List Int) (l : List Sft) (p : Pln) (b : Br) : Bool := if headK d l p then (rgtE d l p.cost b (zeroI l.length) (mostL l) 20000).1 else false
set_option maxHeartbeats 4000000 in
theorem check_pf (d : List Int) (l : List Sft) (p : Pln) (b : Br) : Pure P 8 [eL eI d, eL eSh l, ePl p, eBr b] (eB (chkE d l p b)) := by
  have HI : chkE d l p b = if headK d l p then (rgtE d l p.cost b (zeroI l.length) (mostL l) 20000).1 else false := rfl
  generalize chkE d l p b = R at HI ⊢
  obtain ⟨s, t, L, y⟩ := b
  have hlo : ∀ x ∈ [eL eI d, eL eSh l, ePl p, eBr (.mk s t L y)], Lo 0 x := zae (by repeat' (first | exact Lo.s _ | exact zah | refine zae ?_ ?_ | refine zai ?_ | refine Lo.cells ?_ | refine Lo.agg _ ?_ | refine Lo.ref _ ?_ | refine Lo.tup _ ?_ | refine Lo.fn _ _ ?_ | refine Lo.sl _ ?_ | intro _)) (zae (zai lo_Sh) (zae (by repeat' (first | exact Lo.s _ | exact zah | refine zae ?_ ?_ | refine zai ?_ | refine Lo.cells ?_ | refine Lo.agg _ ?_ | refine Lo.ref _ ?_ | refine Lo.tup _ ?_ | refine Lo.fn _ _ ?_ | refine Lo.sl _ ?_ | intro _)) (zae (lo_Br _) zah)))
  rw [eBr_mk] at hlo ⊢
  refine aw_fn (by rw [IsP.eq (P := P)]; exact Try.func8) rfl rfl rfl rfl rfl hlo (.s _) (by simp only [argF]; rfl) ?_
  repeat (first | refine zag ?_ | refine zap ?_ | refine zad ?_ | refine zaq ?_ | refine zac ?_)
  refine zaf ?_
  refine zab rfl rfl (zaa rfl) (does_box rfl rfl rfl rfl) ?_
  refine zbr (wk_froz (id := 0) rfl) (zbr (wk_ref (d := 6) rfl rfl rfl) ?_)
  refine zab rfl rfl (zaa rfl) (does_box rfl rfl rfl rfl) ?_
  refine zbr (wk_froz (id := 1) rfl) (zbr (wk_ref (d := 7) rfl rfl rfl) ?_)
  refine zab rfl rfl (zaa rfl) (mv_s (.inr rfl) rfl) ?_
  refine zan ?_
  repeat (first | refine zag ?_ | refine zap ?_ | refine zad ?_ | refine zaq ?_ | refine zac ?_)
  all_goals refine aw_draw hmix ?_
  all_goals refine adraw_quiet (by kernel_rfl) ?_
  all_goals (first | refine zay rfl rfl (zaa rfl) (za3 (.inl rfl) rfl) ?_ | refine zay rfl rfl (zaa rfl) (zbi (.inl rfl) rfl) ?_ | refine zay rfl rfl (zaa rfl) (mv_s (.inl rfl) rfl) ?_ | refine zay rfl rfl (zaa rfl) (za4 (.inl rfl) rfl) ?_)
  all_goals (first | refine zay rfl rfl (zaa rfl) (za3 (.inl rfl) rfl) ?_ | refine zay rfl rfl (zaa rfl) (zbi (.inl rfl) rfl) ?_ | refine zay rfl rfl (zaa rfl) (mv_s (.inl rfl) rfl) ?_ | refine zay rfl rfl (zaa rfl) (za4 (.inl rfl) rfl) ?_)
  all_goals (first | refine qx_opP rfl rfl (zaa rfl) (za5 rfl rfl ((sValid_pf54 d l)) (zat rfl (zat rfl zbl))) (fun h13 => ?_) (fun h13 => ?_) | refine qx_opB rfl rfl (zaa rfl) (za5 rfl rfl ((sValid_pf54 d l)) (zat rfl (zat rfl zbl))) (fun h13 => ?_) (fun h13 => ?_))
  all_goals (first | refine zay rfl rfl (zaa rfl) (does_notp rfl rfl) ?_ | refine zay rfl rfl (zaa rfl) (does_not rfl rfl) ?_)
  all_goals refine zay rfl rfl (zaa rfl) (mv_s (.inl rfl) rfl) ?_
  all_goals (first | refine zay rfl rfl (zak rfl rfl rfl) (za3 (.inl rfl) rfl) ?_ | refine zay rfl rfl (zak rfl rfl rfl) (zbi (.inl rfl) rfl) ?_ | refine zay rfl rfl (zak rfl rfl rfl) (mv_s (.inl rfl) rfl) ?_ | refine zay rfl rfl (zak rfl rfl rfl) (za4 (.inl rfl) rfl) ?_ | refine za6 rfl rfl (za2 rfl rfl rfl) ?_ | refine za6 rfl rfl (zau rfl rfl rfl) ?_)
  all_goals (first | refine zay rfl rfl (zak rfl rfl rfl) (zal rfl tf25_0 (by decide) rfl) ?_ | refine zay rfl rfl (zak rfl rfl rfl) (zaj rfl tf25_0 (by decide) rfl) ?_ | refine za6 rfl rfl (za2 rfl rfl rfl) ?_ | refine za6 rfl rfl (zau rfl rfl rfl) ?_)
  all_goals (first | refine zay rfl rfl (zak rfl rfl rfl) (zao rfl ta22 rfl) ?_ | refine zay rfl rfl (zak rfl rfl rfl) (zar rfl ta22 rfl rfl rfl rfl rfl) ?_ | refine za6 rfl rfl (za2 rfl rfl rfl) ?_ | refine za6 rfl rfl (zau rfl rfl rfl) ?_)
  all_goals (first | refine qx_opP rfl rfl (zak rfl rfl rfl) (za5 rfl rfl ((counts_pf l p.c)) (zat rfl (zat rfl zbl))) (fun h19 => ?_) (fun h19 => ?_) | refine qx_opB rfl rfl (zak rfl rfl rfl) (za5 rfl rfl ((counts_pf l p.c)) (zat rfl (zat rfl zbl))) (fun h19 => ?_) (fun h19 => ?_) | refine za6 rfl rfl (za2 rfl rfl rfl) ?_ | refine za6 rfl rfl (zau rfl rfl rfl) ?_)
  all_goals (first | refine zay rfl rfl (zak rfl rfl rfl) (does_notp rfl rfl) ?_ | refine zay rfl rfl (zak rfl rfl rfl) (does_not rfl rfl) ?_ | refine za6 rfl rfl (za2 rfl rfl rfl) ?_ | refine za6 rfl rfl (zau rfl rfl rfl) ?_)
  all_goals (first | refine zay rfl rfl (zaa rfl) (zb0 rfl rfl rfl) ?_ | refine zay rfl rfl (zaa rfl) (zb1 rfl rfl rfl) ?_ | refine zay rfl rfl (zaa rfl) (zbo rfl rfl rfl) ?_ | refine zay rfl rfl (zaa rfl) (zbp rfl rfl rfl) ?_)
  all_goals refine zay rfl rfl (zaa rfl) (mv_s (.inl rfl) rfl) ?_
  all_goals (first | refine zay rfl rfl (zak rfl rfl rfl) (za3 (.inl rfl) rfl) ?_ | refine zay rfl rfl (zak rfl rfl rfl) (zbi (.inl rfl) rfl) ?_ | refine zay rfl rfl (zak rfl rfl rfl) (mv_s (.inl rfl) rfl) ?_ | refine zay rfl rfl (zak rfl rfl rfl) (za4 (.inl rfl) rfl) ?_ | refine za6 rfl rfl (za2 rfl rfl rfl) ?_ | refine za6 rfl rfl (zau rfl rfl rfl) ?_)
  all_goals (first | refine zay rfl rfl (zak rfl rfl rfl) (za3 (.inl rfl) rfl) ?_ | refine zay rfl rfl (zak rfl rfl rfl) (zbi (.inl rfl) rfl) ?_ | refine zay rfl rfl (zak rfl rfl rfl) (mv_s (.inl rfl) rfl) ?_ | refine zay rfl rfl (zak rfl rfl rfl) (za4 (.inl rfl) rfl) ?_ | refine za6 rfl rfl (za2 rfl rfl rfl) ?_ | refine za6 rfl rfl (zau rfl rfl rfl) ?_)
  all_goals (first | refine zay rfl rfl (zak rfl rfl rfl) (zal rfl tf25_0 (by decide) rfl) ?_ | refine zay rfl rfl (zak rfl rfl rfl) (zaj rfl tf25_0 (by decide) rfl) ?_ | refine za6 rfl rfl (za2 rfl rfl rfl) ?_ | refine za6 rfl rfl (zau rfl rfl rfl) ?_)
  all_goals (first | refine zay rfl rfl (zak rfl rfl rfl) (zao rfl ta22 rfl) ?_ | refine zay rfl rfl (zak rfl rfl rfl) (zar rfl ta22 rfl rfl rfl rfl rfl) ?_ | refine za6 rfl rfl (za2 rfl rfl rfl) ?_ | refine za6 rfl rfl (zau rfl rfl rfl) ?_)
  all_goals (first | refine zay rfl rfl (zak rfl rfl rfl) (za5 rfl rfl ((short_pf d l p.c h13 (okC_of h13 h19))) (zat rfl (zat rfl (zat rfl zbl)))) ?_ | refine za6 rfl rfl (za2 rfl rfl rfl) ?_ | refine za6 rfl rfl (zau rfl rfl rfl) ?_)
  all_goals (first | refine qx_opP rfl rfl (zak rfl rfl rfl) (does_geq rfl rfl rfl) (fun h28 => ?_) (fun h28 => ?_) | refine qx_opB rfl rfl (zak rfl rfl rfl) (does_geq rfl rfl rfl) (fun h28 => ?_) (fun h28 => ?_) | refine za6 rfl rfl (za2 rfl rfl rfl) ?_ | refine za6 rfl rfl (zau rfl rfl rfl) ?_)
  all_goals (first | refine zay rfl rfl (zaa rfl) (zb0 rfl rfl rfl) ?_ | refine zay rfl rfl (zaa rfl) (zb1 rfl rfl rfl) ?_ | refine zay rfl rfl (zaa rfl) (zbo rfl rfl rfl) ?_ | refine zay rfl rfl (zaa rfl) (zbp rfl rfl rfl) ?_)
  all_goals refine zay rfl rfl (zaa rfl) (mv_s (.inl rfl) rfl) ?_
  all_goals (first | refine zay rfl rfl (zak rfl rfl rfl) (zal rfl tf25_1 (by decide) rfl) ?_ | refine zay rfl rfl (zak rfl rfl rfl) (zaj rfl tf25_1 (by decide) rfl) ?_ | refine za6 rfl rfl (za2 rfl rfl rfl) ?_ | refine za6 rfl rfl (zau rfl rfl rfl) ?_)
  all_goals (first | refine zay rfl rfl (zak rfl rfl rfl) (zao rfl ta3 rfl) ?_ | refine zay rfl rfl (zak rfl rfl rfl) (zar rfl ta3 rfl rfl rfl rfl rfl) ?_ | refine za6 rfl rfl (za2 rfl rfl rfl) ?_ | refine za6 rfl rfl (zau rfl rfl rfl) ?_)
  all_goals (first | refine zay rfl rfl (zak rfl rfl rfl) (za3 (.inl rfl) rfl) ?_ | refine zay rfl rfl (zak rfl rfl rfl) (zbi (.inl rfl) rfl) ?_ | refine zay rfl rfl (zak rfl rfl rfl) (mv_s (.inl rfl) rfl) ?_ | refine zay rfl rfl (zak rfl rfl rfl) (za4 (.inl rfl) rfl) ?_ | refine za6 rfl rfl (za2 rfl rfl rfl) ?_ | refine za6 rfl rfl (zau rfl rfl rfl) ?_)
  all_goals (first | refine zay rfl rfl (zak rfl rfl rfl) (zal rfl tf25_0 (by decide) rfl) ?_ | refine zay rfl rfl (zak rfl rfl rfl) (zaj rfl tf25_0 (by decide) rfl) ?_ | refine za6 rfl rfl (za2 rfl rfl rfl) ?_ | refine za6 rfl rfl (zau rfl rfl rfl) ?_)
  all_goals (first | refine zay rfl rfl (zak rfl rfl rfl) (zao rfl ta22 rfl) ?_ | refine zay rfl rfl (zak rfl rfl rfl) (zar rfl ta22 rfl rfl rfl rfl rfl) ?_ | refine za6 rfl rfl (za2 rfl rfl rfl) ?_ | refine za6 rfl rfl (zau rfl rfl rfl) ?_)
  all_goals (first | refine zay rfl rfl (zak rfl rfl rfl) (za5 rfl rfl ((price_pf d l p.c h13 (okC_of h13 h19))) (zat rfl (zat rfl zbl))) ?_ | refine za6 rfl rfl (za2 rfl rfl rfl) ?_ | refine za6 rfl rfl (zau rfl rfl rfl) ?_)
  all_goals (first | refine qx_opP rfl rfl (zak rfl rfl rfl) (does_neq rfl rfl rfl) (fun h37 => ?_) (fun h37 => ?_) | refine qx_opB rfl rfl (zak rfl rfl rfl) (does_neq rfl rfl rfl) (fun h37 => ?_) (fun h37 => ?_) | refine za6 rfl rfl (za2 rfl rfl rfl) ?_ | refine za6 rfl rfl (zau rfl rfl rfl) ?_)
  all_goals (first | refine zay rfl rfl (zaa rfl) (zb0 rfl rfl rfl) ?_ | refine zay rfl rfl (zaa rfl) (zb1 rfl rfl rfl) ?_ | refine zay rfl rfl (zaa rfl) (zbo rfl rfl rfl) ?_ | refine zay rfl rfl (zaa rfl) (zbp rfl rfl rfl) ?_)
  all_goals refine qx_nil ?_
  all_goals (repeat (first | refine zag ?_ | refine zap ?_ | refine zad ?_ | refine zaq ?_ | refine zac ?_))
  all_goals (first | refine zbq rfl ?_ | refine zbm rfl ?_)
  all_goals (repeat (first | refine zag ?_ | refine zap ?_ | refine zad ?_ | refine zaq ?_ | refine zac ?_))
  all_goals first
    | skip
      rw [if_neg (by
        unfold headK
        rintro ⟨g1, g2, g3, g4⟩
        first
        | exact Bool.noConfusion (g1.symm.trans h13)
        | exact Bool.noConfusion (g2.symm.trans h19)
        | omega)] at HI
      refine zaf ?_
      refine zab rfl rfl (zaa rfl) (mv_s (.inr rfl) rfl) ?_
      refine zan ?_
      repeat (first | refine zag ?_ | refine zap ?_ | refine zad ?_ | refine zaq ?_ | refine zac ?_)
      (refine zbt ?_; repeat (first | refine ath_r ?_ | refine abl_r ?_))
      exact post1 (.inr rfl) rfl (congrArg eB HI.symm)
    | skip
  have hk : headK d l p := ⟨h13, h19, by omega, by omega⟩
  rw [if_pos hk] at HI
  have hbd := prcP_bd h13 (okC_of h13 h19) l.length (Nat.le_refl _)
  have hpc := hk.2.2.2
  have hl12 := (validS_iff h13).1.2.2
  have hr := right_pf (P := P) d l p.cost h13 (by omega) (by omega) (.mk s t L y) (zeroI l.length) (mostL l) 20000 (first_box h13) (by omega) (by omega)
  generalize rgtE d l p.cost (.mk s t L y) (zeroI l.length) (mostL l) 20000 = x at HI hr
  obtain ⟨xz, xn⟩ := x
  rw [eBr_mk] at hr
  replace hr : Pure P 25 [eL eI d, eL eSh l, eBx (zeroI l.length) (mostL l), .agg [eI s, eI t, eL eBr L, eL eF y], eI p.cost, eI 20000] (.tup [eB xz, eI xn]) := hr
  all_goals refine aw_draw hmix ?_
  all_goals refine adraw_ex ?_
  all_goals (first | refine zas rfl rfl (zaa rfl) (fun _ => (za3 (.inl rfl) rfl)) ?_ | refine zas rfl rfl (zaa rfl) (fun _ => (zbi (.inl rfl) rfl)) ?_ | refine zas rfl rfl (zaa rfl) (fun _ => (mv_s (.inl rfl) rfl)) ?_ | refine zas rfl rfl (zaa rfl) (fun _ => (za4 (.inl rfl) rfl)) ?_)
  all_goals (first | refine zas rfl rfl (zaa rfl) (fun _ => (za3 (.inl rfl) rfl)) ?_ | refine zas rfl rfl (zaa rfl) (fun _ => (zbi (.inl rfl) rfl)) ?_ | refine zas rfl rfl (zaa rfl) (fun _ => (mv_s (.inl rfl) rfl)) ?_ | refine zas rfl rfl (zaa rfl) (fun _ => (za4 (.inl rfl) rfl)) ?_)
  all_goals (first | refine zas rfl rfl (zaa rfl) (fun _ => (za3 (.inl rfl) rfl)) ?_ | refine zas rfl rfl (zaa rfl) (fun _ => (zbi (.inl rfl) rfl)) ?_ | refine zas rfl rfl (zaa rfl) (fun _ => (mv_s (.inl rfl) rfl)) ?_ | refine zas rfl rfl (zaa rfl) (fun _ => (za4 (.inl rfl) rfl)) ?_)
  all_goals refine zas rfl rfl (zaa rfl) (fun _ => (za5 rfl rfl ((first_pf l hl12)) (zat rfl zbl))) ?_
  all_goals (first | refine zas rfl rfl (zaa rfl) (fun _ => (za9 rfl ta29 ti29 rfl rfl)) ?_ | refine zb4 rfl rfl (zaa rfl) (look_whole rfl ta29 ti29 rfl rfl rfl rfl rfl) ?_ | refine zas rfl rfl (zaa rfl) (fun _ => (za8 rfl ta29 ti29 rfl (Nat.le_of_ble_eq_true rfl))) ?_ | refine zb4 rfl rfl (zaa rfl) (look_ptrs rfl ta29 ti29 rfl rfl rfl rfl (Nat.le_of_ble_eq_true rfl)) ?_)
  all_goals (first | refine zas rfl rfl (zaa rfl) (fun _ => (zal rfl tf25_1 (by decide) rfl)) ?_ | refine zas rfl rfl (zaa rfl) (fun _ => (zaj rfl tf25_1 (by decide) rfl)) ?_)
  all_goals (first | refine zas rfl rfl (zaa rfl) (fun _ => (zao rfl ta3 rfl)) ?_ | refine zb4 rfl rfl (zaa rfl) (look_ptr rfl ta3 rfl rfl rfl rfl rfl) ?_)
  all_goals refine zas rfl rfl (zaa rfl) (fun _ => (za5 rfl rfl (hr) (zat rfl (zat rfl (zat rfl (zat rfl (zat rfl (zat rfl zbl)))))))) ?_
  all_goals (first | refine zas rfl rfl (zaa rfl) (fun _ => (mv_tup (.inl rfl) rfl)) ?_ | refine zas rfl rfl (zaa rfl) (fun _ => (mv_s (.inl rfl) rfl)) ?_)
  all_goals refine zas rfl rfl (zaa rfl) (fun _ => (zbh rfl rfl rfl)) ?_
  all_goals refine zas rfl rfl (zaa rfl) (fun _ => (zbh rfl rfl rfl)) ?_
  all_goals refine zas rfl rfl (zaa rfl) (fun _ => (mv_s (.inr rfl) rfl)) ?_
  all_goals refine zas rfl rfl (zaa rfl) (fun _ => (mv_s (.inr rfl) rfl)) ?_
  all_goals refine ex_nil (by kernel_rfl) ?_
  all_goals (repeat (first | refine zag ?_ | refine zap ?_ | refine zad ?_ | refine zaq ?_ | refine zac ?_))
  refine zaf ?_
  refine zab rfl rfl (zaa rfl) (mv_s (.inl rfl) rfl) ?_
  refine zab rfl rfl (zaa rfl) (mv_s (.inr rfl) rfl) ?_
  refine zan ?_
  repeat (first | refine zag ?_ | refine zap ?_ | refine zad ?_ | refine zaq ?_ | refine zac ?_)
  (refine zbt ?_; repeat (first | refine ath_r ?_ | refine abl_r ?_))
  exact post1 (.inr rfl) rfl (congrArg eB HI.symm)
end Go.Proofs.Ytmoipmnhgdmkpaa.Aw
end
section
namespace Go.Proofs.Ytmoipmnhgdmkpaa.Aw
set_option linter.unusedSimpArgs false
set_option linter.unusedVariables false
set_option linter.unusedSectionVars false
open Go.RowKit Go.Proofs
variable {P : Program} [IsP P]

theorem equalSelf_pf (a : List Int) : Pure P 19 [eL eI a, eL eI a] (eB true) := by
  refine aw_fn (by rw [IsP.eq (P := P)]; exact Try.func19) rfl rfl rfl rfl rfl (by repeat' (first | exact Lo.s _ | exact zah | refine zae ?_ ?_ | refine zai ?_ | refine Lo.cells ?_ | refine Lo.agg _ ?_ | refine Lo.ref _ ?_ | refine Lo.tup _ ?_ | refine Lo.fn _ _ ?_ | refine Lo.sl _ ?_ | intro _)) (by repeat' (first | exact Lo.s _ | exact zah | refine zae ?_ ?_ | refine zai ?_ | refine Lo.cells ?_ | refine Lo.agg _ ?_ | refine Lo.ref _ ?_ | refine Lo.tup _ ?_ | refine Lo.fn _ _ ?_ | refine Lo.sl _ ?_ | intro _)) (by simp only [argF]; rfl) ?_
  repeat (first | refine zag ?_ | refine zap ?_ | refine zad ?_ | refine zaq ?_ | refine zac ?_)
  refine aw_bdm (d := 0) rfl (fun hm1 => ?_)
  unfold maxLen at hm1
  refine zaf ?_
  refine zab rfl rfl (zaa rfl) (mv_s (.inr rfl) rfl) ?_
  refine zan ?_
  repeat (first | refine zag ?_ | refine zap ?_ | refine zad ?_ | refine zaq ?_ | refine zac ?_)
  all_goals refine zaf ?_
  all_goals (first | refine zab rfl rfl (zaa rfl) (za3 (.inl rfl) rfl) ?_ | refine zab rfl rfl (zaa rfl) (zbi (.inl rfl) rfl) ?_ | refine zab rfl rfl (zaa rfl) (mv_s (.inl rfl) rfl) ?_ | refine zab rfl rfl (zaa rfl) (za4 (.inl rfl) rfl) ?_)
  all_goals (first | refine zab rfl rfl (zaa rfl) (za0 rfl ts22 rfl) ?_ | refine zab rfl rfl (zaa rfl) (za7 rfl ts22 rfl) ?_ | refine zab rfl rfl (zaa rfl) (zaw rfl ts22 rfl) ?_ | refine zab rfl rfl (zaa rfl) (zbc rfl ts22 rfl) ?_ | refine zab rfl rfl (zaa rfl) (zax rfl ts22 rfl) ?_)
  all_goals (first | refine zab rfl rfl (zaa rfl) (za3 (.inl rfl) rfl) ?_ | refine zab rfl rfl (zaa rfl) (zbi (.inl rfl) rfl) ?_ | refine zab rfl rfl (zaa rfl) (mv_s (.inl rfl) rfl) ?_ | refine zab rfl rfl (zaa rfl) (za4 (.inl rfl) rfl) ?_)
  all_goals (first | refine zab rfl rfl (zaa rfl) (za0 rfl ts22 rfl) ?_ | refine zab rfl rfl (zaa rfl) (za7 rfl ts22 rfl) ?_ | refine zab rfl rfl (zaa rfl) (zaw rfl ts22 rfl) ?_ | refine zab rfl rfl (zaa rfl) (zbc rfl ts22 rfl) ?_ | refine zab rfl rfl (zaa rfl) (zax rfl ts22 rfl) ?_)
  all_goals (first | refine zbj rfl rfl (zaa rfl) (does_neq rfl rfl rfl) (fun h10 => ?_) (fun h10 => ?_) | refine zbk rfl rfl (zaa rfl) (does_neq rfl rfl rfl) (fun h10 => ?_) (fun h10 => ?_))
  all_goals refine zan ?_
  all_goals (repeat (first | refine zag ?_ | refine zap ?_ | refine zad ?_ | refine zaq ?_ | refine zac ?_))
  all_goals (first | refine zbq rfl ?_ | refine zbm rfl ?_)
  all_goals (repeat (first | refine zag ?_ | refine zap ?_ | refine zad ?_ | refine zaq ?_ | refine zac ?_))
  · exact absurd rfl h10
  refine zaf ?_
  first | refine zab rfl rfl (zaa rfl) (za3 (.inl rfl) rfl) ?_ | refine zab rfl rfl (zaa rfl) (zbi (.inl rfl) rfl) ?_ | refine zab rfl rfl (zaa rfl) (mv_s (.inl rfl) rfl) ?_ | refine zab rfl rfl (zaa rfl) (za4 (.inl rfl) rfl) ?_
  first | refine zab rfl rfl (zaa rfl) (za0 rfl ts22 rfl) ?_ | refine zab rfl rfl (zaa rfl) (za7 rfl ts22 rfl) ?_ | refine zab rfl rfl (zaa rfl) (zaw rfl ts22 rfl) ?_ | refine zab rfl rfl (zaa rfl) (zbc rfl ts22 rfl) ?_ | refine zab rfl rfl (zaa rfl) (zax rfl ts22 rfl) ?_
  refine zab rfl rfl (zaa rfl) (mv_s (.inl rfl) rfl) ?_
  refine zan ?_
  repeat (first | refine zag ?_ | refine zap ?_ | refine zad ?_ | refine zaq ?_ | refine zac ?_)
  refine aw_loops (S := Nat) (fun k => [(0, eL eI a), (1, eL eI a), (12, eI a.length), (13, eI k)]) (fun _ => []) (fun k => k ≤ a.length) (fun k => a.length - k) 0 (wk_st [] (by decide) trivial ⟨.lo _ (by repeat' (first | exact Lo.s _ | exact zah | refine zae ?_ ?_ | refine zai ?_ | refine Lo.cells ?_ | refine Lo.agg _ ?_ | refine Lo.ref _ ?_ | refine Lo.tup _ ?_ | refine Lo.fn _ _ ?_ | refine Lo.sl _ ?_ | intro _)), .lo _ (by repeat' (first | exact Lo.s _ | exact zah | refine zae ?_ ?_ | refine zai ?_ | refine Lo.cells ?_ | refine Lo.agg _ ?_ | refine Lo.ref _ ?_ | refine Lo.tup _ ?_ | refine Lo.fn _ _ ?_ | refine Lo.sl _ ?_ | intro _)), .lo _ (by repeat' (first | exact Lo.s _ | exact zah | refine zae ?_ ?_ | refine zai ?_ | refine Lo.cells ?_ | refine Lo.agg _ ?_ | refine Lo.ref _ ?_ | refine Lo.tup _ ?_ | refine Lo.fn _ _ ?_ | refine Lo.sl _ ?_ | intro _)), .lo _ (by repeat' (first | exact Lo.s _ | exact zah | refine zae ?_ ?_ | refine zai ?_ | refine Lo.cells ?_ | refine Lo.agg _ ?_ | refine Lo.ref _ ?_ | refine Lo.tup _ ?_ | refine Lo.fn _ _ ?_ | refine Lo.sl _ ?_ | intro _)), trivial⟩) (Nat.zero_le _) (fun k hk => ?_)
  repeat (first | refine zag ?_ | refine zap ?_ | refine zad ?_ | refine zaq ?_ | refine zac ?_)
  all_goals refine zaf ?_
  all_goals (first | refine zbj rfl rfl (zaa rfl) (zbd rfl rfl rfl) (fun h14 => ?_) (fun h14 => ?_) | refine zbk rfl rfl (zaa rfl) (zbd rfl rfl rfl) (fun h14 => ?_) (fun h14 => ?_))
  all_goals refine zan ?_
  all_goals (repeat (first | refine zag ?_ | refine zap ?_ | refine zad ?_ | refine zaq ?_ | refine zac ?_))
  all_goals (first | refine zbq rfl ?_ | refine zbm rfl ?_)
  all_goals (repeat (first | refine zag ?_ | refine zap ?_ | refine zad ?_ | refine zaq ?_ | refine zac ?_))
  · have hlt : k < a.length := by omega
    refine zaf ?_
    refine zab rfl rfl (zaa rfl) (mv_s (.inl rfl) rfl) ?_
    refine zab rfl rfl (zaa rfl) (mv_s (.inr rfl) rfl) ?_
    refine zan ?_
    repeat (first | refine zag ?_ | refine zap ?_ | refine zad ?_ | refine zaq ?_ | refine zac ?_)
    all_goals refine aw_draw hmix ?_
    all_goals refine adraw_quiet (by kernel_rfl) ?_
    all_goals (first | refine zay rfl rfl (zaa rfl) (za3 (.inl rfl) rfl) ?_ | refine zay rfl rfl (zaa rfl) (zbi (.inl rfl) rfl) ?_ | refine zay rfl rfl (zaa rfl) (mv_s (.inl rfl) rfl) ?_ | refine zay rfl rfl (zaa rfl) (za4 (.inl rfl) rfl) ?_)
    all_goals refine zay rfl rfl (zaa rfl) (mv_s (.inl rfl) rfl) ?_
    all_goals (first | refine zay rfl rfl (zaa rfl) (za1 rfl ts22 ti3 rfl rfl rfl (zb5 (by omega)) rfl) ?_ | refine zay rfl rfl (zaa rfl) (zav rfl ts22 ti3 rfl rfl rfl (by omega)) ?_)
    all_goals (first | refine zay rfl rfl (zaa rfl) (zao rfl ta3 rfl) ?_ | refine zay rfl rfl (zaa rfl) (zar rfl ta3 rfl rfl rfl rfl rfl) ?_)
    all_goals (first | refine zay rfl rfl (zaa rfl) (za3 (.inl rfl) rfl) ?_ | refine zay rfl rfl (zaa rfl) (zbi (.inl rfl) rfl) ?_ | refine zay rfl rfl (zaa rfl) (mv_s (.inl rfl) rfl) ?_ | refine zay rfl rfl (zaa rfl) (za4 (.inl rfl) rfl) ?_)
    all_goals refine zay rfl rfl (zaa rfl) (mv_s (.inl rfl) rfl) ?_
    all_goals (first | refine zay rfl rfl (zaa rfl) (za1 rfl ts22 ti3 rfl rfl rfl (zb5 (by omega)) rfl) ?_ | refine zay rfl rfl (zaa rfl) (zav rfl ts22 ti3 rfl rfl rfl (by omega)) ?_)
    all_goals (first | refine zay rfl rfl (zaa rfl) (zao rfl ta3 rfl) ?_ | refine zay rfl rfl (zaa rfl) (zar rfl ta3 rfl rfl rfl rfl rfl) ?_)
    all_goals (first | refine qx_opP rfl rfl (zaa rfl) (does_neq rfl rfl rfl) (fun h24 => ?_) (fun h24 => ?_) | refine qx_opB rfl rfl (zaa rfl) (does_neq rfl rfl rfl) (fun h24 => ?_) (fun h24 => ?_))
    all_goals refine qx_nil ?_
    all_goals (repeat (first | refine zag ?_ | refine zap ?_ | refine zad ?_ | refine zaq ?_ | refine zac ?_))
    all_goals (first | refine zbq rfl ?_ | refine zbm rfl ?_)
    all_goals (repeat (first | refine zag ?_ | refine zap ?_ | refine zad ?_ | refine zaq ?_ | refine zac ?_))
    · exact absurd rfl h24
    · skip
      refine zaf ?_
      refine zab rfl rfl (zaa rfl) (zbw rfl rfl rfl (IntWalk.i64_in _ (by omega))) ?_
      refine zab rfl rfl (zaa rfl) (mv_s (.inl rfl) rfl) ?_
      refine zan ?_
      repeat (first | refine zag ?_ | refine zap ?_ | refine zad ?_ | refine zaq ?_ | refine zac ?_)
      exact ⟨k + 1, by omega, by omega, wk_st [] (by decide) trivial ⟨.lo _ (by repeat' (first | exact Lo.s _ | exact zah | refine zae ?_ ?_ | refine zai ?_ | refine Lo.cells ?_ | refine Lo.agg _ ?_ | refine Lo.ref _ ?_ | refine Lo.tup _ ?_ | refine Lo.fn _ _ ?_ | refine Lo.sl _ ?_ | intro _)), .lo _ (by repeat' (first | exact Lo.s _ | exact zah | refine zae ?_ ?_ | refine zai ?_ | refine Lo.cells ?_ | refine Lo.agg _ ?_ | refine Lo.ref _ ?_ | refine Lo.tup _ ?_ | refine Lo.fn _ _ ?_ | refine Lo.sl _ ?_ | intro _)), .lo _ (by repeat' (first | exact Lo.s _ | exact zah | refine zae ?_ ?_ | refine zai ?_ | refine Lo.cells ?_ | refine Lo.agg _ ?_ | refine Lo.ref _ ?_ | refine Lo.tup _ ?_ | refine Lo.fn _ _ ?_ | refine Lo.sl _ ?_ | intro _)), .lo _ (by repeat' (first | exact Lo.s _ | exact zah | refine zae ?_ ?_ | refine zai ?_ | refine Lo.cells ?_ | refine Lo.agg _ ?_ | refine Lo.ref _ ?_ | refine Lo.tup _ ?_ | refine Lo.fn _ _ ?_ | refine Lo.sl _ ?_ | intro _)), trivial⟩⟩
  · (refine aw_exit ?_; repeat (first | refine ath_x ?_ | refine abl_hit ?_ | refine abl_miss rfl ?_ | refine zaq ?_ | refine zap ?_ | refine zag ?_ | refine zad ?_ | refine zac ?_))
    refine zaf ?_
    refine zab rfl rfl (zaa rfl) (mv_s (.inr rfl) rfl) ?_
    refine zan ?_
    repeat (first | refine zag ?_ | refine zap ?_ | refine zad ?_ | refine zaq ?_ | refine zac ?_)
    (refine zbt ?_; repeat (first | refine ath_r ?_ | refine abl_r ?_))
    exact post1 (.inr rfl) rfl rfl
def exD : List Int := [1, 2, 1]
def exL : List Sft := [⟨[0, 1], 3, 2⟩, ⟨[1, 2], 4, 2⟩]
def exY1 : List Fr := [⟨0, 1⟩, ⟨3, 1⟩, ⟨1, 1⟩]
def exY2 : List Fr := [⟨3, 1⟩, ⟨0, 1⟩, ⟨4, 1⟩]
def exR : AV := .tup [ePl ⟨[1, 1], 7⟩, .agg [eI 0, eI 0, .sl [], eL eF exY1], eI 0]
theorem chk1 : chkE exD exL ⟨[1, 1], 7⟩ (.mk 0 0 [] exY1) = true := by kernel_rfl
theorem chk2 : chkE exD exL ⟨[1, 1], 7⟩ (.mk 0 0 [] exY2) = true := by kernel_rfl
theorem chk_ex (y : List Fr) (h : chkE exD exL ⟨[1, 1], 7⟩ (.mk 0 0 [] y) = true) : Pure P 8 [eL eI exD, eL eSh exL, ePl ⟨[1, 1], 7⟩, .agg [eI 0, eI 0, .sl [], eL eF y]] (eB true) := by
  have := check_pf (P := P) exD exL ⟨[1, 1], 7⟩ (.mk 0 0 [] y)
  rw [h, eBr_mk] at this
  exact this
set_option maxHeartbeats 2000000 in
theorem awake_of (hbest : Pure P 18 [eL eI exD, eL eSh exL, eI 100] exR) : Pure P 5 [] (eB true) := by
  have hc1 := chk_ex (P := P) exY1 chk1
  have hc2 := chk_ex (P := P) exY2 chk2
  replace hbest : Pure P 18 [eL eI exD, eL eSh exL, eI 100] (.tup [ePl ⟨[1, 1], 7⟩, .agg [eI 0, eI 0, .sl [], eL eF exY1], eI 0]) := hbest
  refine aw_fn (by rw [IsP.eq (P := P)]; exact Try.func5) rfl rfl rfl rfl rfl (by repeat' (first | exact Lo.s _ | exact zah | refine zae ?_ ?_ | refine zai ?_ | refine Lo.cells ?_ | refine Lo.agg _ ?_ | refine Lo.ref _ ?_ | refine Lo.tup _ ?_ | refine Lo.fn _ _ ?_ | refine Lo.sl _ ?_ | intro _)) (by repeat' (first | exact Lo.s _ | exact zah | refine zae ?_ ?_ | refine zai ?_ | refine Lo.cells ?_ | refine Lo.agg _ ?_ | refine Lo.ref _ ?_ | refine Lo.tup _ ?_ | refine Lo.fn _ _ ?_ | refine Lo.sl _ ?_ | intro _)) (by simp only [argF]; rfl) ?_
  repeat (first | refine zag ?_ | refine zap ?_ | refine zad ?_ | refine zaq ?_ | refine zac ?_)
  refine zaf ?_
  refine zab rfl rfl (zaa rfl) (mv_s (.inr rfl) rfl) ?_
  refine zan ?_
  repeat (first | refine zag ?_ | refine zap ?_ | refine zad ?_ | refine zaq ?_ | refine zac ?_)
  refine zaf ?_
  refine zab rfl rfl (zaa rfl) (does_lit rfl ts22 ti3 rfl rfl (by decide) (by decide) (by decide) rfl rfl) ?_
  refine zbr (wk_froz (id := 0) rfl) (zbr (wk_sl (d := 7) rfl rfl (by first | rfl | (simp; done) | (simp; omega))) ?_)
  first | refine zab rfl rfl (zaa rfl) (za3 (.inr rfl) rfl) ?_ | refine zab rfl rfl (zaa rfl) (zbi (.inr rfl) rfl) ?_ | refine zab rfl rfl (zaa rfl) (mv_s (.inr rfl) rfl) ?_ | refine zab rfl rfl (zaa rfl) (za4 (.inr rfl) rfl) ?_
  refine zan ?_
  repeat (first | refine zag ?_ | refine zap ?_ | refine zad ?_ | refine zaq ?_ | refine zac ?_)
  refine zaf ?_
  refine zab rfl rfl (zaa rfl) (does_lit rfl ts22 ti3 rfl rfl (by decide) (by decide) (by decide) rfl rfl) ?_
  refine zbr (wk_froz (id := 1) rfl) (zbr (wk_sl (d := 8) rfl rfl (by first | rfl | (simp; done) | (simp; omega))) ?_)
  refine zab rfl rfl (zaa rfl) (does_build rfl ti39 tp39 rfl rfl) ?_
  refine zab rfl rfl (zaa rfl) (does_lit rfl ts22 ti3 rfl rfl (by decide) (by decide) (by decide) rfl rfl) ?_
  refine zbr (wk_froz (id := 2) rfl) (zbr (wk_sl (d := 10) rfl rfl (by first | rfl | (simp; done) | (simp; omega))) ?_)
  refine zab rfl rfl (zaa rfl) (does_build rfl ti39 tp39 rfl rfl) ?_
  refine zab rfl rfl (zaa rfl) (does_lit rfl ts23 ti39 rfl rfl (by decide) (by decide) (by decide) rfl rfl) ?_
  refine zbr (wk_froz (id := 3) rfl) (zbr (wk_sl (d := 12) rfl rfl (by first | rfl | (simp; done) | (simp; omega))) ?_)
  first | refine zab rfl rfl (zaa rfl) (za3 (.inr rfl) rfl) ?_ | refine zab rfl rfl (zaa rfl) (zbi (.inr rfl) rfl) ?_ | refine zab rfl rfl (zaa rfl) (mv_s (.inr rfl) rfl) ?_ | refine zab rfl rfl (zaa rfl) (za4 (.inr rfl) rfl) ?_
  refine zan ?_
  repeat (first | refine zag ?_ | refine zap ?_ | refine zad ?_ | refine zaq ?_ | refine zac ?_)
  refine zb3 (F' := [(1, eL eI exD), (2, eL eSh exL)]) (σ' := []) (wk_st [] (by decide) trivial ⟨.lo _ (show Lo 0 (eL eI exD) from zai fun _ => .s _), .lo _ (show Lo 0 (eL eSh exL) from zai lo_Sh), trivial⟩) ?_
  refine zaf ?_
  first | refine zab rfl rfl (zaa rfl) (za3 (.inl rfl) rfl) ?_ | refine zab rfl rfl (zaa rfl) (zbi (.inl rfl) rfl) ?_ | refine zab rfl rfl (zaa rfl) (mv_s (.inl rfl) rfl) ?_ | refine zab rfl rfl (zaa rfl) (za4 (.inl rfl) rfl) ?_
  first | refine zab rfl rfl (zaa rfl) (za3 (.inl rfl) rfl) ?_ | refine zab rfl rfl (zaa rfl) (zbi (.inl rfl) rfl) ?_ | refine zab rfl rfl (zaa rfl) (mv_s (.inl rfl) rfl) ?_ | refine zab rfl rfl (zaa rfl) (za4 (.inl rfl) rfl) ?_
  refine zab rfl rfl (zaa rfl) (za5 rfl rfl (hbest) (zat rfl (zat rfl (zat rfl zbl)))) ?_
  first | refine zab rfl rfl (zaa rfl) (mv_tup (.inl rfl) rfl) ?_ | refine zab rfl rfl (zaa rfl) (mv_s (.inl rfl) rfl) ?_
  refine zab rfl rfl (zaa rfl) (zbh rfl rfl rfl) ?_
  refine zab rfl rfl (zaa rfl) (zbh rfl rfl rfl) ?_
  refine zab rfl rfl (zaa rfl) (zbh rfl rfl rfl) ?_
  refine zab rfl rfl (zaa rfl) (zbu rfl ti25 rfl rfl) ?_
  refine zab rfl rfl (zaa rfl) (zbu rfl ti29 rfl rfl) ?_
  refine zb2 rfl (zaa rfl) (zbe rfl ti25 rfl rfl rfl rfl rfl rfl (by decide) (by decide)) ?_
  refine zb2 rfl (zaa rfl) (zbe rfl ti29 rfl rfl rfl rfl rfl rfl (by decide) (by decide)) ?_
  refine zab rfl rfl (zaa rfl) (mv_s (.inr rfl) rfl) ?_
  refine zan ?_
  repeat (first | refine zag ?_ | refine zap ?_ | refine zad ?_ | refine zaq ?_ | refine zac ?_)
  refine zb3 (wk_froz (id := 0) rfl) ?_
  refine zb3 (wk_ref (d := 3) rfl rfl rfl) ?_
  refine zb3 (wk_froz (id := 1) rfl) ?_
  refine zb3 (wk_ref (d := 4) rfl rfl rfl) ?_
  refine zaf ?_
  refine zab rfl rfl (zaa rfl) (does_build rfl ti59 tp59 rfl rfl) ?_
  refine zab rfl rfl (zaa rfl) (does_build rfl ti59 tp59 rfl rfl) ?_
  refine zab rfl rfl (zaa rfl) (does_build rfl ti59 tp59 rfl rfl) ?_
  refine zab rfl rfl (zaa rfl) (does_lit rfl ts27 ti59 rfl rfl (by decide) (by decide) (by decide) rfl rfl) ?_
  refine zbr (wk_froz (id := 2) rfl) (zbr (wk_sl (d := 23) rfl rfl (by first | rfl | (simp; done) | (simp; omega))) ?_)
  first | refine zab rfl rfl (zaa rfl) (za3 (.inr rfl) rfl) ?_ | refine zab rfl rfl (zaa rfl) (zbi (.inr rfl) rfl) ?_ | refine zab rfl rfl (zaa rfl) (mv_s (.inr rfl) rfl) ?_ | refine zab rfl rfl (zaa rfl) (za4 (.inr rfl) rfl) ?_
  refine zan ?_
  repeat (first | refine zag ?_ | refine zap ?_ | refine zad ?_ | refine zaq ?_ | refine zac ?_)
  refine zb3 (F' := [(1, eL eI exD), (2, eL eSh exL), (3, .ref (ePl ⟨[1, 1], 7⟩).cells), (4, .ref [eI 0, eI 0, .sl [], eL eF exY1]), (5, eI 0), (6, eL eF exY2)]) (σ' := []) (wk_st [] (by decide) trivial ⟨.lo _ (show Lo 0 (eL eI exD) from zai fun _ => .s _), .lo _ (show Lo 0 (eL eSh exL) from zai lo_Sh), .lo _ (by repeat' (first | exact Lo.s _ | exact zah | refine zae ?_ ?_ | refine zai ?_ | refine Lo.cells ?_ | refine Lo.agg _ ?_ | refine Lo.ref _ ?_ | refine Lo.tup _ ?_ | refine Lo.fn _ _ ?_ | refine Lo.sl _ ?_ | intro _)), .lo _ (show Lo 0 (.ref [eI 0, eI 0, .sl [], eL eF exY1]) from .ref _ (zae (.s _) (zae (.s _) (zae (.sl _ (by simp)) (zae (lo_Fs _) zah))))), .lo _ (.s _), .lo _ (show Lo 0 (eL eF exY2) from lo_Fs _), trivial⟩) ?_
  refine zaf ?_
  refine zab rfl rfl (zaa rfl) (mv_s (.inl rfl) rfl) ?_
  refine zab rfl rfl (zaa rfl) (dec_t rfl (does_eql rfl rfl rfl)) ?_
  refine zab rfl rfl (zaa rfl) (mv_s (.inl rfl) rfl) ?_
  first | refine zab rfl rfl (zak rfl rfl rfl) (zal rfl tf25_0 (by decide) rfl) ?_ | refine zab rfl rfl (zak rfl rfl rfl) (zaj rfl tf25_0 (by decide) rfl) ?_ | refine zam rfl rfl (zbs rfl rfl rfl) ?_ | refine zam rfl rfl (zau rfl rfl rfl) ?_
  first | refine zab rfl rfl (zak rfl rfl rfl) (zao rfl ta22 rfl) ?_ | refine zab rfl rfl (zak rfl rfl rfl) (zar rfl ta22 rfl rfl rfl rfl rfl) ?_ | refine zam rfl rfl (zbs rfl rfl rfl) ?_ | refine zam rfl rfl (zau rfl rfl rfl) ?_
  first | refine zab rfl rfl (zak rfl rfl rfl) (does_lit rfl ts22 ti3 rfl rfl (by decide) (by decide) (by decide) rfl rfl) ?_ | refine zam rfl rfl (zbs rfl rfl rfl) ?_ | refine zam rfl rfl (zau rfl rfl rfl) ?_
  refine zbr (wk_froz (id := 0) rfl) (zbr (wk_sl (d := 29) rfl rfl (by first | rfl | (simp; done) | (simp; omega))) ?_)
  first | refine zab rfl rfl (zak rfl rfl rfl) (za5 rfl rfl ((equalSelf_pf [1, 1])) (zat rfl (zat rfl zbl))) ?_ | refine zam rfl rfl (zbs rfl rfl rfl) ?_ | refine zam rfl rfl (zau rfl rfl rfl) ?_
  first | refine zab rfl rfl (zaa rfl) (zb0 rfl rfl rfl) ?_ | refine zab rfl rfl (zaa rfl) (zb1 rfl rfl rfl) ?_ | refine zab rfl rfl (zaa rfl) (zbo rfl rfl rfl) ?_ | refine zab rfl rfl (zaa rfl) (zbp rfl rfl rfl) ?_
  refine zab rfl rfl (zaa rfl) (mv_s (.inl rfl) rfl) ?_
  first | refine zab rfl rfl (zak rfl rfl rfl) (zal rfl tf25_1 (by decide) rfl) ?_ | refine zab rfl rfl (zak rfl rfl rfl) (zaj rfl tf25_1 (by decide) rfl) ?_ | refine zam rfl rfl (zbs rfl rfl rfl) ?_ | refine zam rfl rfl (zau rfl rfl rfl) ?_
  first | refine zab rfl rfl (zak rfl rfl rfl) (zao rfl ta3 rfl) ?_ | refine zab rfl rfl (zak rfl rfl rfl) (zar rfl ta3 rfl rfl rfl rfl rfl) ?_ | refine zam rfl rfl (zbs rfl rfl rfl) ?_ | refine zam rfl rfl (zau rfl rfl rfl) ?_
  first | refine zab rfl rfl (zak rfl rfl rfl) (dec_t rfl (does_eql rfl rfl rfl)) ?_ | refine zam rfl rfl (zbs rfl rfl rfl) ?_ | refine zam rfl rfl (zau rfl rfl rfl) ?_
  first | refine zab rfl rfl (zaa rfl) (zb0 rfl rfl rfl) ?_ | refine zab rfl rfl (zaa rfl) (zb1 rfl rfl rfl) ?_ | refine zab rfl rfl (zaa rfl) (zbo rfl rfl rfl) ?_ | refine zab rfl rfl (zaa rfl) (zbp rfl rfl rfl) ?_
  refine zab rfl rfl (zaa rfl) (mv_s (.inl rfl) rfl) ?_
  first | refine zab rfl rfl (zak rfl rfl rfl) (za3 (.inl rfl) rfl) ?_ | refine zab rfl rfl (zak rfl rfl rfl) (zbi (.inl rfl) rfl) ?_ | refine zab rfl rfl (zak rfl rfl rfl) (mv_s (.inl rfl) rfl) ?_ | refine zab rfl rfl (zak rfl rfl rfl) (za4 (.inl rfl) rfl) ?_ | refine zam rfl rfl (zbs rfl rfl rfl) ?_ | refine zam rfl rfl (zau rfl rfl rfl) ?_
  first | refine zab rfl rfl (zak rfl rfl rfl) (za3 (.inl rfl) rfl) ?_ | refine zab rfl rfl (zak rfl rfl rfl) (zbi (.inl rfl) rfl) ?_ | refine zab rfl rfl (zak rfl rfl rfl) (mv_s (.inl rfl) rfl) ?_ | refine zab rfl rfl (zak rfl rfl rfl) (za4 (.inl rfl) rfl) ?_ | refine zam rfl rfl (zbs rfl rfl rfl) ?_ | refine zam rfl rfl (zau rfl rfl rfl) ?_
  first | refine zab rfl rfl (zak rfl rfl rfl) (za9 rfl ta25 ti25 rfl rfl) ?_ | refine zab rfl rfl (zak rfl rfl rfl) (zbf rfl ta25 ti25 rfl rfl rfl rfl rfl) ?_ | refine zab rfl rfl (zak rfl rfl rfl) (za8 rfl ta25 ti25 rfl (Nat.le_of_ble_eq_true rfl)) ?_ | refine zab rfl rfl (zak rfl rfl rfl) (zbg rfl ta25 ti25 rfl rfl rfl rfl (Nat.le_of_ble_eq_true rfl)) ?_ | refine zam rfl rfl (zbs rfl rfl rfl) ?_ | refine zam rfl rfl (zau rfl rfl rfl) ?_
  first | refine zab rfl rfl (zak rfl rfl rfl) (za9 rfl ta29 ti29 rfl rfl) ?_ | refine zab rfl rfl (zak rfl rfl rfl) (zbf rfl ta29 ti29 rfl rfl rfl rfl rfl) ?_ | refine zab rfl rfl (zak rfl rfl rfl) (za8 rfl ta29 ti29 rfl (Nat.le_of_ble_eq_true rfl)) ?_ | refine zab rfl rfl (zak rfl rfl rfl) (zbg rfl ta29 ti29 rfl rfl rfl rfl (Nat.le_of_ble_eq_true rfl)) ?_ | refine zam rfl rfl (zbs rfl rfl rfl) ?_ | refine zam rfl rfl (zau rfl rfl rfl) ?_
  first | refine zab rfl rfl (zak rfl rfl rfl) (za5 rfl rfl (hc1) (zat rfl (zat rfl (zat rfl (zat rfl zbl))))) ?_ | refine zam rfl rfl (zbs rfl rfl rfl) ?_ | refine zam rfl rfl (zau rfl rfl rfl) ?_
  first | refine zab rfl rfl (zaa rfl) (zb0 rfl rfl rfl) ?_ | refine zab rfl rfl (zaa rfl) (zb1 rfl rfl rfl) ?_ | refine zab rfl rfl (zaa rfl) (zbo rfl rfl rfl) ?_ | refine zab rfl rfl (zaa rfl) (zbp rfl rfl rfl) ?_
  refine zab rfl rfl (zaa rfl) (mv_s (.inl rfl) rfl) ?_
  first | refine zab rfl rfl (zak rfl rfl rfl) (za3 (.inl rfl) rfl) ?_ | refine zab rfl rfl (zak rfl rfl rfl) (zbi (.inl rfl) rfl) ?_ | refine zab rfl rfl (zak rfl rfl rfl) (mv_s (.inl rfl) rfl) ?_ | refine zab rfl rfl (zak rfl rfl rfl) (za4 (.inl rfl) rfl) ?_ | refine zam rfl rfl (zbs rfl rfl rfl) ?_ | refine zam rfl rfl (zau rfl rfl rfl) ?_
  first | refine zab rfl rfl (zak rfl rfl rfl) (za3 (.inl rfl) rfl) ?_ | refine zab rfl rfl (zak rfl rfl rfl) (zbi (.inl rfl) rfl) ?_ | refine zab rfl rfl (zak rfl rfl rfl) (mv_s (.inl rfl) rfl) ?_ | refine zab rfl rfl (zak rfl rfl rfl) (za4 (.inl rfl) rfl) ?_ | refine zam rfl rfl (zbs rfl rfl rfl) ?_ | refine zam rfl rfl (zau rfl rfl rfl) ?_
  first | refine zab rfl rfl (zak rfl rfl rfl) (za9 rfl ta25 ti25 rfl rfl) ?_ | refine zab rfl rfl (zak rfl rfl rfl) (zbf rfl ta25 ti25 rfl rfl rfl rfl rfl) ?_ | refine zab rfl rfl (zak rfl rfl rfl) (za8 rfl ta25 ti25 rfl (Nat.le_of_ble_eq_true rfl)) ?_ | refine zab rfl rfl (zak rfl rfl rfl) (zbg rfl ta25 ti25 rfl rfl rfl rfl (Nat.le_of_ble_eq_true rfl)) ?_ | refine zam rfl rfl (zbs rfl rfl rfl) ?_ | refine zam rfl rfl (zau rfl rfl rfl) ?_
  first | refine zab rfl rfl (zak rfl rfl rfl) (za3 (.inl rfl) rfl) ?_ | refine zab rfl rfl (zak rfl rfl rfl) (zbi (.inl rfl) rfl) ?_ | refine zab rfl rfl (zak rfl rfl rfl) (mv_s (.inl rfl) rfl) ?_ | refine zab rfl rfl (zak rfl rfl rfl) (za4 (.inl rfl) rfl) ?_ | refine zam rfl rfl (zbs rfl rfl rfl) ?_ | refine zam rfl rfl (zau rfl rfl rfl) ?_
  first | refine zab rfl rfl (zak rfl rfl rfl) (does_build rfl ti29 tp29 rfl rfl) ?_ | refine zam rfl rfl (zbs rfl rfl rfl) ?_ | refine zam rfl rfl (zau rfl rfl rfl) ?_
  first | refine zab rfl rfl (zak rfl rfl rfl) (does_callb rfl rfl hc2 (FiniL.cons (.refl _) (FiniL.cons (.refl _) (FiniL.cons (.refl _) (FiniL.cons (.agg _ _ rfl (FiniL.cons (.refl _) (FiniL.cons (.refl _) (FiniL.cons .nil (FiniL.cons (.refl _) FiniL.nil)))).2) FiniL.nil)))) (by repeat' (first | exact Flat.s _ | exact flat_nil | refine flat_cons ?_ ?_ | refine Flat.agg ?_ | refine Flat.tup ?_))) ?_ | refine zam rfl rfl (zbs rfl rfl rfl) ?_ | refine zam rfl rfl (zau rfl rfl rfl) ?_
  first | refine zab rfl rfl (zaa rfl) (zb0 rfl rfl rfl) ?_ | refine zab rfl rfl (zaa rfl) (zb1 rfl rfl rfl) ?_ | refine zab rfl rfl (zaa rfl) (zbo rfl rfl rfl) ?_ | refine zab rfl rfl (zaa rfl) (zbp rfl rfl rfl) ?_
  refine zab rfl rfl (zaa rfl) (mv_s (.inr rfl) rfl) ?_
  refine zan ?_
  repeat (first | refine zag ?_ | refine zap ?_ | refine zad ?_ | refine zaq ?_ | refine zac ?_)
  (refine zbt ?_; repeat (first | refine ath_r ?_ | refine abl_r ?_))
  exact post1 (.inr rfl) rfl rfl
end Go.Proofs.Ytmoipmnhgdmkpaa.Aw
end
