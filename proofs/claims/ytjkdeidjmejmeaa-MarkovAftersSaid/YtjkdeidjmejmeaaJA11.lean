/-
  Texts joined: MkB, MkC, SxE. Conditions: none.
-/
import Derived.Test.YtjkdeidjmejmeaaJA9
import Derived.Test.YtjkdeidjmejmeaaJA10
section
namespace Go.Proofs.Ytjkdeidjmejmeaa.Aw
set_option linter.unusedSimpArgs false
set_option linter.unusedVariables false
set_option linter.unusedSectionVars false
open Go.RowKit Go.Proofs
variable {P : Program} [IsP P]

def posB (a : Fr) : Bool := a.okB && !negB a
theorem one_pf : Pure P 39 [] (eF (Fr.of 1)) := by
  refine aw_fn (by rw [IsP.eq (P := P)]; exact Try.func39) rfl rfl rfl rfl rfl (by repeat' (first | exact Lo.s _ | exact Lo.emp | exact Lo.any | exact lo_nil | exact lo_nilE | refine lo_cons ?_ ?_ | refine lo_consE ?_ ?_ | refine lo_map ?_ | refine lo_mapE ?_ | refine Lo.cells ?_ | refine Lo.agg _ ?_ | refine Lo.ref _ ?_ | refine Lo.tup _ ?_ | refine Lo.fn _ _ ?_ | refine Lo.sl _ ?_ | intro _)) (by repeat' (first | exact Lo.s _ | exact Lo.emp | exact Lo.any | exact lo_nil | exact lo_nilE | refine lo_cons ?_ ?_ | refine lo_consE ?_ ?_ | refine lo_map ?_ | refine lo_mapE ?_ | refine Lo.cells ?_ | refine Lo.agg _ ?_ | refine Lo.ref _ ?_ | refine Lo.tup _ ?_ | refine Lo.fn _ _ ?_ | refine Lo.sl _ ?_ | intro _)) (by simp only [argF]; rfl) ?_
  repeat (first | refine aw_seq ?_ | refine ath_n ?_ | refine aw_skip ?_ | refine abl_n ?_ | refine aw_block ?_)
  refine aw_region ?_
  refine ops_op rfl rfl (runs_none rfl) (does_alloc rfl ti48 rfl rfl) ?_
  refine ops_nil ?_
  repeat (first | refine aw_seq ?_ | refine ath_n ?_ | refine aw_skip ?_ | refine abl_n ?_ | refine aw_block ?_)
  refine aw_region ?_
  refine ops_op rfl rfl (runs_none rfl) (does_build rfl ti48 tp48 rfl rfl) ?_
  refine ops_eff rfl (runs_none rfl) (does_store rfl ti48 rfl rfl rfl rfl rfl rfl (by decide) (by decide)) ?_
  refine ops_nil ?_
  repeat (first | refine aw_seq ?_ | refine ath_n ?_ | refine aw_skip ?_ | refine abl_n ?_ | refine aw_block ?_)
  (refine aw_ret ?_; repeat (first | refine ath_r ?_ | refine abl_r ?_))
  exact post_c (N := 0) (.inr rfl) ta48 ti48 rfl rfl rfl rfl rfl rfl
theorem rone_pf : Pure P 58 [] (eF (Fr.of 1)) := by
  have h0 := rOf_pf (P := P) 1
  refine aw_fn (by rw [IsP.eq (P := P)]; exact Try.func58) rfl rfl rfl rfl rfl (by repeat' (first | exact Lo.s _ | exact Lo.emp | exact Lo.any | exact lo_nil | exact lo_nilE | refine lo_cons ?_ ?_ | refine lo_consE ?_ ?_ | refine lo_map ?_ | refine lo_mapE ?_ | refine Lo.cells ?_ | refine Lo.agg _ ?_ | refine Lo.ref _ ?_ | refine Lo.tup _ ?_ | refine Lo.fn _ _ ?_ | refine Lo.sl _ ?_ | intro _)) (by repeat' (first | exact Lo.s _ | exact Lo.emp | exact Lo.any | exact lo_nil | exact lo_nilE | refine lo_cons ?_ ?_ | refine lo_consE ?_ ?_ | refine lo_map ?_ | refine lo_mapE ?_ | refine Lo.cells ?_ | refine Lo.agg _ ?_ | refine Lo.ref _ ?_ | refine Lo.tup _ ?_ | refine Lo.fn _ _ ?_ | refine Lo.sl _ ?_ | intro _)) (by simp only [argF]; rfl) ?_
  repeat (first | refine aw_seq ?_ | refine ath_n ?_ | refine aw_skip ?_ | refine abl_n ?_ | refine aw_block ?_)
  refine aw_region ?_
  refine ops_op rfl rfl (runs_none rfl) (does_alloc rfl ti48 rfl rfl) ?_
  refine ops_nil ?_
  repeat (first | refine aw_seq ?_ | refine ath_n ?_ | refine aw_skip ?_ | refine abl_n ?_ | refine aw_block ?_)
  refine aw_region ?_
  refine ops_op rfl rfl (runs_none rfl) (does_call rfl rfl (h0) (evc_cons rfl evc_nil)) ?_
  refine ops_eff rfl (runs_none rfl) (does_store rfl ti48 rfl rfl rfl rfl rfl rfl (by decide) (by decide)) ?_
  refine ops_nil ?_
  repeat (first | refine aw_seq ?_ | refine ath_n ?_ | refine aw_skip ?_ | refine abl_n ?_ | refine aw_block ?_)
  (refine aw_ret ?_; repeat (first | refine ath_r ?_ | refine abl_r ?_))
  exact post_c (N := 0) (.inr rfl) ta48 ti48 rfl rfl rfl rfl rfl rfl
theorem dist1_pf (a : Fr) : Pure P 53 [eF a] (eB (!posB a)) := by
  refine aw_fn (by rw [IsP.eq (P := P)]; exact Try.func53) rfl rfl rfl rfl rfl (by repeat' (first | exact Lo.s _ | exact Lo.emp | exact Lo.any | exact lo_nil | exact lo_nilE | refine lo_cons ?_ ?_ | refine lo_consE ?_ ?_ | refine lo_map ?_ | refine lo_mapE ?_ | refine Lo.cells ?_ | refine Lo.agg _ ?_ | refine Lo.ref _ ?_ | refine Lo.tup _ ?_ | refine Lo.fn _ _ ?_ | refine Lo.sl _ ?_ | intro _)) (by repeat' (first | exact Lo.s _ | exact Lo.emp | exact Lo.any | exact lo_nil | exact lo_nilE | refine lo_cons ?_ ?_ | refine lo_consE ?_ ?_ | refine lo_map ?_ | refine lo_mapE ?_ | refine Lo.cells ?_ | refine Lo.agg _ ?_ | refine Lo.ref _ ?_ | refine Lo.tup _ ?_ | refine Lo.fn _ _ ?_ | refine Lo.sl _ ?_ | intro _)) (by simp only [argF]; rfl) ?_
  repeat (first | refine aw_seq ?_ | refine ath_n ?_ | refine aw_skip ?_ | refine abl_n ?_ | refine aw_block ?_)
  refine aw_region ?_
  refine ops_op rfl rfl (runs_none rfl) (does_box rfl rfl rfl rfl) ?_
  refine aops_weak (wk_froz (id := 0) rfl) (aops_weak (wk_ref (d := 1) rfl rfl rfl) ?_)
  refine ops_op rfl rfl (runs_none rfl) (mv_s (.inr rfl) rfl) ?_
  refine ops_nil ?_
  repeat (first | refine aw_seq ?_ | refine ath_n ?_ | refine aw_skip ?_ | refine abl_n ?_ | refine aw_block ?_)
  all_goals refine aw_region ?_
  all_goals (first | refine ops_op rfl rfl (runs_none rfl) (does_load_refw rfl ta48 ti48 rfl rfl) ?_ | refine ops_op rfl rfl (runs_none rfl) (does_load_whole rfl ta48 ti48 rfl rfl rfl rfl rfl) ?_ | refine ops_op rfl rfl (runs_none rfl) (does_load_refs rfl ta48 ti48 rfl (Nat.le_of_ble_eq_true rfl)) ?_ | refine ops_op rfl rfl (runs_none rfl) (does_load_ptrs rfl ta48 ti48 rfl rfl rfl rfl (Nat.le_of_ble_eq_true rfl)) ?_)
  all_goals (first | refine ops_opP rfl rfl (runs_none rfl) (does_call rfl rfl (fValid_pf _) (evc_cons rfl evc_nil)) (fun h4 => ?_) (fun h4 => ?_) | refine ops_opB rfl rfl (runs_none rfl) (does_call rfl rfl (fValid_pf _) (evc_cons rfl evc_nil)) (fun h4 => ?_) (fun h4 => ?_))
  all_goals (first | refine ops_op rfl rfl (runs_none rfl) (does_notp rfl rfl) ?_ | refine ops_op rfl rfl (runs_none rfl) (does_not rfl rfl) ?_)
  all_goals refine ops_op rfl rfl (runs_none rfl) (mv_s (.inl rfl) rfl) ?_
  all_goals (first | refine ops_op rfl rfl (runs_y rfl rfl rfl) (does_fieldAddr_ptr rfl tf48_0 (by decide) rfl) ?_ | refine ops_op rfl rfl (runs_y rfl rfl rfl) (does_fieldAddr_ref rfl tf48_0 (by decide) rfl) ?_ | refine ops_skip rfl rfl (runs_nf rfl rfl rfl) ?_ | refine ops_skip rfl rfl (runs_nu rfl rfl rfl) ?_)
  all_goals (first | refine ops_op rfl rfl (runs_y rfl rfl rfl) (does_load_ref rfl ta3 rfl) ?_ | refine ops_op rfl rfl (runs_y rfl rfl rfl) (does_load_ptr rfl ta3 rfl rfl rfl rfl rfl) ?_ | refine ops_skip rfl rfl (runs_nf rfl rfl rfl) ?_ | refine ops_skip rfl rfl (runs_nu rfl rfl rfl) ?_)
  all_goals (first | refine ops_opP rfl rfl (runs_y rfl rfl rfl) (does_lss rfl rfl rfl) (fun h9 => ?_) (fun h9 => ?_) | refine ops_opB rfl rfl (runs_y rfl rfl rfl) (does_lss rfl rfl rfl) (fun h9 => ?_) (fun h9 => ?_) | refine ops_skip rfl rfl (runs_nf rfl rfl rfl) ?_ | refine ops_skip rfl rfl (runs_nu rfl rfl rfl) ?_)
  all_goals (first | refine ops_op rfl rfl (runs_none rfl) (pickT_s rfl rfl rfl) ?_ | refine ops_op rfl rfl (runs_none rfl) (pickF_s rfl rfl rfl) ?_ | refine ops_op rfl rfl (runs_none rfl) (does_pickT rfl rfl rfl) ?_ | refine ops_op rfl rfl (runs_none rfl) (does_pickF rfl rfl rfl) ?_)
  all_goals refine ops_op rfl rfl (runs_none rfl) (mv_s (.inr rfl) rfl) ?_
  all_goals refine ops_nil ?_
  all_goals (repeat (first | refine aw_seq ?_ | refine ath_n ?_ | refine aw_skip ?_ | refine abl_n ?_ | refine aw_block ?_))
  all_goals (refine aw_ret ?_; repeat (first | refine ath_r ?_ | refine abl_r ?_))
  all_goals exact post1 (.inr rfl) rfl (congrArg eB (by unfold posB negB; first | (rw [Fr.okB_of h4, decide_eq_true h9]; rfl) | (rw [Fr.okB_of h4, decide_eq_false h9]; rfl) | (rw [Fr.okB_not h4]; rfl)))
def sumOk (l : List Fr) : Bool := decide ((sumsE l).e = 0) && decide ((sumsE l).n = 1 ∧ (sumsE l).d = 1)
def distB (l : List Fr) (n : Int) : Bool := (decide ((l.length : Int) = n) && l.all posB) && sumOk l
theorem frEqB {a b c d : Int} : @decide ([Value.int .i64 a, Value.int .i64 b] = [Value.int .i64 c, Value.int .i64 d]) (Classical.propDecidable _) = decide (a = c ∧ b = d) := by
  rw [decide_eq_decide]
  constructor
  · intro h; cases h; exact ⟨rfl, rfl⟩
  · rintro ⟨rfl, rfl⟩; rfl
theorem all_not {l : List Fr} {b : Bool} (h : l.any (fun a => !posB a) = b) : l.all posB = !b := by
  rw [← h]; simp [List.all_eq_not_any_not]
set_option maxHeartbeats 1000000 in
theorem dist_pf (l : List Fr) (n : Int) : Pure P 29 [eL eF l, eI n] (eB (distB l n)) := by
  have hc := containsFF_pf (P := P) 53 [] (fun a => !posB a) l lo_F (.fn _ _ (by simp)) (fun a _ => dist1_pf a)
  have ho := one_pf (P := P)
  have hs := fSum_pf (P := P) l
  have hd : distB l n = ((decide ((l.length : Int) = n) && l.all posB) && (decide ((sumsE l).e = 0) && decide ((sumsE l).n = 1 ∧ (sumsE l).d = 1))) := rfl
  generalize distB l n = R at hd ⊢
  generalize sumsE l = s at hs hd
  refine aw_fn (by rw [IsP.eq (P := P)]; exact Try.func29) rfl rfl rfl rfl rfl (by repeat' (first | exact Lo.s _ | exact Lo.emp | exact Lo.any | exact lo_nil | exact lo_nilE | refine lo_cons ?_ ?_ | refine lo_consE ?_ ?_ | refine lo_map ?_ | refine lo_mapE ?_ | refine Lo.cells ?_ | refine Lo.agg _ ?_ | refine Lo.ref _ ?_ | refine Lo.tup _ ?_ | refine Lo.fn _ _ ?_ | refine Lo.sl _ ?_ | intro _)) (by repeat' (first | exact Lo.s _ | exact Lo.emp | exact Lo.any | exact lo_nil | exact lo_nilE | refine lo_cons ?_ ?_ | refine lo_consE ?_ ?_ | refine lo_map ?_ | refine lo_mapE ?_ | refine Lo.cells ?_ | refine Lo.agg _ ?_ | refine Lo.ref _ ?_ | refine Lo.tup _ ?_ | refine Lo.fn _ _ ?_ | refine Lo.sl _ ?_ | intro _)) (by simp only [argF]; rfl) ?_
  repeat (first | refine aw_seq ?_ | refine ath_n ?_ | refine aw_skip ?_ | refine abl_n ?_ | refine aw_block ?_)
  refine aw_region ?_
  refine ops_op rfl rfl (runs_none rfl) (mv_s (.inr rfl) rfl) ?_
  refine ops_nil ?_
  repeat (first | refine aw_seq ?_ | refine ath_n ?_ | refine aw_skip ?_ | refine abl_n ?_ | refine aw_block ?_)
  all_goals refine aw_region ?_
  all_goals (first | refine ops_op rfl rfl (runs_none rfl) (mv_own (.inl rfl) rfl) ?_ | refine ops_op rfl rfl (runs_none rfl) (mv_sl (.inl rfl) rfl) ?_ | refine ops_op rfl rfl (runs_none rfl) (mv_s (.inl rfl) rfl) ?_ | refine ops_op rfl rfl (runs_none rfl) (mv_emp (.inl rfl) rfl) ?_)
  all_goals (first | refine ops_op rfl rfl (runs_none rfl) (does_len_map rfl ts36 rfl) ?_ | refine ops_op rfl rfl (runs_none rfl) (does_len_sl rfl ts36 rfl) ?_ | refine ops_op rfl rfl (runs_none rfl) (does_len_own rfl ts36 rfl) ?_ | refine ops_op rfl rfl (runs_none rfl) (does_len_s rfl ts36 rfl) ?_ | refine ops_op rfl rfl (runs_none rfl) (does_len_emp rfl ts36 rfl) ?_)
  all_goals refine ops_op rfl rfl (runs_none rfl) (mv_s (.inl rfl) rfl) ?_
  all_goals (first | refine ops_opP rfl rfl (runs_none rfl) (does_neq rfl rfl rfl) (fun h10 => ?_) (fun h10 => ?_) | refine ops_opB rfl rfl (runs_none rfl) (does_neq rfl rfl rfl) (fun h10 => ?_) (fun h10 => ?_))
  all_goals refine ops_op rfl rfl (runs_none rfl) (mv_s (.inl rfl) rfl) ?_
  all_goals (first | refine ops_op rfl rfl (runs_y rfl rfl rfl) (mv_own (.inl rfl) rfl) ?_ | refine ops_op rfl rfl (runs_y rfl rfl rfl) (mv_sl (.inl rfl) rfl) ?_ | refine ops_op rfl rfl (runs_y rfl rfl rfl) (mv_s (.inl rfl) rfl) ?_ | refine ops_op rfl rfl (runs_y rfl rfl rfl) (mv_emp (.inl rfl) rfl) ?_ | refine ops_skip rfl rfl (runs_nf rfl rfl rfl) ?_ | refine ops_skip rfl rfl (runs_nu rfl rfl rfl) ?_)
  all_goals (first | refine ops_opP rfl rfl (runs_y rfl rfl rfl) (does_call rfl rfl (hc) (evc_cons rfl (evc_cons rfl evc_nil))) (fun h13 => ?_) (fun h13 => ?_) | refine ops_opB rfl rfl (runs_y rfl rfl rfl) (does_call rfl rfl (hc) (evc_cons rfl (evc_cons rfl evc_nil))) (fun h13 => ?_) (fun h13 => ?_) | refine ops_skip rfl rfl (runs_nf rfl rfl rfl) ?_ | refine ops_skip rfl rfl (runs_nu rfl rfl rfl) ?_)
  all_goals (first | refine ops_op rfl rfl (runs_none rfl) (pickT_s rfl rfl rfl) ?_ | refine ops_op rfl rfl (runs_none rfl) (pickF_s rfl rfl rfl) ?_ | refine ops_op rfl rfl (runs_none rfl) (does_pickT rfl rfl rfl) ?_ | refine ops_op rfl rfl (runs_none rfl) (does_pickF rfl rfl rfl) ?_)
  all_goals refine ops_nil ?_
  all_goals (repeat (first | refine aw_seq ?_ | refine ath_n ?_ | refine aw_skip ?_ | refine abl_n ?_ | refine aw_block ?_))
  all_goals (first | refine aw_true rfl ?_ | refine aw_false rfl ?_)
  all_goals (repeat (first | refine aw_seq ?_ | refine ath_n ?_ | refine aw_skip ?_ | refine abl_n ?_ | refine aw_block ?_))
  all_goals first
    | skip
      refine aw_region ?_
      refine ops_op rfl rfl (runs_none rfl) (mv_s (.inr rfl) rfl) ?_
      refine ops_nil ?_
      repeat (first | refine aw_seq ?_ | refine ath_n ?_ | refine aw_skip ?_ | refine abl_n ?_ | refine aw_block ?_)
      (refine aw_ret ?_; repeat (first | refine ath_r ?_ | refine abl_r ?_))
      exact post1 (.inr rfl) rfl (congrArg eB (by
        rw [hd]
        first
        | rw [all_not h13]; simp; done
        | rw [decide_eq_false (by omega)]; simp; done))
    | skip
  have ha := all_not h13
  rw [ha, decide_eq_true (show (l.length : Int) = n by omega)] at hd
  refine aw_region ?_
  first | refine ops_op rfl rfl (runs_none rfl) (mv_own (.inl rfl) rfl) ?_ | refine ops_op rfl rfl (runs_none rfl) (mv_sl (.inl rfl) rfl) ?_ | refine ops_op rfl rfl (runs_none rfl) (mv_s (.inl rfl) rfl) ?_ | refine ops_op rfl rfl (runs_none rfl) (mv_emp (.inl rfl) rfl) ?_
  refine ops_op rfl rfl (runs_none rfl) (does_call rfl rfl (hs) (evc_cons rfl evc_nil)) ?_
  first | refine ops_op rfl rfl (runs_none rfl) (mv_tup (.inl rfl) rfl) ?_ | refine ops_op rfl rfl (runs_none rfl) (mv_s (.inl rfl) rfl) ?_
  refine ops_op rfl rfl (runs_none rfl) (does_extract rfl rfl rfl) ?_
  refine ops_op rfl rfl (runs_none rfl) (does_extract rfl rfl rfl) ?_
  refine ops_op rfl rfl (runs_none rfl) (does_alloc rfl ti48 rfl rfl) ?_
  refine ops_eff rfl (runs_none rfl) (does_store rfl ti48 rfl rfl rfl rfl rfl rfl (by decide) (by decide)) ?_
  refine ops_op rfl rfl (runs_none rfl) (mv_s (.inr rfl) rfl) ?_
  refine ops_nil ?_
  repeat (first | refine aw_seq ?_ | refine ath_n ?_ | refine aw_skip ?_ | refine abl_n ?_ | refine aw_block ?_)
  by_cases he : s.e = 0
  · skip
    refine aw_draw hmix ?_
    refine adraw_quiet (by kernel_rfl) ?_
    refine qx_op rfl rfl (runs_none rfl) (mv_s (.inl rfl) rfl) ?_
    refine qx_op rfl rfl (runs_none rfl) (dec_t he (does_eql rfl rfl rfl)) ?_
    refine qx_op rfl rfl (runs_none rfl) (mv_s (.inl rfl) rfl) ?_
    first | refine qx_op rfl rfl (runs_y rfl rfl rfl) (does_load_refw rfl ta48 ti48 rfl rfl) ?_ | refine qx_op rfl rfl (runs_y rfl rfl rfl) (does_load_whole rfl ta48 ti48 rfl rfl rfl rfl rfl) ?_ | refine qx_op rfl rfl (runs_y rfl rfl rfl) (does_load_refs rfl ta48 ti48 rfl (Nat.le_of_ble_eq_true rfl)) ?_ | refine qx_op rfl rfl (runs_y rfl rfl rfl) (does_load_ptrs rfl ta48 ti48 rfl rfl rfl rfl (Nat.le_of_ble_eq_true rfl)) ?_ | refine qx_skip rfl rfl (runs_nt rfl rfl rfl) ?_ | refine qx_skip rfl rfl (runs_nu rfl rfl rfl) ?_
    first | refine qx_op rfl rfl (runs_y rfl rfl rfl) (does_call rfl rfl (ho) evc_nil) ?_ | refine qx_skip rfl rfl (runs_nt rfl rfl rfl) ?_ | refine qx_skip rfl rfl (runs_nu rfl rfl rfl) ?_
    first | refine qx_op rfl rfl (runs_y rfl rfl rfl) (does_eqa rfl rfl rfl te48 rfl rfl rfl) ?_ | refine qx_skip rfl rfl (runs_nt rfl rfl rfl) ?_ | refine qx_skip rfl rfl (runs_nu rfl rfl rfl) ?_
    first | refine qx_op rfl rfl (runs_none rfl) (pickT_s rfl rfl rfl) ?_ | refine qx_op rfl rfl (runs_none rfl) (pickF_s rfl rfl rfl) ?_ | refine qx_op rfl rfl (runs_none rfl) (does_pickT rfl rfl rfl) ?_ | refine qx_op rfl rfl (runs_none rfl) (does_pickF rfl rfl rfl) ?_
    refine qx_op rfl rfl (runs_none rfl) (mv_s (.inr rfl) rfl) ?_
    refine qx_nil ?_
    repeat (first | refine aw_seq ?_ | refine ath_n ?_ | refine aw_skip ?_ | refine abl_n ?_ | refine aw_block ?_)
    (refine aw_ret ?_; repeat (first | refine ath_r ?_ | refine abl_r ?_))
    exact post1 (.inr rfl) rfl (congrArg eB (by
      rw [hd, decide_eq_true he]
      simp only [Bool.true_and, Bool.not_false]
      exact frEqB (a := s.n) (b := s.d) (c := 1) (d := 1)))
  · skip
    refine aw_draw hmix ?_
    refine adraw_quiet (by kernel_rfl) ?_
    refine qx_op rfl rfl (runs_none rfl) (mv_s (.inl rfl) rfl) ?_
    refine qx_op rfl rfl (runs_none rfl) (dec_f he (does_eql rfl rfl rfl)) ?_
    refine qx_op rfl rfl (runs_none rfl) (mv_s (.inl rfl) rfl) ?_
    first | refine qx_op rfl rfl (runs_y rfl rfl rfl) (does_load_refw rfl ta48 ti48 rfl rfl) ?_ | refine qx_op rfl rfl (runs_y rfl rfl rfl) (does_load_whole rfl ta48 ti48 rfl rfl rfl rfl rfl) ?_ | refine qx_op rfl rfl (runs_y rfl rfl rfl) (does_load_refs rfl ta48 ti48 rfl (Nat.le_of_ble_eq_true rfl)) ?_ | refine qx_op rfl rfl (runs_y rfl rfl rfl) (does_load_ptrs rfl ta48 ti48 rfl rfl rfl rfl (Nat.le_of_ble_eq_true rfl)) ?_ | refine qx_skip rfl rfl (runs_nt rfl rfl rfl) ?_ | refine qx_skip rfl rfl (runs_nu rfl rfl rfl) ?_
    first | refine qx_op rfl rfl (runs_y rfl rfl rfl) (does_call rfl rfl (by assumption) evc_nil) ?_ | refine qx_skip rfl rfl (runs_nt rfl rfl rfl) ?_ | refine qx_skip rfl rfl (runs_nu rfl rfl rfl) ?_
    first | refine qx_op rfl rfl (runs_y rfl rfl rfl) (does_eqa rfl rfl rfl te48 rfl rfl rfl) ?_ | refine qx_skip rfl rfl (runs_nt rfl rfl rfl) ?_ | refine qx_skip rfl rfl (runs_nu rfl rfl rfl) ?_
    first | refine qx_op rfl rfl (runs_none rfl) (pickT_s rfl rfl rfl) ?_ | refine qx_op rfl rfl (runs_none rfl) (pickF_s rfl rfl rfl) ?_ | refine qx_op rfl rfl (runs_none rfl) (does_pickT rfl rfl rfl) ?_ | refine qx_op rfl rfl (runs_none rfl) (does_pickF rfl rfl rfl) ?_
    refine qx_op rfl rfl (runs_none rfl) (mv_s (.inr rfl) rfl) ?_
    refine qx_nil ?_
    repeat (first | refine aw_seq ?_ | refine ath_n ?_ | refine aw_skip ?_ | refine abl_n ?_ | refine aw_block ?_)
    (refine aw_ret ?_; repeat (first | refine ath_r ?_ | refine abl_r ?_))
    exact post1 (.inr rfl) rfl (congrArg eB (by rw [hd, decide_eq_false he]; simp))
theorem all_pos {l : List Fr} {n : Nat} (h : n = l.length) (k : ∀ j, j < n → posB (gti l j) = true) : l.all posB = true := by
  subst h
  rw [List.all_eq_true]
  intro a ha
  obtain ⟨j, hj, rfl⟩ := List.mem_iff_getElem.1 ha
  have h1 := k j hj
  have h2 := gti_get hj
  rw [List.getElem?_eq_getElem hj] at h2
  rw [Option.some.inj h2]; exact h1
set_option maxHeartbeats 1000000 in
theorem rdist_pf (l : List Fr) (n : Int) : Pure P 30 [eL eF l, eI n] (eB (distB l n)) := by
  have ho := rone_pf (P := P)
  have hs := rSum_pf (P := P) l
  have hd : distB l n = ((decide ((l.length : Int) = n) && l.all posB) && (decide ((sumsE l).e = 0) && decide ((sumsE l).n = 1 ∧ (sumsE l).d = 1))) := rfl
  generalize distB l n = R at hd ⊢
  generalize sumsE l = s at hs hd
  refine aw_fn (by rw [IsP.eq (P := P)]; exact Try.func30) rfl rfl rfl rfl rfl (by repeat' (first | exact Lo.s _ | exact Lo.emp | exact Lo.any | exact lo_nil | exact lo_nilE | refine lo_cons ?_ ?_ | refine lo_consE ?_ ?_ | refine lo_map ?_ | refine lo_mapE ?_ | refine Lo.cells ?_ | refine Lo.agg _ ?_ | refine Lo.ref _ ?_ | refine Lo.tup _ ?_ | refine Lo.fn _ _ ?_ | refine Lo.sl _ ?_ | intro _)) (by repeat' (first | exact Lo.s _ | exact Lo.emp | exact Lo.any | exact lo_nil | exact lo_nilE | refine lo_cons ?_ ?_ | refine lo_consE ?_ ?_ | refine lo_map ?_ | refine lo_mapE ?_ | refine Lo.cells ?_ | refine Lo.agg _ ?_ | refine Lo.ref _ ?_ | refine Lo.tup _ ?_ | refine Lo.fn _ _ ?_ | refine Lo.sl _ ?_ | intro _)) (by simp only [argF]; rfl) ?_
  repeat (first | refine aw_seq ?_ | refine ath_n ?_ | refine aw_skip ?_ | refine abl_n ?_ | refine aw_block ?_)
  refine aw_bdm (d := 0) rfl (fun hmx => ?_)
  unfold maxLen at hmx
  refine aw_region ?_
  refine ops_op rfl rfl (runs_none rfl) (mv_s (.inr rfl) rfl) ?_
  refine ops_nil ?_
  repeat (first | refine aw_seq ?_ | refine ath_n ?_ | refine aw_skip ?_ | refine abl_n ?_ | refine aw_block ?_)
  all_goals refine aw_region ?_
  all_goals (first | refine ops_op rfl rfl (runs_none rfl) (mv_own (.inl rfl) rfl) ?_ | refine ops_op rfl rfl (runs_none rfl) (mv_sl (.inl rfl) rfl) ?_ | refine ops_op rfl rfl (runs_none rfl) (mv_s (.inl rfl) rfl) ?_ | refine ops_op rfl rfl (runs_none rfl) (mv_emp (.inl rfl) rfl) ?_)
  all_goals (first | refine ops_op rfl rfl (runs_none rfl) (does_len_map rfl ts36 rfl) ?_ | refine ops_op rfl rfl (runs_none rfl) (does_len_sl rfl ts36 rfl) ?_ | refine ops_op rfl rfl (runs_none rfl) (does_len_own rfl ts36 rfl) ?_ | refine ops_op rfl rfl (runs_none rfl) (does_len_s rfl ts36 rfl) ?_ | refine ops_op rfl rfl (runs_none rfl) (does_len_emp rfl ts36 rfl) ?_)
  all_goals refine ops_op rfl rfl (runs_none rfl) (mv_s (.inl rfl) rfl) ?_
  all_goals (first | refine ops_opP rfl rfl (runs_none rfl) (does_neq rfl rfl rfl) (fun h11 => ?_) (fun h11 => ?_) | refine ops_opB rfl rfl (runs_none rfl) (does_neq rfl rfl rfl) (fun h11 => ?_) (fun h11 => ?_))
  all_goals refine ops_nil ?_
  all_goals (repeat (first | refine aw_seq ?_ | refine ath_n ?_ | refine aw_skip ?_ | refine abl_n ?_ | refine aw_block ?_))
  all_goals (first | refine aw_true rfl ?_ | refine aw_false rfl ?_)
  all_goals (repeat (first | refine aw_seq ?_ | refine ath_n ?_ | refine aw_skip ?_ | refine abl_n ?_ | refine aw_block ?_))
  · skip
    refine aw_region ?_
    refine ops_op rfl rfl (runs_none rfl) (mv_s (.inr rfl) rfl) ?_
    refine ops_nil ?_
    repeat (first | refine aw_seq ?_ | refine ath_n ?_ | refine aw_skip ?_ | refine abl_n ?_ | refine aw_block ?_)
    (refine aw_ret ?_; repeat (first | refine ath_r ?_ | refine abl_r ?_))
    exact post1 (.inr rfl) rfl (congrArg eB (by rw [hd, decide_eq_false (by omega)]; simp))
  have hn : n = (l.length : Int) := by have := h11; omega
  subst hn
  refine aw_region ?_
  refine ops_op rfl rfl (runs_none rfl) (mv_s (.inr rfl) rfl) ?_
  refine ops_nil ?_
  repeat (first | refine aw_seq ?_ | refine ath_n ?_ | refine aw_skip ?_ | refine abl_n ?_ | refine aw_block ?_)
  refine aw_loops (S := Nat) (fun k => [(0, eL eF l), (1, eI l.length), (5, eI k)]) (fun _ => []) (fun k => k ≤ l.length ∧ ∀ j, j < k → posB (gti l j) = true) (fun k => l.length - k) 0 (wk_sub _ ⟨rfl, rfl, rfl, trivial⟩) ⟨by omega, fun j hj => by omega⟩ (fun k hk => ?_)
  repeat (first | refine aw_seq ?_ | refine ath_n ?_ | refine aw_skip ?_ | refine abl_n ?_ | refine aw_block ?_)
  all_goals refine aw_region ?_
  all_goals refine ops_op rfl rfl (runs_none rfl) (mv_s (.inl rfl) rfl) ?_
  all_goals refine ops_op rfl rfl (runs_none rfl) (mv_s (.inl rfl) rfl) ?_
  all_goals (first | refine ops_opP rfl rfl (runs_none rfl) (does_lss rfl rfl rfl) (fun h14 => ?_) (fun h14 => ?_) | refine ops_opB rfl rfl (runs_none rfl) (does_lss rfl rfl rfl) (fun h14 => ?_) (fun h14 => ?_))
  all_goals refine ops_nil ?_
  all_goals (repeat (first | refine aw_seq ?_ | refine ath_n ?_ | refine aw_skip ?_ | refine abl_n ?_ | refine aw_block ?_))
  all_goals (first | refine aw_true rfl ?_ | refine aw_false rfl ?_)
  all_goals (repeat (first | refine aw_seq ?_ | refine ath_n ?_ | refine aw_skip ?_ | refine abl_n ?_ | refine aw_block ?_))
  · have hlt : k < l.length := by omega
    all_goals refine aw_region ?_
    all_goals (first | refine ops_op rfl rfl (runs_none rfl) (mv_own (.inl rfl) rfl) ?_ | refine ops_op rfl rfl (runs_none rfl) (mv_sl (.inl rfl) rfl) ?_ | refine ops_op rfl rfl (runs_none rfl) (mv_s (.inl rfl) rfl) ?_ | refine ops_op rfl rfl (runs_none rfl) (mv_emp (.inl rfl) rfl) ?_)
    all_goals refine ops_op rfl rfl (runs_none rfl) (mv_s (.inl rfl) rfl) ?_
    all_goals (first | refine ops_op rfl rfl (runs_none rfl) (does_index_sl rfl ts36 ti48 rfl rfl rfl (ix_map (by omega)) rfl) ?_ | refine ops_op rfl rfl (runs_none rfl) (does_index_own rfl ts36 ti48 rfl rfl rfl (by omega)) ?_)
    all_goals (first | refine ops_op rfl rfl (runs_none rfl) (does_load_refw rfl ta48 ti48 rfl rfl) ?_ | refine ops_op rfl rfl (runs_none rfl) (does_load_whole rfl ta48 ti48 rfl rfl rfl rfl rfl) ?_ | refine ops_op rfl rfl (runs_none rfl) (does_load_refs rfl ta48 ti48 rfl (Nat.le_of_ble_eq_true rfl)) ?_ | refine ops_op rfl rfl (runs_none rfl) (does_load_ptrs rfl ta48 ti48 rfl rfl rfl rfl (Nat.le_of_ble_eq_true rfl)) ?_)
    all_goals (first | refine ops_opP rfl rfl (runs_none rfl) (does_call rfl rfl (rValid_pf _) (evc_cons rfl evc_nil)) (fun h21 => ?_) (fun h21 => ?_) | refine ops_opB rfl rfl (runs_none rfl) (does_call rfl rfl (rValid_pf _) (evc_cons rfl evc_nil)) (fun h21 => ?_) (fun h21 => ?_))
    all_goals (first | refine ops_op rfl rfl (runs_none rfl) (does_notp rfl rfl) ?_ | refine ops_op rfl rfl (runs_none rfl) (does_not rfl rfl) ?_)
    all_goals refine ops_op rfl rfl (runs_none rfl) (mv_s (.inl rfl) rfl) ?_
    all_goals (first | refine ops_op rfl rfl (runs_y rfl rfl rfl) (mv_own (.inl rfl) rfl) ?_ | refine ops_op rfl rfl (runs_y rfl rfl rfl) (mv_sl (.inl rfl) rfl) ?_ | refine ops_op rfl rfl (runs_y rfl rfl rfl) (mv_s (.inl rfl) rfl) ?_ | refine ops_op rfl rfl (runs_y rfl rfl rfl) (mv_emp (.inl rfl) rfl) ?_ | refine ops_skip rfl rfl (runs_nf rfl rfl rfl) ?_ | refine ops_skip rfl rfl (runs_nu rfl rfl rfl) ?_)
    all_goals (first | refine ops_op rfl rfl (runs_y rfl rfl rfl) (mv_s (.inl rfl) rfl) ?_ | refine ops_skip rfl rfl (runs_nf rfl rfl rfl) ?_ | refine ops_skip rfl rfl (runs_nu rfl rfl rfl) ?_)
    all_goals (first | refine ops_op rfl rfl (runs_y rfl rfl rfl) (does_index_sl rfl ts36 ti48 rfl rfl rfl (ix_map (by omega)) rfl) ?_ | refine ops_op rfl rfl (runs_y rfl rfl rfl) (does_index_own rfl ts36 ti48 rfl rfl rfl (by omega)) ?_ | refine ops_skip rfl rfl (runs_nf rfl rfl rfl) ?_ | refine ops_skip rfl rfl (runs_nu rfl rfl rfl) ?_)
    all_goals (first | refine ops_op rfl rfl (runs_y rfl rfl rfl) (does_fieldAddr_ptr rfl tf48_0 (by decide) rfl) ?_ | refine ops_op rfl rfl (runs_y rfl rfl rfl) (does_fieldAddr_ref rfl tf48_0 (by decide) rfl) ?_ | refine ops_skip rfl rfl (runs_nf rfl rfl rfl) ?_ | refine ops_skip rfl rfl (runs_nu rfl rfl rfl) ?_)
    all_goals (first | refine ops_op rfl rfl (runs_y rfl rfl rfl) (does_load_ref rfl ta3 rfl) ?_ | refine ops_op rfl rfl (runs_y rfl rfl rfl) (does_load_ptr rfl ta3 rfl rfl rfl rfl rfl) ?_ | refine ops_skip rfl rfl (runs_nf rfl rfl rfl) ?_ | refine ops_skip rfl rfl (runs_nu rfl rfl rfl) ?_)
    all_goals (first | refine ops_opP rfl rfl (runs_y rfl rfl rfl) (does_lss rfl rfl rfl) (fun h29 => ?_) (fun h29 => ?_) | refine ops_opB rfl rfl (runs_y rfl rfl rfl) (does_lss rfl rfl rfl) (fun h29 => ?_) (fun h29 => ?_) | refine ops_skip rfl rfl (runs_nf rfl rfl rfl) ?_ | refine ops_skip rfl rfl (runs_nu rfl rfl rfl) ?_)
    all_goals (first | refine ops_op rfl rfl (runs_none rfl) (pickT_s rfl rfl rfl) ?_ | refine ops_op rfl rfl (runs_none rfl) (pickF_s rfl rfl rfl) ?_ | refine ops_op rfl rfl (runs_none rfl) (does_pickT rfl rfl rfl) ?_ | refine ops_op rfl rfl (runs_none rfl) (does_pickF rfl rfl rfl) ?_)
    all_goals refine ops_nil ?_
    all_goals (repeat (first | refine aw_seq ?_ | refine ath_n ?_ | refine aw_skip ?_ | refine abl_n ?_ | refine aw_block ?_))
    all_goals (first | refine aw_true rfl ?_ | refine aw_false rfl ?_)
    all_goals (repeat (first | refine aw_seq ?_ | refine ath_n ?_ | refine aw_skip ?_ | refine abl_n ?_ | refine aw_block ?_))
    all_goals first
      | skip
        refine aw_region ?_
        refine ops_op rfl rfl (runs_none rfl) (mv_s (.inr rfl) rfl) ?_
        refine ops_nil ?_
        repeat (first | refine aw_seq ?_ | refine ath_n ?_ | refine aw_skip ?_ | refine abl_n ?_ | refine aw_block ?_)
        (refine aw_ret ?_; repeat (first | refine ath_r ?_ | refine abl_r ?_))
        exact post1 (.inr rfl) rfl (congrArg eB (by
          have hp : posB (gti l k) = false := by
            unfold posB negB
            first
            | (rw [h21, decide_eq_true h29]; rfl)
            | (rw [h21]; rfl)
            | (rw [Fr.okB_not h21]; rfl)
            | (rw [Fr.okB_of h21, decide_eq_true h29]; rfl)
          rw [hd, all_f hlt hp]; simp))
      | skip
        refine aw_region ?_
        refine ops_op rfl rfl (runs_none rfl) (mv_s (.inl rfl) rfl) ?_
        refine ops_op rfl rfl (runs_none rfl) (does_add rfl rfl rfl (IntWalk.i64_in _ (by omega))) ?_
        refine ops_op rfl rfl (runs_none rfl) (mv_s (.inr rfl) rfl) ?_
        refine ops_nil ?_
        repeat (first | refine aw_seq ?_ | refine ath_n ?_ | refine aw_skip ?_ | refine abl_n ?_ | refine aw_block ?_)
        refine ⟨k + 1, ⟨by omega, fun j hj => ?_⟩, by omega, wk_sub _ ⟨rfl, rfl, rfl, trivial⟩⟩
        by_cases e : j = k
        · subst e
          unfold posB negB
          first
          | (rw [h21, decide_eq_false h29]; rfl)
          | (rw [Fr.okB_of h21, decide_eq_false h29]; rfl)
        · exact hk.2 j (by omega)
  · (refine aw_exit ?_; repeat (first | refine ath_x ?_ | refine abl_hit ?_ | refine abl_miss rfl ?_ | refine abl_n ?_ | refine ath_n ?_ | refine aw_seq ?_ | refine aw_skip ?_ | refine aw_block ?_))
    have ha := all_pos (l := l) (n := k) (by omega) hk.2
    rw [ha, decide_eq_true rfl] at hd
    refine aw_region ?_
    first | refine ops_op rfl rfl (runs_none rfl) (mv_own (.inl rfl) rfl) ?_ | refine ops_op rfl rfl (runs_none rfl) (mv_sl (.inl rfl) rfl) ?_ | refine ops_op rfl rfl (runs_none rfl) (mv_s (.inl rfl) rfl) ?_ | refine ops_op rfl rfl (runs_none rfl) (mv_emp (.inl rfl) rfl) ?_
    refine ops_op rfl rfl (runs_none rfl) (does_call rfl rfl (hs) (evc_cons rfl evc_nil)) ?_
    first | refine ops_op rfl rfl (runs_none rfl) (mv_tup (.inl rfl) rfl) ?_ | refine ops_op rfl rfl (runs_none rfl) (mv_s (.inl rfl) rfl) ?_
    refine ops_op rfl rfl (runs_none rfl) (does_extract rfl rfl rfl) ?_
    refine ops_op rfl rfl (runs_none rfl) (does_extract rfl rfl rfl) ?_
    refine ops_op rfl rfl (runs_none rfl) (does_alloc rfl ti48 rfl rfl) ?_
    refine ops_eff rfl (runs_none rfl) (does_store rfl ti48 rfl rfl rfl rfl rfl rfl (by decide) (by decide)) ?_
    refine ops_op rfl rfl (runs_none rfl) (mv_s (.inr rfl) rfl) ?_
    refine ops_nil ?_
    repeat (first | refine aw_seq ?_ | refine ath_n ?_ | refine aw_skip ?_ | refine abl_n ?_ | refine aw_block ?_)
    by_cases he : s.e = 0
    · skip
      refine aw_draw hmix ?_
      refine adraw_quiet (by kernel_rfl) ?_
      refine qx_op rfl rfl (runs_none rfl) (mv_s (.inl rfl) rfl) ?_
      refine qx_op rfl rfl (runs_none rfl) (dec_t he (does_eql rfl rfl rfl)) ?_
      refine qx_op rfl rfl (runs_none rfl) (mv_s (.inl rfl) rfl) ?_
      first | refine qx_op rfl rfl (runs_y rfl rfl rfl) (does_load_refw rfl ta48 ti48 rfl rfl) ?_ | refine qx_op rfl rfl (runs_y rfl rfl rfl) (does_load_whole rfl ta48 ti48 rfl rfl rfl rfl rfl) ?_ | refine qx_op rfl rfl (runs_y rfl rfl rfl) (does_load_refs rfl ta48 ti48 rfl (Nat.le_of_ble_eq_true rfl)) ?_ | refine qx_op rfl rfl (runs_y rfl rfl rfl) (does_load_ptrs rfl ta48 ti48 rfl rfl rfl rfl (Nat.le_of_ble_eq_true rfl)) ?_ | refine qx_skip rfl rfl (runs_nt rfl rfl rfl) ?_ | refine qx_skip rfl rfl (runs_nu rfl rfl rfl) ?_
      first | refine qx_op rfl rfl (runs_y rfl rfl rfl) (does_call rfl rfl (ho) evc_nil) ?_ | refine qx_skip rfl rfl (runs_nt rfl rfl rfl) ?_ | refine qx_skip rfl rfl (runs_nu rfl rfl rfl) ?_
      first | refine qx_op rfl rfl (runs_y rfl rfl rfl) (does_eqa rfl rfl rfl te48 rfl rfl rfl) ?_ | refine qx_skip rfl rfl (runs_nt rfl rfl rfl) ?_ | refine qx_skip rfl rfl (runs_nu rfl rfl rfl) ?_
      first | refine qx_op rfl rfl (runs_none rfl) (pickT_s rfl rfl rfl) ?_ | refine qx_op rfl rfl (runs_none rfl) (pickF_s rfl rfl rfl) ?_ | refine qx_op rfl rfl (runs_none rfl) (does_pickT rfl rfl rfl) ?_ | refine qx_op rfl rfl (runs_none rfl) (does_pickF rfl rfl rfl) ?_
      refine qx_op rfl rfl (runs_none rfl) (mv_s (.inr rfl) rfl) ?_
      refine qx_nil ?_
      repeat (first | refine aw_seq ?_ | refine ath_n ?_ | refine aw_skip ?_ | refine abl_n ?_ | refine aw_block ?_)
      (refine aw_ret ?_; repeat (first | refine ath_r ?_ | refine abl_r ?_))
      exact post1 (.inr rfl) rfl (congrArg eB (by
        rw [hd, decide_eq_true he]
        simp only [Bool.true_and, Bool.not_false]
        exact frEqB (a := s.n) (b := s.d) (c := 1) (d := 1)))
    · skip
      refine aw_draw hmix ?_
      refine adraw_quiet (by kernel_rfl) ?_
      refine qx_op rfl rfl (runs_none rfl) (mv_s (.inl rfl) rfl) ?_
      refine qx_op rfl rfl (runs_none rfl) (dec_f he (does_eql rfl rfl rfl)) ?_
      refine qx_op rfl rfl (runs_none rfl) (mv_s (.inl rfl) rfl) ?_
      first | refine qx_op rfl rfl (runs_y rfl rfl rfl) (does_load_refw rfl ta48 ti48 rfl rfl) ?_ | refine qx_op rfl rfl (runs_y rfl rfl rfl) (does_load_whole rfl ta48 ti48 rfl rfl rfl rfl rfl) ?_ | refine qx_op rfl rfl (runs_y rfl rfl rfl) (does_load_refs rfl ta48 ti48 rfl (Nat.le_of_ble_eq_true rfl)) ?_ | refine qx_op rfl rfl (runs_y rfl rfl rfl) (does_load_ptrs rfl ta48 ti48 rfl rfl rfl rfl (Nat.le_of_ble_eq_true rfl)) ?_ | refine qx_skip rfl rfl (runs_nt rfl rfl rfl) ?_ | refine qx_skip rfl rfl (runs_nu rfl rfl rfl) ?_
      first | refine qx_op rfl rfl (runs_y rfl rfl rfl) (does_call rfl rfl (by assumption) evc_nil) ?_ | refine qx_skip rfl rfl (runs_nt rfl rfl rfl) ?_ | refine qx_skip rfl rfl (runs_nu rfl rfl rfl) ?_
      first | refine qx_op rfl rfl (runs_y rfl rfl rfl) (does_eqa rfl rfl rfl te48 rfl rfl rfl) ?_ | refine qx_skip rfl rfl (runs_nt rfl rfl rfl) ?_ | refine qx_skip rfl rfl (runs_nu rfl rfl rfl) ?_
      first | refine qx_op rfl rfl (runs_none rfl) (pickT_s rfl rfl rfl) ?_ | refine qx_op rfl rfl (runs_none rfl) (pickF_s rfl rfl rfl) ?_ | refine qx_op rfl rfl (runs_none rfl) (does_pickT rfl rfl rfl) ?_ | refine qx_op rfl rfl (runs_none rfl) (does_pickF rfl rfl rfl) ?_
      refine qx_op rfl rfl (runs_none rfl) (mv_s (.inr rfl) rfl) ?_
      refine qx_nil ?_
      repeat (first | refine aw_seq ?_ | refine ath_n ?_ | refine aw_skip ?_ | refine abl_n ?_ | refine aw_block ?_)
      (refine aw_ret ?_; repeat (first | refine ath_r ?_ | refine abl_r ?_))
      exact post1 (.inr rfl) rfl (congrArg eB (by rw [hd, decide_eq_false he]; simp))
end Go.Proofs.Ytjkdeidjmejmeaa.Aw
end
section
namespace Go.Proofs.Ytjkdeidjmejmeaa.Aw
set_option linter.unusedSimpArgs false
set_option linter.unusedVariables false
set_option linter.unusedSectionVars false
open Go.RowKit Go.Proofs
variable {P : Program} [IsP P]

theorem lo_eFs (a : List Fr) : Lo 0 (eFs a) := lo_Fs a
theorem indexFFs_pf (f : FuncId) (caps : List AV) (p : (List Fr) → Bool) (l : List (List Fr)) (hlo : ∀ a : (List Fr), Lo 0 (eFs a)) (hlc : Lo 0 (.fn f caps)) (hf : ∀ a ∈ l, Pure P f ([eFs a] ++ caps) (eB (p a))) :
    Pure P 47 [eL eFs l, .fn f caps] (eI (firstAt p l)) := by
  refine aw_fn (by rw [IsP.eq (P := P)]; exact Try.func47) rfl rfl rfl rfl rfl (lo_cons (lo_map hlo) (lo_cons hlc lo_nil)) (.s _) (by simp only [argF]; rfl) ?_
  refine aw_bdm (d := 0) rfl (fun hmx => ?_)
  unfold maxLen at hmx
  repeat (first | refine aw_seq ?_ | refine ath_n ?_ | refine aw_skip ?_ | refine abl_n ?_ | refine aw_block ?_)
  refine aw_region ?_
  refine ops_op rfl rfl (runs_none rfl) (mv_s (.inr rfl) rfl) ?_
  refine ops_nil ?_
  repeat (first | refine aw_seq ?_ | refine ath_n ?_ | refine aw_skip ?_ | refine abl_n ?_ | refine aw_block ?_)
  refine aw_region ?_
  first | refine ops_op rfl rfl (runs_none rfl) (mv_own (.inl rfl) rfl) ?_ | refine ops_op rfl rfl (runs_none rfl) (mv_sl (.inl rfl) rfl) ?_ | refine ops_op rfl rfl (runs_none rfl) (mv_s (.inl rfl) rfl) ?_ | refine ops_op rfl rfl (runs_none rfl) (mv_emp (.inl rfl) rfl) ?_
  first | refine ops_op rfl rfl (runs_none rfl) (does_len_map rfl ts22 rfl) ?_ | refine ops_op rfl rfl (runs_none rfl) (does_len_sl rfl ts22 rfl) ?_ | refine ops_op rfl rfl (runs_none rfl) (does_len_own rfl ts22 rfl) ?_ | refine ops_op rfl rfl (runs_none rfl) (does_len_s rfl ts22 rfl) ?_ | refine ops_op rfl rfl (runs_none rfl) (does_len_emp rfl ts22 rfl) ?_
  refine ops_op rfl rfl (runs_none rfl) (mv_s (.inl rfl) rfl) ?_
  refine ops_nil ?_
  repeat (first | refine aw_seq ?_ | refine ath_n ?_ | refine aw_skip ?_ | refine abl_n ?_ | refine aw_block ?_)
  refine aw_loops (S := Nat) (fun k => [(0, eL eFs l), (1, .fn f caps), (7, eI l.length), (8, eI k)]) (fun _ => []) (fun k => k ≤ l.length ∧ ∀ j a, j < k → l[j]? = some a → p a = false) (fun k => l.length - k) 0 (wk_sub _ ⟨rfl, rfl, rfl, rfl, trivial⟩) ⟨by omega, fun j a hj => by omega⟩ (fun k hk => ?_)
  repeat (first | refine aw_seq ?_ | refine ath_n ?_ | refine aw_skip ?_ | refine abl_n ?_ | refine aw_block ?_)
  refine aw_region ?_
  refine ops_op rfl rfl (runs_none rfl) (does_lss rfl rfl rfl) ?_
  refine ops_nil ?_
  repeat (first | refine aw_seq ?_ | refine ath_n ?_ | refine aw_skip ?_ | refine abl_n ?_ | refine aw_block ?_)
  refine aw_if rfl (fun h => ?_) (fun h => ?_)
  · have hlt : k < l.length := by omega
    repeat (first | refine aw_seq ?_ | refine ath_n ?_ | refine aw_skip ?_ | refine abl_n ?_ | refine aw_block ?_)
    refine aw_region ?_
    refine ops_op rfl rfl (runs_none rfl) (mv_s (.inl rfl) rfl) ?_
    refine ops_op rfl rfl (runs_none rfl) (mv_s (.inr rfl) rfl) ?_
    refine ops_nil ?_
    repeat (first | refine aw_seq ?_ | refine ath_n ?_ | refine aw_skip ?_ | refine abl_n ?_ | refine aw_block ?_)
    have hp := hf (gti l k) (gti_mem hlt)
    refine aw_region ?_
    first | refine ops_op rfl rfl (runs_none rfl) (mv_fn (.inl rfl) rfl) ?_ | refine ops_op rfl rfl (runs_none rfl) (mv_s (.inl rfl) rfl) ?_
    first | refine ops_op rfl rfl (runs_none rfl) (mv_own (.inl rfl) rfl) ?_ | refine ops_op rfl rfl (runs_none rfl) (mv_sl (.inl rfl) rfl) ?_ | refine ops_op rfl rfl (runs_none rfl) (mv_s (.inl rfl) rfl) ?_ | refine ops_op rfl rfl (runs_none rfl) (mv_emp (.inl rfl) rfl) ?_
    refine ops_op rfl rfl (runs_none rfl) (mv_s (.inl rfl) rfl) ?_
    first | refine ops_op rfl rfl (runs_none rfl) (does_index_sl rfl ts22 ti36 rfl rfl rfl (ix_map (by omega)) rfl) ?_ | refine ops_op rfl rfl (runs_none rfl) (does_index_own rfl ts22 ti36 rfl rfl rfl (by omega)) ?_
    first | refine ops_op rfl rfl (runs_none rfl) (does_load_ref rfl ta36 rfl) ?_ | refine ops_op rfl rfl (runs_none rfl) (does_load_ptr rfl ta36 rfl rfl rfl rfl rfl) ?_
    refine ops_op rfl rfl (runs_none rfl) (does_call rfl rfl (hp) (evc_cons rfl evc_nil)) ?_
    refine ops_nil ?_
    repeat (first | refine aw_seq ?_ | refine ath_n ?_ | refine aw_skip ?_ | refine abl_n ?_ | refine aw_block ?_)
    refine aw_cond rfl (fun h => ?_) (fun h => ?_)
    · repeat (first | refine aw_seq ?_ | refine ath_n ?_ | refine aw_skip ?_ | refine abl_n ?_ | refine aw_block ?_)
      refine aw_region ?_
      refine ops_op rfl rfl (runs_none rfl) (mv_s (.inl rfl) rfl) ?_
      refine ops_op rfl rfl (runs_none rfl) (mv_s (.inr rfl) rfl) ?_
      refine ops_nil ?_
      repeat (first | refine aw_seq ?_ | refine ath_n ?_ | refine aw_skip ?_ | refine abl_n ?_ | refine aw_block ?_)
      (refine aw_ret ?_; repeat (first | refine ath_r ?_ | refine abl_r ?_))
      exact post1 (.inr rfl) rfl (congrArg eI (firstAt_some (gti_get hlt) h hk.2).symm)
    · repeat (first | refine aw_seq ?_ | refine ath_n ?_ | refine aw_skip ?_ | refine abl_n ?_ | refine aw_block ?_)
      refine aw_region ?_
      refine ops_op rfl rfl (runs_none rfl) (does_add rfl rfl rfl (IntWalk.i64_in _ (by omega))) ?_
      refine ops_op rfl rfl (runs_none rfl) (mv_s (.inl rfl) rfl) ?_
      refine ops_nil ?_
      repeat (first | refine aw_seq ?_ | refine ath_n ?_ | refine aw_skip ?_ | refine abl_n ?_ | refine aw_block ?_)
      refine ⟨k + 1, ⟨by omega, fun j a hj ha => ?_⟩, by omega, wk_sub _ ⟨rfl, rfl, rfl, rfl, trivial⟩⟩
      by_cases e : j = k
      · subst e
        rw [gti_get hlt] at ha
        cases ha
        exact h
      · exact hk.2 j a (by omega) ha
  · (refine aw_exit ?_; repeat (first | refine ath_x ?_ | refine abl_hit ?_ | refine abl_miss rfl ?_ | refine abl_n ?_ | refine ath_n ?_ | refine aw_seq ?_ | refine aw_skip ?_ | refine aw_block ?_))
    refine aw_region ?_
    refine ops_op rfl rfl (runs_none rfl) (mv_s (.inr rfl) rfl) ?_
    refine ops_nil ?_
    repeat (first | refine aw_seq ?_ | refine ath_n ?_ | refine aw_skip ?_ | refine abl_n ?_ | refine aw_block ?_)
    (refine aw_ret ?_; repeat (first | refine ath_r ?_ | refine abl_r ?_))
    exact post1 (.inr rfl) rfl (congrArg eI (firstAt_none (fun j a hj ha => hk.2 j a (by omega) ha)).symm)
theorem containsFFs_pf (f : FuncId) (caps : List AV) (p : (List Fr) → Bool) (l : List (List Fr)) (hlo : ∀ a : (List Fr), Lo 0 (eFs a)) (hlc : Lo 0 (.fn f caps)) (hf : ∀ a ∈ l, Pure P f ([eFs a] ++ caps) (eB (p a))) :
    Pure P 23 [eL eFs l, .fn f caps] (eB (l.any p)) := by
  refine aw_fn (by rw [IsP.eq (P := P)]; exact Try.func23) rfl rfl rfl rfl rfl (lo_cons (lo_map hlo) (lo_cons hlc lo_nil)) (.s _) (by simp only [argF]; rfl) ?_
  have hi := indexFFs_pf f caps p l hlo hlc hf
  repeat (first | refine aw_seq ?_ | refine ath_n ?_ | refine aw_skip ?_ | refine abl_n ?_ | refine aw_block ?_)
  refine aw_region ?_
  refine ops_op rfl rfl (runs_none rfl) (mv_s (.inr rfl) rfl) ?_
  refine ops_nil ?_
  repeat (first | refine aw_seq ?_ | refine ath_n ?_ | refine aw_skip ?_ | refine abl_n ?_ | refine aw_block ?_)
  refine aw_region ?_
  first | refine ops_op rfl rfl (runs_none rfl) (mv_own (.inl rfl) rfl) ?_ | refine ops_op rfl rfl (runs_none rfl) (mv_sl (.inl rfl) rfl) ?_ | refine ops_op rfl rfl (runs_none rfl) (mv_s (.inl rfl) rfl) ?_ | refine ops_op rfl rfl (runs_none rfl) (mv_emp (.inl rfl) rfl) ?_
  first | refine ops_op rfl rfl (runs_none rfl) (mv_fn (.inl rfl) rfl) ?_ | refine ops_op rfl rfl (runs_none rfl) (mv_s (.inl rfl) rfl) ?_
  refine ops_op rfl rfl (runs_none rfl) (does_call rfl rfl (hi) (evc_cons rfl (evc_cons rfl evc_nil))) ?_
  refine ops_op rfl rfl (runs_none rfl) (does_geq rfl rfl rfl) ?_
  refine ops_op rfl rfl (runs_none rfl) (mv_s (.inr rfl) rfl) ?_
  refine ops_nil ?_
  repeat (first | refine aw_seq ?_ | refine ath_n ?_ | refine aw_skip ?_ | refine abl_n ?_ | refine aw_block ?_)
  (refine aw_ret ?_; repeat (first | refine ath_r ?_ | refine abl_r ?_))
  exact post1 (.inr rfl) rfl (congrArg eB (firstAt_any p l))
def eC (m : List (List Fr)) : AV := .agg [eL (eL eF) m]
def validC (m : List (List Fr)) : Bool := decide (1 ≤ (m.length : Int)) && (decide ((m.length : Int) ≤ 20) && m.all fun r => distB r m.length)
theorem valid1_pf (n : Int) (l : List Fr) : Pure P 28 [eL eF l, .ref [eI n]] (eB (!distB l n)) := by
  refine aw_fn (by rw [IsP.eq (P := P)]; exact Try.func28) rfl rfl rfl rfl rfl (by repeat' (first | exact Lo.s _ | exact Lo.emp | exact Lo.any | exact lo_nil | exact lo_nilE | refine lo_cons ?_ ?_ | refine lo_consE ?_ ?_ | refine lo_map ?_ | refine lo_mapE ?_ | refine Lo.cells ?_ | refine Lo.agg _ ?_ | refine Lo.ref _ ?_ | refine Lo.tup _ ?_ | refine Lo.fn _ _ ?_ | refine Lo.sl _ ?_ | intro _)) (by repeat' (first | exact Lo.s _ | exact Lo.emp | exact Lo.any | exact lo_nil | exact lo_nilE | refine lo_cons ?_ ?_ | refine lo_consE ?_ ?_ | refine lo_map ?_ | refine lo_mapE ?_ | refine Lo.cells ?_ | refine Lo.agg _ ?_ | refine Lo.ref _ ?_ | refine Lo.tup _ ?_ | refine Lo.fn _ _ ?_ | refine Lo.sl _ ?_ | intro _)) (by simp only [argF]; rfl) ?_
  repeat (first | refine aw_seq ?_ | refine ath_n ?_ | refine aw_skip ?_ | refine abl_n ?_ | refine aw_block ?_)
  refine aw_region ?_
  refine ops_op rfl rfl (runs_none rfl) (mv_s (.inr rfl) rfl) ?_
  refine ops_nil ?_
  repeat (first | refine aw_seq ?_ | refine ath_n ?_ | refine aw_skip ?_ | refine abl_n ?_ | refine aw_block ?_)
  refine aw_region ?_
  first | refine ops_op rfl rfl (runs_none rfl) (mv_own (.inl rfl) rfl) ?_ | refine ops_op rfl rfl (runs_none rfl) (mv_sl (.inl rfl) rfl) ?_ | refine ops_op rfl rfl (runs_none rfl) (mv_s (.inl rfl) rfl) ?_ | refine ops_op rfl rfl (runs_none rfl) (mv_emp (.inl rfl) rfl) ?_
  first | refine ops_op rfl rfl (runs_none rfl) (does_load_ref rfl ta3 rfl) ?_ | refine ops_op rfl rfl (runs_none rfl) (does_load_ptr rfl ta3 rfl rfl rfl rfl rfl) ?_
  refine ops_op rfl rfl (runs_none rfl) (does_call rfl rfl (dist_pf _ _) (evc_cons rfl (evc_cons rfl evc_nil))) ?_
  first | refine ops_op rfl rfl (runs_none rfl) (does_notp rfl rfl) ?_ | refine ops_op rfl rfl (runs_none rfl) (does_not rfl rfl) ?_
  refine ops_op rfl rfl (runs_none rfl) (mv_s (.inr rfl) rfl) ?_
  refine ops_nil ?_
  repeat (first | refine aw_seq ?_ | refine ath_n ?_ | refine aw_skip ?_ | refine abl_n ?_ | refine aw_block ?_)
  (refine aw_ret ?_; repeat (first | refine ath_r ?_ | refine abl_r ?_))
  exact post1 (.inr rfl) rfl rfl
set_option maxHeartbeats 1000000 in
theorem mValid_pf (m : List (List Fr)) : Pure P 8 [eC m] (eB (validC m)) := by
  have hc : Pure P 23 [eL (eL eF) m, .fn 28 [.ref [eI m.length]]] (eB (m.any fun r => !distB r m.length)) := containsFFs_pf (P := P) 28 [.ref [eI m.length]] (fun r => !distB r m.length) m lo_eFs (.fn _ _ (by intro c hc; simp at hc; subst hc; exact .ref _ (by intro c hc; simp at hc; subst hc; exact .s _))) (fun a _ => valid1_pf _ a)
  have hd : validC m = (decide (1 ≤ (m.length : Int)) && (decide ((m.length : Int) ≤ 20) && !(m.any fun r => !distB r m.length))) := by
    unfold validC; rw [show (m.all fun r => distB r m.length) = !(m.any fun r => !distB r m.length) by rw [List.all_eq_not_any_not]]
  generalize (m.any fun r => !distB r m.length) = z at hc hd
  generalize validC m = R at hd ⊢
  refine aw_fn (by rw [IsP.eq (P := P)]; exact Try.func8) rfl rfl rfl rfl rfl (by repeat' (first | exact Lo.s _ | exact Lo.emp | exact Lo.any | exact lo_nil | exact lo_nilE | refine lo_cons ?_ ?_ | refine lo_consE ?_ ?_ | refine lo_map ?_ | refine lo_mapE ?_ | refine Lo.cells ?_ | refine Lo.agg _ ?_ | refine Lo.ref _ ?_ | refine Lo.tup _ ?_ | refine Lo.fn _ _ ?_ | refine Lo.sl _ ?_ | intro _)) (by repeat' (first | exact Lo.s _ | exact Lo.emp | exact Lo.any | exact lo_nil | exact lo_nilE | refine lo_cons ?_ ?_ | refine lo_consE ?_ ?_ | refine lo_map ?_ | refine lo_mapE ?_ | refine Lo.cells ?_ | refine Lo.agg _ ?_ | refine Lo.ref _ ?_ | refine Lo.tup _ ?_ | refine Lo.fn _ _ ?_ | refine Lo.sl _ ?_ | intro _)) (by simp only [argF]; rfl) ?_
  repeat (first | refine aw_seq ?_ | refine ath_n ?_ | refine aw_skip ?_ | refine abl_n ?_ | refine aw_block ?_)
  refine aw_region ?_
  refine ops_op rfl rfl (runs_none rfl) (does_box rfl rfl rfl rfl) ?_
  refine aops_weak (wk_froz (id := 0) rfl) (aops_weak (wk_ref (d := 1) rfl rfl rfl) ?_)
  refine ops_op rfl rfl (runs_none rfl) (mv_s (.inr rfl) rfl) ?_
  refine ops_nil ?_
  repeat (first | refine aw_seq ?_ | refine ath_n ?_ | refine aw_skip ?_ | refine abl_n ?_ | refine aw_block ?_)
  refine aw_region ?_
  first | refine ops_op rfl rfl (runs_none rfl) (does_fieldAddr_ptr rfl tf24_0 (by decide) rfl) ?_ | refine ops_op rfl rfl (runs_none rfl) (does_fieldAddr_ref rfl tf24_0 (by decide) rfl) ?_
  first | refine ops_op rfl rfl (runs_none rfl) (does_load_ref rfl ta22 rfl) ?_ | refine ops_op rfl rfl (runs_none rfl) (does_load_ptr rfl ta22 rfl rfl rfl rfl rfl) ?_
  first | refine ops_op rfl rfl (runs_none rfl) (does_len_map rfl ts22 rfl) ?_ | refine ops_op rfl rfl (runs_none rfl) (does_len_sl rfl ts22 rfl) ?_ | refine ops_op rfl rfl (runs_none rfl) (does_len_own rfl ts22 rfl) ?_ | refine ops_op rfl rfl (runs_none rfl) (does_len_s rfl ts22 rfl) ?_ | refine ops_op rfl rfl (runs_none rfl) (does_len_emp rfl ts22 rfl) ?_
  refine ops_op rfl rfl (runs_none rfl) (does_alloc rfl ti3 rfl rfl) ?_
  refine ops_eff rfl (runs_none rfl) (does_store rfl ti3 rfl rfl rfl rfl rfl rfl (by decide) (by decide)) ?_
  refine ops_nil ?_
  repeat (first | refine aw_seq ?_ | refine ath_n ?_ | refine aw_skip ?_ | refine abl_n ?_ | refine aw_block ?_)
  refine aw_weak (wk_froz (id := 1) rfl) ?_
  refine aw_weak (wk_ref (d := 3) rfl rfl rfl) ?_
  all_goals refine aw_region ?_
  all_goals (first | refine ops_op rfl rfl (runs_none rfl) (does_load_ref rfl ta3 rfl) ?_ | refine ops_op rfl rfl (runs_none rfl) (does_load_ptr rfl ta3 rfl rfl rfl rfl rfl) ?_)
  all_goals (first | refine ops_opP rfl rfl (runs_none rfl) (does_geq rfl rfl rfl) (fun h8 => ?_) (fun h8 => ?_) | refine ops_opB rfl rfl (runs_none rfl) (does_geq rfl rfl rfl) (fun h8 => ?_) (fun h8 => ?_))
  all_goals refine ops_op rfl rfl (runs_none rfl) (mv_s (.inl rfl) rfl) ?_
  all_goals (first | refine ops_op rfl rfl (runs_y rfl rfl rfl) (does_load_ref rfl ta3 rfl) ?_ | refine ops_op rfl rfl (runs_y rfl rfl rfl) (does_load_ptr rfl ta3 rfl rfl rfl rfl rfl) ?_ | refine ops_skip rfl rfl (runs_nt rfl rfl rfl) ?_ | refine ops_skip rfl rfl (runs_nu rfl rfl rfl) ?_)
  all_goals (first | refine ops_opP rfl rfl (runs_y rfl rfl rfl) (does_leq rfl rfl rfl) (fun h11 => ?_) (fun h11 => ?_) | refine ops_opB rfl rfl (runs_y rfl rfl rfl) (does_leq rfl rfl rfl) (fun h11 => ?_) (fun h11 => ?_) | refine ops_skip rfl rfl (runs_nt rfl rfl rfl) ?_ | refine ops_skip rfl rfl (runs_nu rfl rfl rfl) ?_)
  all_goals (first | refine ops_op rfl rfl (runs_none rfl) (pickT_s rfl rfl rfl) ?_ | refine ops_op rfl rfl (runs_none rfl) (pickF_s rfl rfl rfl) ?_ | refine ops_op rfl rfl (runs_none rfl) (does_pickT rfl rfl rfl) ?_ | refine ops_op rfl rfl (runs_none rfl) (does_pickF rfl rfl rfl) ?_)
  all_goals refine ops_op rfl rfl (runs_none rfl) (mv_s (.inl rfl) rfl) ?_
  all_goals (first | refine ops_op rfl rfl (runs_y rfl rfl rfl) (does_fieldAddr_ptr rfl tf24_0 (by decide) rfl) ?_ | refine ops_op rfl rfl (runs_y rfl rfl rfl) (does_fieldAddr_ref rfl tf24_0 (by decide) rfl) ?_ | refine ops_skip rfl rfl (runs_nt rfl rfl rfl) ?_ | refine ops_skip rfl rfl (runs_nu rfl rfl rfl) ?_)
  all_goals (first | refine ops_op rfl rfl (runs_y rfl rfl rfl) (does_load_ref rfl ta22 rfl) ?_ | refine ops_op rfl rfl (runs_y rfl rfl rfl) (does_load_ptr rfl ta22 rfl rfl rfl rfl rfl) ?_ | refine ops_skip rfl rfl (runs_nt rfl rfl rfl) ?_ | refine ops_skip rfl rfl (runs_nu rfl rfl rfl) ?_)
  all_goals (first | refine ops_op rfl rfl (runs_y rfl rfl rfl) (does_func rfl rfl) ?_ | refine ops_skip rfl rfl (runs_nt rfl rfl rfl) ?_ | refine ops_skip rfl rfl (runs_nu rfl rfl rfl) ?_)
  all_goals (first | refine ops_opP rfl rfl (runs_y rfl rfl rfl) (does_call rfl rfl (hc) (evc_cons rfl (evc_cons rfl evc_nil))) (fun h17 => ?_) (fun h17 => ?_) | refine ops_opB rfl rfl (runs_y rfl rfl rfl) (does_call rfl rfl (hc) (evc_cons rfl (evc_cons rfl evc_nil))) (fun h17 => ?_) (fun h17 => ?_) | refine ops_skip rfl rfl (runs_nt rfl rfl rfl) ?_ | refine ops_skip rfl rfl (runs_nu rfl rfl rfl) ?_)
  all_goals (first | refine ops_op rfl rfl (runs_y rfl rfl rfl) (does_notp rfl rfl) ?_ | refine ops_op rfl rfl (runs_y rfl rfl rfl) (does_not rfl rfl) ?_ | refine ops_skip rfl rfl (runs_nt rfl rfl rfl) ?_ | refine ops_skip rfl rfl (runs_nu rfl rfl rfl) ?_)
  all_goals (first | refine ops_op rfl rfl (runs_none rfl) (pickT_s rfl rfl rfl) ?_ | refine ops_op rfl rfl (runs_none rfl) (pickF_s rfl rfl rfl) ?_ | refine ops_op rfl rfl (runs_none rfl) (does_pickT rfl rfl rfl) ?_ | refine ops_op rfl rfl (runs_none rfl) (does_pickF rfl rfl rfl) ?_)
  all_goals refine ops_op rfl rfl (runs_none rfl) (mv_s (.inr rfl) rfl) ?_
  all_goals refine ops_nil ?_
  all_goals (repeat (first | refine aw_seq ?_ | refine ath_n ?_ | refine aw_skip ?_ | refine abl_n ?_ | refine aw_block ?_))
  all_goals (refine aw_ret ?_; repeat (first | refine ath_r ?_ | refine abl_r ?_))
  all_goals exact post1 (.inr rfl) rfl (congrArg eB (by
    rw [hd]
    first
    | (rw [decide_eq_false (show ¬ (1 ≤ (m.length : Int)) by omega)]; rfl)
    | (rw [decide_eq_true (show (1 ≤ (m.length : Int)) by omega), decide_eq_false (show ¬ ((m.length : Int) ≤ 20) by omega)]; rfl)
    | (rw [decide_eq_true (show (1 ≤ (m.length : Int)) by omega), decide_eq_true (show ((m.length : Int) ≤ 20) by omega), h17]; rfl)))
set_option maxHeartbeats 1000000 in
theorem qValid_pf (m : List (List Fr)) : Pure P 9 [eC m] (eB (validC m)) := by
  have hd : validC m = (decide (1 ≤ (m.length : Int)) && (decide ((m.length : Int) ≤ 20) && m.all fun r => distB r m.length)) := rfl
  generalize validC m = R at hd ⊢
  refine aw_fn (by rw [IsP.eq (P := P)]; exact Try.func9) rfl rfl rfl rfl rfl (by repeat' (first | exact Lo.s _ | exact Lo.emp | exact Lo.any | exact lo_nil | exact lo_nilE | refine lo_cons ?_ ?_ | refine lo_consE ?_ ?_ | refine lo_map ?_ | refine lo_mapE ?_ | refine Lo.cells ?_ | refine Lo.agg _ ?_ | refine Lo.ref _ ?_ | refine Lo.tup _ ?_ | refine Lo.fn _ _ ?_ | refine Lo.sl _ ?_ | intro _)) (by repeat' (first | exact Lo.s _ | exact Lo.emp | exact Lo.any | exact lo_nil | exact lo_nilE | refine lo_cons ?_ ?_ | refine lo_consE ?_ ?_ | refine lo_map ?_ | refine lo_mapE ?_ | refine Lo.cells ?_ | refine Lo.agg _ ?_ | refine Lo.ref _ ?_ | refine Lo.tup _ ?_ | refine Lo.fn _ _ ?_ | refine Lo.sl _ ?_ | intro _)) (by simp only [argF]; rfl) ?_
  repeat (first | refine aw_seq ?_ | refine ath_n ?_ | refine aw_skip ?_ | refine abl_n ?_ | refine aw_block ?_)
  refine aw_region ?_
  refine ops_op rfl rfl (runs_none rfl) (does_box rfl rfl rfl rfl) ?_
  refine aops_weak (wk_froz (id := 0) rfl) (aops_weak (wk_ref (d := 1) rfl rfl rfl) ?_)
  refine ops_op rfl rfl (runs_none rfl) (mv_s (.inr rfl) rfl) ?_
  refine ops_nil ?_
  repeat (first | refine aw_seq ?_ | refine ath_n ?_ | refine aw_skip ?_ | refine abl_n ?_ | refine aw_block ?_)
  refine aw_region ?_
  first | refine ops_op rfl rfl (runs_none rfl) (does_fieldAddr_ptr rfl tf24_0 (by decide) rfl) ?_ | refine ops_op rfl rfl (runs_none rfl) (does_fieldAddr_ref rfl tf24_0 (by decide) rfl) ?_
  first | refine ops_op rfl rfl (runs_none rfl) (does_load_ref rfl ta22 rfl) ?_ | refine ops_op rfl rfl (runs_none rfl) (does_load_ptr rfl ta22 rfl rfl rfl rfl rfl) ?_
  first | refine ops_op rfl rfl (runs_none rfl) (does_len_map rfl ts22 rfl) ?_ | refine ops_op rfl rfl (runs_none rfl) (does_len_sl rfl ts22 rfl) ?_ | refine ops_op rfl rfl (runs_none rfl) (does_len_own rfl ts22 rfl) ?_ | refine ops_op rfl rfl (runs_none rfl) (does_len_s rfl ts22 rfl) ?_ | refine ops_op rfl rfl (runs_none rfl) (does_len_emp rfl ts22 rfl) ?_
  refine ops_op rfl rfl (runs_none rfl) (mv_s (.inr rfl) rfl) ?_
  refine ops_nil ?_
  repeat (first | refine aw_seq ?_ | refine ath_n ?_ | refine aw_skip ?_ | refine abl_n ?_ | refine aw_block ?_)
  all_goals refine aw_region ?_
  all_goals refine ops_op rfl rfl (runs_none rfl) (mv_s (.inl rfl) rfl) ?_
  all_goals (first | refine ops_opP rfl rfl (runs_none rfl) (does_lss rfl rfl rfl) (fun h9 => ?_) (fun h9 => ?_) | refine ops_opB rfl rfl (runs_none rfl) (does_lss rfl rfl rfl) (fun h9 => ?_) (fun h9 => ?_))
  all_goals refine ops_op rfl rfl (runs_none rfl) (mv_s (.inl rfl) rfl) ?_
  all_goals (first | refine ops_op rfl rfl (runs_y rfl rfl rfl) (mv_s (.inl rfl) rfl) ?_ | refine ops_skip rfl rfl (runs_nf rfl rfl rfl) ?_ | refine ops_skip rfl rfl (runs_nu rfl rfl rfl) ?_)
  all_goals (first | refine ops_opP rfl rfl (runs_y rfl rfl rfl) (does_gtr rfl rfl rfl) (fun h12 => ?_) (fun h12 => ?_) | refine ops_opB rfl rfl (runs_y rfl rfl rfl) (does_gtr rfl rfl rfl) (fun h12 => ?_) (fun h12 => ?_) | refine ops_skip rfl rfl (runs_nf rfl rfl rfl) ?_ | refine ops_skip rfl rfl (runs_nu rfl rfl rfl) ?_)
  all_goals (first | refine ops_op rfl rfl (runs_none rfl) (pickT_s rfl rfl rfl) ?_ | refine ops_op rfl rfl (runs_none rfl) (pickF_s rfl rfl rfl) ?_ | refine ops_op rfl rfl (runs_none rfl) (does_pickT rfl rfl rfl) ?_ | refine ops_op rfl rfl (runs_none rfl) (does_pickF rfl rfl rfl) ?_)
  all_goals refine ops_nil ?_
  all_goals (repeat (first | refine aw_seq ?_ | refine ath_n ?_ | refine aw_skip ?_ | refine abl_n ?_ | refine aw_block ?_))
  all_goals (first | refine aw_true rfl ?_ | refine aw_false rfl ?_)
  all_goals (repeat (first | refine aw_seq ?_ | refine ath_n ?_ | refine aw_skip ?_ | refine abl_n ?_ | refine aw_block ?_))
  all_goals first
    | skip
      refine aw_region ?_
      refine ops_op rfl rfl (runs_none rfl) (mv_s (.inr rfl) rfl) ?_
      refine ops_nil ?_
      repeat (first | refine aw_seq ?_ | refine ath_n ?_ | refine aw_skip ?_ | refine abl_n ?_ | refine aw_block ?_)
      (refine aw_ret ?_; repeat (first | refine ath_r ?_ | refine abl_r ?_))
      exact post1 (.inr rfl) rfl (congrArg eB (by
        rw [hd]
        first
        | (rw [decide_eq_false (show ¬ (1 ≤ (m.length : Int)) by omega)]; rfl)
        | (rw [decide_eq_true (show (1 ≤ (m.length : Int)) by omega), decide_eq_false (show ¬ ((m.length : Int) ≤ 20) by omega)]; rfl)))
    | skip
  rw [decide_eq_true (show (1 ≤ (m.length : Int)) by omega), decide_eq_true (show ((m.length : Int) ≤ 20) by omega)] at hd
  refine aw_region ?_
  refine ops_op rfl rfl (runs_none rfl) (mv_s (.inr rfl) rfl) ?_
  refine ops_nil ?_
  repeat (first | refine aw_seq ?_ | refine ath_n ?_ | refine aw_skip ?_ | refine abl_n ?_ | refine aw_block ?_)
  refine aw_loops (S := Nat) (fun k => [(1, .ref (eC m).cells), (3, eI m.length), (4, eI k)]) (fun _ => []) (fun k => k ≤ m.length ∧ ∀ j, j < k → distB (gti m j) m.length = true) (fun k => m.length - k) 0 (wk_st [] (by decide) trivial ⟨.lo _ (by repeat' (first | exact Lo.s _ | exact Lo.emp | exact Lo.any | exact lo_nil | exact lo_nilE | refine lo_cons ?_ ?_ | refine lo_consE ?_ ?_ | refine lo_map ?_ | refine lo_mapE ?_ | refine Lo.cells ?_ | refine Lo.agg _ ?_ | refine Lo.ref _ ?_ | refine Lo.tup _ ?_ | refine Lo.fn _ _ ?_ | refine Lo.sl _ ?_ | intro _)), .lo _ (by repeat' (first | exact Lo.s _ | exact Lo.emp | exact Lo.any | exact lo_nil | exact lo_nilE | refine lo_cons ?_ ?_ | refine lo_consE ?_ ?_ | refine lo_map ?_ | refine lo_mapE ?_ | refine Lo.cells ?_ | refine Lo.agg _ ?_ | refine Lo.ref _ ?_ | refine Lo.tup _ ?_ | refine Lo.fn _ _ ?_ | refine Lo.sl _ ?_ | intro _)), .lo _ (by repeat' (first | exact Lo.s _ | exact Lo.emp | exact Lo.any | exact lo_nil | exact lo_nilE | refine lo_cons ?_ ?_ | refine lo_consE ?_ ?_ | refine lo_map ?_ | refine lo_mapE ?_ | refine Lo.cells ?_ | refine Lo.agg _ ?_ | refine Lo.ref _ ?_ | refine Lo.tup _ ?_ | refine Lo.fn _ _ ?_ | refine Lo.sl _ ?_ | intro _)), trivial⟩) ⟨by omega, fun j hj => by omega⟩ (fun k hk => ?_)
  repeat (first | refine aw_seq ?_ | refine ath_n ?_ | refine aw_skip ?_ | refine abl_n ?_ | refine aw_block ?_)
  all_goals refine aw_region ?_
  all_goals refine ops_op rfl rfl (runs_none rfl) (mv_s (.inl rfl) rfl) ?_
  all_goals refine ops_op rfl rfl (runs_none rfl) (mv_s (.inl rfl) rfl) ?_
  all_goals (first | refine ops_opP rfl rfl (runs_none rfl) (does_lss rfl rfl rfl) (fun h16 => ?_) (fun h16 => ?_) | refine ops_opB rfl rfl (runs_none rfl) (does_lss rfl rfl rfl) (fun h16 => ?_) (fun h16 => ?_))
  all_goals refine ops_nil ?_
  all_goals (repeat (first | refine aw_seq ?_ | refine ath_n ?_ | refine aw_skip ?_ | refine abl_n ?_ | refine aw_block ?_))
  all_goals (first | refine aw_true rfl ?_ | refine aw_false rfl ?_)
  all_goals (repeat (first | refine aw_seq ?_ | refine ath_n ?_ | refine aw_skip ?_ | refine abl_n ?_ | refine aw_block ?_))
  · have hlt : k < m.length := by omega
    have hr := rdist_pf (P := P) (gti m k) m.length
    generalize hz : distB (gti m k) m.length = z at hr
    all_goals refine aw_region ?_
    all_goals (first | refine ops_op rfl rfl (runs_none rfl) (does_fieldAddr_ptr rfl tf24_0 (by decide) rfl) ?_ | refine ops_op rfl rfl (runs_none rfl) (does_fieldAddr_ref rfl tf24_0 (by decide) rfl) ?_)
    all_goals (first | refine ops_op rfl rfl (runs_none rfl) (does_load_ref rfl ta22 rfl) ?_ | refine ops_op rfl rfl (runs_none rfl) (does_load_ptr rfl ta22 rfl rfl rfl rfl rfl) ?_)
    all_goals refine ops_op rfl rfl (runs_none rfl) (mv_s (.inl rfl) rfl) ?_
    all_goals (first | refine ops_op rfl rfl (runs_none rfl) (does_index_sl rfl ts22 ti36 rfl rfl rfl (ix_map (by omega)) rfl) ?_ | refine ops_op rfl rfl (runs_none rfl) (does_index_own rfl ts22 ti36 rfl rfl rfl (by omega)) ?_)
    all_goals (first | refine ops_op rfl rfl (runs_none rfl) (does_load_ref rfl ta36 rfl) ?_ | refine ops_op rfl rfl (runs_none rfl) (does_load_ptr rfl ta36 rfl rfl rfl rfl rfl) ?_)
    all_goals refine ops_op rfl rfl (runs_none rfl) (mv_s (.inl rfl) rfl) ?_
    all_goals (first | refine ops_opP rfl rfl (runs_none rfl) (does_call rfl rfl (hr) (evc_cons rfl (evc_cons rfl evc_nil))) (fun h25 => ?_) (fun h25 => ?_) | refine ops_opB rfl rfl (runs_none rfl) (does_call rfl rfl (hr) (evc_cons rfl (evc_cons rfl evc_nil))) (fun h25 => ?_) (fun h25 => ?_))
    all_goals (first | refine ops_op rfl rfl (runs_none rfl) (does_notp rfl rfl) ?_ | refine ops_op rfl rfl (runs_none rfl) (does_not rfl rfl) ?_)
    all_goals refine ops_nil ?_
    all_goals (repeat (first | refine aw_seq ?_ | refine ath_n ?_ | refine aw_skip ?_ | refine abl_n ?_ | refine aw_block ?_))
    all_goals (first | refine aw_true rfl ?_ | refine aw_false rfl ?_)
    all_goals (repeat (first | refine aw_seq ?_ | refine ath_n ?_ | refine aw_skip ?_ | refine abl_n ?_ | refine aw_block ?_))
    all_goals first
      | skip
        refine aw_region ?_
        refine ops_op rfl rfl (runs_none rfl) (mv_s (.inr rfl) rfl) ?_
        refine ops_nil ?_
        repeat (first | refine aw_seq ?_ | refine ath_n ?_ | refine aw_skip ?_ | refine abl_n ?_ | refine aw_block ?_)
        (refine aw_ret ?_; repeat (first | refine ath_r ?_ | refine abl_r ?_))
        exact post1 (.inr rfl) rfl (congrArg eB (by rw [hd, all_f (p := fun r => distB r m.length) hlt (hz.trans h25)]; rfl))
      | skip
        refine aw_region ?_
        refine ops_op rfl rfl (runs_none rfl) (mv_s (.inl rfl) rfl) ?_
        refine ops_op rfl rfl (runs_none rfl) (does_add rfl rfl rfl (IntWalk.i64_in _ (by omega))) ?_
        refine ops_op rfl rfl (runs_none rfl) (mv_s (.inr rfl) rfl) ?_
        refine ops_nil ?_
        repeat (first | refine aw_seq ?_ | refine ath_n ?_ | refine aw_skip ?_ | refine abl_n ?_ | refine aw_block ?_)
        refine ⟨k + 1, ⟨by omega, fun j hj => ?_⟩, by omega, wk_st [] (by decide) trivial ⟨.lo _ (by repeat' (first | exact Lo.s _ | exact Lo.emp | exact Lo.any | exact lo_nil | exact lo_nilE | refine lo_cons ?_ ?_ | refine lo_consE ?_ ?_ | refine lo_map ?_ | refine lo_mapE ?_ | refine Lo.cells ?_ | refine Lo.agg _ ?_ | refine Lo.ref _ ?_ | refine Lo.tup _ ?_ | refine Lo.fn _ _ ?_ | refine Lo.sl _ ?_ | intro _)), .lo _ (by repeat' (first | exact Lo.s _ | exact Lo.emp | exact Lo.any | exact lo_nil | exact lo_nilE | refine lo_cons ?_ ?_ | refine lo_consE ?_ ?_ | refine lo_map ?_ | refine lo_mapE ?_ | refine Lo.cells ?_ | refine Lo.agg _ ?_ | refine Lo.ref _ ?_ | refine Lo.tup _ ?_ | refine Lo.fn _ _ ?_ | refine Lo.sl _ ?_ | intro _)), .lo _ (by repeat' (first | exact Lo.s _ | exact Lo.emp | exact Lo.any | exact lo_nil | exact lo_nilE | refine lo_cons ?_ ?_ | refine lo_consE ?_ ?_ | refine lo_map ?_ | refine lo_mapE ?_ | refine Lo.cells ?_ | refine Lo.agg _ ?_ | refine Lo.ref _ ?_ | refine Lo.tup _ ?_ | refine Lo.fn _ _ ?_ | refine Lo.sl _ ?_ | intro _)), trivial⟩⟩
        by_cases e : j = k
        · subst e; exact hz.trans h25
        · exact hk.2 j (by omega)
  · (refine aw_exit ?_; repeat (first | refine ath_x ?_ | refine abl_hit ?_ | refine abl_miss rfl ?_ | refine abl_n ?_ | refine ath_n ?_ | refine aw_seq ?_ | refine aw_skip ?_ | refine aw_block ?_))
    refine aw_region ?_
    refine ops_op rfl rfl (runs_none rfl) (mv_s (.inr rfl) rfl) ?_
    refine ops_nil ?_
    repeat (first | refine aw_seq ?_ | refine ath_n ?_ | refine aw_skip ?_ | refine abl_n ?_ | refine aw_block ?_)
    (refine aw_ret ?_; repeat (first | refine ath_r ?_ | refine abl_r ?_))
    exact post1 (.inr rfl) rfl (congrArg eB (by rw [hd, all_t (p := fun r => distB r m.length) (fun j hj => hk.2 j (by omega))]; rfl))
def colM (m : List (List Fr)) (j : Nat) : List Fr := m.map fun r => gti r j
theorem colM_len (m : List (List Fr)) (j : Nat) : (colM m j).length = m.length := by simp [colM]
theorem colM_gti {m : List (List Fr)} {j k : Nat} (h : k < m.length) : gti (colM m j) k = gti (gti m k) j := by
  have h1 : (colM m j)[k]? = some (gti (gti m k) j) := by
    unfold colM
    rw [List.getElem?_map, gti_get h]; rfl
  unfold gti at *
  rw [h1]; rfl
end Go.Proofs.Ytjkdeidjmejmeaa.Aw
end
section
namespace Go.Proofs.Ytjkdeidjmejmeaa.Aw
set_option linter.unusedSimpArgs false
set_option linter.unusedVariables false
set_option linter.unusedSectionVars false
open Go.RowKit Go.Proofs
variable {P : Program} [IsP P]

def eBI (r : Bool × Int) : AV := .tup [eB r.1, eI r.2]
theorem post_bi {N : Nat} {F : Frm} {σ : List Ob} {t u : Nat} {r : Bool × Int} {b : Bool} {n : Int} {e : Exit} (he : e = .normal ∨ e = .ret) (h : F.get t = eB b) (h' : F.get u = eI n) (hr : r = (b, n)) : APost P [.tmp t, .tmp u] (eBI r) e F σ := by
  subst hr
  exact post2 he h h' (.refl _) (.refl _)
end Go.Proofs.Ytjkdeidjmejmeaa.Aw
end
