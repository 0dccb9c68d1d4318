/-
  Texts joined: SxJ, EvL, Rw, Rx, SxL. Conditions: none.
-/
import Derived.Test.YtcpnffjnagbkoaaJP15
import Derived.Test.YtcpnffjnagbkoaaJP16
import Derived.Test.YtcpnffjnagbkoaaJP11
import Derived.Test.YtcpnffjnagbkoaaJP5
import Derived.Test.YtcpnffjnagbkoaaJP8
import Derived.Test.YtcpnffjnagbkoaaJP10
import Derived.Test.YtcpnffjnagbkoaaJP14
section
namespace Go.Proofs.Ytcpnffjnagbkoaa.Aw
set_option linter.unusedSimpArgs false
set_option linter.unusedVariables false
set_option linter.unusedSectionVars false
open Go.RowKit Go.Proofs
variable {P : Program} [IsP P]

theorem lo_eFs (a : List Fr) : Lo 0 (eFs a) := lo_Fs a
theorem indexFFs_pf (f : FuncId) (caps : List AV) (p : (List Fr) → Bool) (l : List (List Fr)) (hlo : ∀ a : (List Fr), Lo 0 (eFs a)) (hlc : Lo 0 (.fn f caps)) (hf : ∀ a ∈ l, Pure P f ([eFs a] ++ caps) (eB (p a))) :
    Pure P 44 [eL eFs l, .fn f caps] (eI (firstAt p l)) := by
  refine aw_fn (by rw [IsP.eq (P := P)]; exact Try.func44) rfl rfl rfl rfl rfl (lo_cons (lo_map hlo) (lo_cons hlc lo_nil)) (.s _) (by simp only [argF]; rfl) ?_
  refine aw_bdm (d := 0) rfl (fun hmx => ?_)
  unfold maxLen at hmx
  repeat (first | refine aw_seq ?_ | refine ath_n ?_ | refine aw_skip ?_ | refine abl_n ?_ | refine aw_block ?_)
  refine aw_region ?_
  refine ops_op rfl rfl (runs_none rfl) (mv_s (.inr rfl) rfl) ?_
  refine ops_nil ?_
  repeat (first | refine aw_seq ?_ | refine ath_n ?_ | refine aw_skip ?_ | refine abl_n ?_ | refine aw_block ?_)
  refine aw_region ?_
  first | refine ops_op rfl rfl (runs_none rfl) (mv_own (.inl rfl) rfl) ?_ | refine ops_op rfl rfl (runs_none rfl) (mv_sl (.inl rfl) rfl) ?_ | refine ops_op rfl rfl (runs_none rfl) (mv_s (.inl rfl) rfl) ?_ | refine ops_op rfl rfl (runs_none rfl) (mv_emp (.inl rfl) rfl) ?_
  first | refine ops_op rfl rfl (runs_none rfl) (does_len_map rfl ts23 rfl) ?_ | refine ops_op rfl rfl (runs_none rfl) (does_len_sl rfl ts23 rfl) ?_ | refine ops_op rfl rfl (runs_none rfl) (does_len_own rfl ts23 rfl) ?_ | refine ops_op rfl rfl (runs_none rfl) (does_len_s rfl ts23 rfl) ?_ | refine ops_op rfl rfl (runs_none rfl) (does_len_emp rfl ts23 rfl) ?_
  refine ops_op rfl rfl (runs_none rfl) (mv_s (.inl rfl) rfl) ?_
  refine ops_nil ?_
  repeat (first | refine aw_seq ?_ | refine ath_n ?_ | refine aw_skip ?_ | refine abl_n ?_ | refine aw_block ?_)
  refine aw_loops (S := Nat) (fun k => [(0, eL eFs l), (1, .fn f caps), (7, eI l.length), (8, eI k)]) (fun _ => []) (fun k => k ≤ l.length ∧ ∀ j a, j < k → l[j]? = some a → p a = false) (fun k => l.length - k) 0 (wk_sub _ ⟨rfl, rfl, rfl, rfl, trivial⟩) ⟨by omega, fun j a hj => by omega⟩ (fun k hk => ?_)
  repeat (first | refine aw_seq ?_ | refine ath_n ?_ | refine aw_skip ?_ | refine abl_n ?_ | refine aw_block ?_)
  refine aw_region ?_
  refine ops_op rfl rfl (runs_none rfl) (does_lss rfl rfl rfl) ?_
  refine ops_nil ?_
  repeat (first | refine aw_seq ?_ | refine ath_n ?_ | refine aw_skip ?_ | refine abl_n ?_ | refine aw_block ?_)
  refine aw_if rfl (fun h => ?_) (fun h => ?_)
  · have hlt : k < l.length := by omega
    repeat (first | refine aw_seq ?_ | refine ath_n ?_ | refine aw_skip ?_ | refine abl_n ?_ | refine aw_block ?_)
    refine aw_region ?_
    refine ops_op rfl rfl (runs_none rfl) (mv_s (.inl rfl) rfl) ?_
    refine ops_op rfl rfl (runs_none rfl) (mv_s (.inr rfl) rfl) ?_
    refine ops_nil ?_
    repeat (first | refine aw_seq ?_ | refine ath_n ?_ | refine aw_skip ?_ | refine abl_n ?_ | refine aw_block ?_)
    have hp := hf (gti l k) (gti_mem hlt)
    refine aw_region ?_
    first | refine ops_op rfl rfl (runs_none rfl) (mv_fn (.inl rfl) rfl) ?_ | refine ops_op rfl rfl (runs_none rfl) (mv_s (.inl rfl) rfl) ?_
    first | refine ops_op rfl rfl (runs_none rfl) (mv_own (.inl rfl) rfl) ?_ | refine ops_op rfl rfl (runs_none rfl) (mv_sl (.inl rfl) rfl) ?_ | refine ops_op rfl rfl (runs_none rfl) (mv_s (.inl rfl) rfl) ?_ | refine ops_op rfl rfl (runs_none rfl) (mv_emp (.inl rfl) rfl) ?_
    refine ops_op rfl rfl (runs_none rfl) (mv_s (.inl rfl) rfl) ?_
    first | refine ops_op rfl rfl (runs_none rfl) (does_index_sl rfl ts23 ti22 rfl rfl rfl (ix_map (by omega)) rfl) ?_ | refine ops_op rfl rfl (runs_none rfl) (does_index_own rfl ts23 ti22 rfl rfl rfl (by omega)) ?_
    first | refine ops_op rfl rfl (runs_none rfl) (does_load_ref rfl ta22 rfl) ?_ | refine ops_op rfl rfl (runs_none rfl) (does_load_ptr rfl ta22 rfl rfl rfl rfl rfl) ?_
    refine ops_op rfl rfl (runs_none rfl) (does_call rfl rfl (hp) (evc_cons rfl evc_nil)) ?_
    refine ops_nil ?_
    repeat (first | refine aw_seq ?_ | refine ath_n ?_ | refine aw_skip ?_ | refine abl_n ?_ | refine aw_block ?_)
    refine aw_cond rfl (fun h => ?_) (fun h => ?_)
    · repeat (first | refine aw_seq ?_ | refine ath_n ?_ | refine aw_skip ?_ | refine abl_n ?_ | refine aw_block ?_)
      refine aw_region ?_
      refine ops_op rfl rfl (runs_none rfl) (mv_s (.inl rfl) rfl) ?_
      refine ops_op rfl rfl (runs_none rfl) (mv_s (.inr rfl) rfl) ?_
      refine ops_nil ?_
      repeat (first | refine aw_seq ?_ | refine ath_n ?_ | refine aw_skip ?_ | refine abl_n ?_ | refine aw_block ?_)
      (refine aw_ret ?_; repeat (first | refine ath_r ?_ | refine abl_r ?_))
      exact post1 (.inr rfl) rfl (congrArg eI (firstAt_some (gti_get hlt) h hk.2).symm)
    · repeat (first | refine aw_seq ?_ | refine ath_n ?_ | refine aw_skip ?_ | refine abl_n ?_ | refine aw_block ?_)
      refine aw_region ?_
      refine ops_op rfl rfl (runs_none rfl) (does_add rfl rfl rfl (IntWalk.i64_in _ (by omega))) ?_
      refine ops_op rfl rfl (runs_none rfl) (mv_s (.inl rfl) rfl) ?_
      refine ops_nil ?_
      repeat (first | refine aw_seq ?_ | refine ath_n ?_ | refine aw_skip ?_ | refine abl_n ?_ | refine aw_block ?_)
      refine ⟨k + 1, ⟨by omega, fun j a hj ha => ?_⟩, by omega, wk_sub _ ⟨rfl, rfl, rfl, rfl, trivial⟩⟩
      by_cases e : j = k
      · subst e
        rw [gti_get hlt] at ha
        cases ha
        exact h
      · exact hk.2 j a (by omega) ha
  · (refine aw_exit ?_; repeat (first | refine ath_x ?_ | refine abl_hit ?_ | refine abl_miss rfl ?_ | refine abl_n ?_ | refine ath_n ?_ | refine aw_seq ?_ | refine aw_skip ?_ | refine aw_block ?_))
    refine aw_region ?_
    refine ops_op rfl rfl (runs_none rfl) (mv_s (.inr rfl) rfl) ?_
    refine ops_nil ?_
    repeat (first | refine aw_seq ?_ | refine ath_n ?_ | refine aw_skip ?_ | refine abl_n ?_ | refine aw_block ?_)
    (refine aw_ret ?_; repeat (first | refine ath_r ?_ | refine abl_r ?_))
    exact post1 (.inr rfl) rfl (congrArg eI (firstAt_none (fun j a hj ha => hk.2 j a (by omega) ha)).symm)
theorem containsFFs_pf (f : FuncId) (caps : List AV) (p : (List Fr) → Bool) (l : List (List Fr)) (hlo : ∀ a : (List Fr), Lo 0 (eFs a)) (hlc : Lo 0 (.fn f caps)) (hf : ∀ a ∈ l, Pure P f ([eFs a] ++ caps) (eB (p a))) :
    Pure P 21 [eL eFs l, .fn f caps] (eB (l.any p)) := by
  refine aw_fn (by rw [IsP.eq (P := P)]; exact Try.func21) rfl rfl rfl rfl rfl (lo_cons (lo_map hlo) (lo_cons hlc lo_nil)) (.s _) (by simp only [argF]; rfl) ?_
  have hi := indexFFs_pf f caps p l hlo hlc hf
  repeat (first | refine aw_seq ?_ | refine ath_n ?_ | refine aw_skip ?_ | refine abl_n ?_ | refine aw_block ?_)
  refine aw_region ?_
  refine ops_op rfl rfl (runs_none rfl) (mv_s (.inr rfl) rfl) ?_
  refine ops_nil ?_
  repeat (first | refine aw_seq ?_ | refine ath_n ?_ | refine aw_skip ?_ | refine abl_n ?_ | refine aw_block ?_)
  refine aw_region ?_
  first | refine ops_op rfl rfl (runs_none rfl) (mv_own (.inl rfl) rfl) ?_ | refine ops_op rfl rfl (runs_none rfl) (mv_sl (.inl rfl) rfl) ?_ | refine ops_op rfl rfl (runs_none rfl) (mv_s (.inl rfl) rfl) ?_ | refine ops_op rfl rfl (runs_none rfl) (mv_emp (.inl rfl) rfl) ?_
  first | refine ops_op rfl rfl (runs_none rfl) (mv_fn (.inl rfl) rfl) ?_ | refine ops_op rfl rfl (runs_none rfl) (mv_s (.inl rfl) rfl) ?_
  refine ops_op rfl rfl (runs_none rfl) (does_call rfl rfl (hi) (evc_cons rfl (evc_cons rfl evc_nil))) ?_
  refine ops_op rfl rfl (runs_none rfl) (does_geq rfl rfl rfl) ?_
  refine ops_op rfl rfl (runs_none rfl) (mv_s (.inr rfl) rfl) ?_
  refine ops_nil ?_
  repeat (first | refine aw_seq ?_ | refine ath_n ?_ | refine aw_skip ?_ | refine abl_n ?_ | refine aw_block ?_)
  (refine aw_ret ?_; repeat (first | refine ath_r ?_ | refine abl_r ?_))
  exact post1 (.inr rfl) rfl (congrArg eB (firstAt_any p l))
def longB (l : List Fr) : Bool := decide ((l.length : Int) > 20)
theorem few1_pf (l : List Fr) : Pure P 22 [eL eF l] (eB (longB l)) := by
  refine aw_fn (by rw [IsP.eq (P := P)]; exact Try.func22) rfl rfl rfl rfl rfl (by repeat' (first | exact Lo.s _ | exact Lo.emp | exact Lo.any | exact lo_nil | exact lo_nilE | refine lo_cons ?_ ?_ | refine lo_consE ?_ ?_ | refine lo_map ?_ | refine lo_mapE ?_ | refine Lo.cells ?_ | refine Lo.agg _ ?_ | refine Lo.ref _ ?_ | refine Lo.tup _ ?_ | refine Lo.fn _ _ ?_ | refine Lo.sl _ ?_ | intro _)) (by repeat' (first | exact Lo.s _ | exact Lo.emp | exact Lo.any | exact lo_nil | exact lo_nilE | refine lo_cons ?_ ?_ | refine lo_consE ?_ ?_ | refine lo_map ?_ | refine lo_mapE ?_ | refine Lo.cells ?_ | refine Lo.agg _ ?_ | refine Lo.ref _ ?_ | refine Lo.tup _ ?_ | refine Lo.fn _ _ ?_ | refine Lo.sl _ ?_ | intro _)) (by simp only [argF]; rfl) ?_
  repeat (first | refine aw_seq ?_ | refine ath_n ?_ | refine aw_skip ?_ | refine abl_n ?_ | refine aw_block ?_)
  refine aw_region ?_
  refine ops_op rfl rfl (runs_none rfl) (mv_s (.inr rfl) rfl) ?_
  refine ops_nil ?_
  repeat (first | refine aw_seq ?_ | refine ath_n ?_ | refine aw_skip ?_ | refine abl_n ?_ | refine aw_block ?_)
  refine aw_region ?_
  first | refine ops_op rfl rfl (runs_none rfl) (mv_own (.inl rfl) rfl) ?_ | refine ops_op rfl rfl (runs_none rfl) (mv_sl (.inl rfl) rfl) ?_ | refine ops_op rfl rfl (runs_none rfl) (mv_s (.inl rfl) rfl) ?_ | refine ops_op rfl rfl (runs_none rfl) (mv_emp (.inl rfl) rfl) ?_
  first | refine ops_op rfl rfl (runs_none rfl) (does_len_map rfl ts22 rfl) ?_ | refine ops_op rfl rfl (runs_none rfl) (does_len_sl rfl ts22 rfl) ?_ | refine ops_op rfl rfl (runs_none rfl) (does_len_own rfl ts22 rfl) ?_ | refine ops_op rfl rfl (runs_none rfl) (does_len_s rfl ts22 rfl) ?_ | refine ops_op rfl rfl (runs_none rfl) (does_len_emp rfl ts22 rfl) ?_
  refine ops_op rfl rfl (runs_none rfl) (does_gtr rfl rfl rfl) ?_
  refine ops_op rfl rfl (runs_none rfl) (mv_s (.inr rfl) rfl) ?_
  refine ops_nil ?_
  repeat (first | refine aw_seq ?_ | refine ath_n ?_ | refine aw_skip ?_ | refine abl_n ?_ | refine aw_block ?_)
  (refine aw_ret ?_; repeat (first | refine ath_r ?_ | refine abl_r ?_))
  exact post1 (.inr rfl) rfl rfl
def fewB (p : LP) : Bool := decide ((p.c.length : Int) ≤ 20) && (decide ((p.a.length : Int) ≤ 20) && (decide ((p.rel.length : Int) ≤ 20) && (decide ((p.b.length : Int) ≤ 20) && !p.a.any longB)))
theorem few_pf (p : LP) : Pure P 6 [eP p] (eB (fewB p)) := by
  have hc : Pure P 21 [eL (eL eF) p.a, .fn 22 []] (eB (p.a.any longB)) := containsFFs_pf (P := P) 22 [] longB p.a lo_eFs (.fn _ _ (by simp)) (fun a _ => few1_pf a)
  unfold fewB
  generalize p.a.any longB = z at hc ⊢
  refine aw_fn (by rw [IsP.eq (P := P)]; exact Try.func6) rfl rfl rfl rfl rfl (by repeat' (first | exact Lo.s _ | exact Lo.emp | exact Lo.any | exact lo_nil | exact lo_nilE | refine lo_cons ?_ ?_ | refine lo_consE ?_ ?_ | refine lo_map ?_ | refine lo_mapE ?_ | refine Lo.cells ?_ | refine Lo.agg _ ?_ | refine Lo.ref _ ?_ | refine Lo.tup _ ?_ | refine Lo.fn _ _ ?_ | refine Lo.sl _ ?_ | intro _)) (by repeat' (first | exact Lo.s _ | exact Lo.emp | exact Lo.any | exact lo_nil | exact lo_nilE | refine lo_cons ?_ ?_ | refine lo_consE ?_ ?_ | refine lo_map ?_ | refine lo_mapE ?_ | refine Lo.cells ?_ | refine Lo.agg _ ?_ | refine Lo.ref _ ?_ | refine Lo.tup _ ?_ | refine Lo.fn _ _ ?_ | refine Lo.sl _ ?_ | intro _)) (by simp only [argF]; rfl) ?_
  repeat (first | refine aw_seq ?_ | refine ath_n ?_ | refine aw_skip ?_ | refine abl_n ?_ | refine aw_block ?_)
  refine aw_region ?_
  refine ops_op rfl rfl (runs_none rfl) (does_box rfl rfl rfl rfl) ?_
  refine aops_weak (wk_froz (id := 0) rfl) (aops_weak (wk_ref (d := 1) rfl rfl rfl) ?_)
  refine ops_op rfl rfl (runs_none rfl) (mv_s (.inr rfl) rfl) ?_
  refine ops_nil ?_
  repeat (first | refine aw_seq ?_ | refine ath_n ?_ | refine aw_skip ?_ | refine abl_n ?_ | refine aw_block ?_)
  all_goals refine aw_region ?_
  all_goals (first | refine ops_op rfl rfl (runs_none rfl) (does_fieldAddr_ptr rfl tf26_0 (by decide) rfl) ?_ | refine ops_op rfl rfl (runs_none rfl) (does_fieldAddr_ref rfl tf26_0 (by decide) rfl) ?_)
  all_goals (first | refine ops_op rfl rfl (runs_none rfl) (does_load_ref rfl ta22 rfl) ?_ | refine ops_op rfl rfl (runs_none rfl) (does_load_ptr rfl ta22 rfl rfl rfl rfl rfl) ?_)
  all_goals (first | refine ops_op rfl rfl (runs_none rfl) (does_len_map rfl ts22 rfl) ?_ | refine ops_op rfl rfl (runs_none rfl) (does_len_sl rfl ts22 rfl) ?_ | refine ops_op rfl rfl (runs_none rfl) (does_len_own rfl ts22 rfl) ?_ | refine ops_op rfl rfl (runs_none rfl) (does_len_s rfl ts22 rfl) ?_ | refine ops_op rfl rfl (runs_none rfl) (does_len_emp rfl ts22 rfl) ?_)
  all_goals (first | refine ops_opP rfl rfl (runs_none rfl) (does_leq rfl rfl rfl) (fun h6 => ?_) (fun h6 => ?_) | refine ops_opB rfl rfl (runs_none rfl) (does_leq rfl rfl rfl) (fun h6 => ?_) (fun h6 => ?_))
  all_goals refine ops_op rfl rfl (runs_none rfl) (mv_s (.inl rfl) rfl) ?_
  all_goals (first | refine ops_op rfl rfl (runs_y rfl rfl rfl) (does_fieldAddr_ptr rfl tf26_1 (by decide) rfl) ?_ | refine ops_op rfl rfl (runs_y rfl rfl rfl) (does_fieldAddr_ref rfl tf26_1 (by decide) rfl) ?_ | refine ops_skip rfl rfl (runs_nt rfl rfl rfl) ?_ | refine ops_skip rfl rfl (runs_nu rfl rfl rfl) ?_)
  all_goals (first | refine ops_op rfl rfl (runs_y rfl rfl rfl) (does_load_ref rfl ta23 rfl) ?_ | refine ops_op rfl rfl (runs_y rfl rfl rfl) (does_load_ptr rfl ta23 rfl rfl rfl rfl rfl) ?_ | refine ops_skip rfl rfl (runs_nt rfl rfl rfl) ?_ | refine ops_skip rfl rfl (runs_nu rfl rfl rfl) ?_)
  all_goals (first | refine ops_op rfl rfl (runs_y rfl rfl rfl) (does_len_map rfl ts23 rfl) ?_ | refine ops_op rfl rfl (runs_y rfl rfl rfl) (does_len_sl rfl ts23 rfl) ?_ | refine ops_op rfl rfl (runs_y rfl rfl rfl) (does_len_own rfl ts23 rfl) ?_ | refine ops_op rfl rfl (runs_y rfl rfl rfl) (does_len_s rfl ts23 rfl) ?_ | refine ops_op rfl rfl (runs_y rfl rfl rfl) (does_len_emp rfl ts23 rfl) ?_ | refine ops_skip rfl rfl (runs_nt rfl rfl rfl) ?_ | refine ops_skip rfl rfl (runs_nu rfl rfl rfl) ?_)
  all_goals (first | refine ops_opP rfl rfl (runs_y rfl rfl rfl) (does_leq rfl rfl rfl) (fun h11 => ?_) (fun h11 => ?_) | refine ops_opB rfl rfl (runs_y rfl rfl rfl) (does_leq rfl rfl rfl) (fun h11 => ?_) (fun h11 => ?_) | refine ops_skip rfl rfl (runs_nt rfl rfl rfl) ?_ | refine ops_skip rfl rfl (runs_nu rfl rfl rfl) ?_)
  all_goals (first | refine ops_op rfl rfl (runs_none rfl) (pickT_s rfl rfl rfl) ?_ | refine ops_op rfl rfl (runs_none rfl) (pickF_s rfl rfl rfl) ?_ | refine ops_op rfl rfl (runs_none rfl) (does_pickT rfl rfl rfl) ?_ | refine ops_op rfl rfl (runs_none rfl) (does_pickF rfl rfl rfl) ?_)
  all_goals refine ops_op rfl rfl (runs_none rfl) (mv_s (.inl rfl) rfl) ?_
  all_goals (first | refine ops_op rfl rfl (runs_y rfl rfl rfl) (does_fieldAddr_ptr rfl tf26_2 (by decide) rfl) ?_ | refine ops_op rfl rfl (runs_y rfl rfl rfl) (does_fieldAddr_ref rfl tf26_2 (by decide) rfl) ?_ | refine ops_skip rfl rfl (runs_nt rfl rfl rfl) ?_ | refine ops_skip rfl rfl (runs_nu rfl rfl rfl) ?_)
  all_goals (first | refine ops_op rfl rfl (runs_y rfl rfl rfl) (does_load_ref rfl ta24 rfl) ?_ | refine ops_op rfl rfl (runs_y rfl rfl rfl) (does_load_ptr rfl ta24 rfl rfl rfl rfl rfl) ?_ | refine ops_skip rfl rfl (runs_nt rfl rfl rfl) ?_ | refine ops_skip rfl rfl (runs_nu rfl rfl rfl) ?_)
  all_goals (first | refine ops_op rfl rfl (runs_y rfl rfl rfl) (does_len_map rfl ts24 rfl) ?_ | refine ops_op rfl rfl (runs_y rfl rfl rfl) (does_len_sl rfl ts24 rfl) ?_ | refine ops_op rfl rfl (runs_y rfl rfl rfl) (does_len_own rfl ts24 rfl) ?_ | refine ops_op rfl rfl (runs_y rfl rfl rfl) (does_len_s rfl ts24 rfl) ?_ | refine ops_op rfl rfl (runs_y rfl rfl rfl) (does_len_emp rfl ts24 rfl) ?_ | refine ops_skip rfl rfl (runs_nt rfl rfl rfl) ?_ | refine ops_skip rfl rfl (runs_nu rfl rfl rfl) ?_)
  all_goals (first | refine ops_opP rfl rfl (runs_y rfl rfl rfl) (does_leq rfl rfl rfl) (fun h17 => ?_) (fun h17 => ?_) | refine ops_opB rfl rfl (runs_y rfl rfl rfl) (does_leq rfl rfl rfl) (fun h17 => ?_) (fun h17 => ?_) | refine ops_skip rfl rfl (runs_nt rfl rfl rfl) ?_ | refine ops_skip rfl rfl (runs_nu rfl rfl rfl) ?_)
  all_goals (first | refine ops_op rfl rfl (runs_none rfl) (pickT_s rfl rfl rfl) ?_ | refine ops_op rfl rfl (runs_none rfl) (pickF_s rfl rfl rfl) ?_ | refine ops_op rfl rfl (runs_none rfl) (does_pickT rfl rfl rfl) ?_ | refine ops_op rfl rfl (runs_none rfl) (does_pickF rfl rfl rfl) ?_)
  all_goals refine ops_op rfl rfl (runs_none rfl) (mv_s (.inl rfl) rfl) ?_
  all_goals (first | refine ops_op rfl rfl (runs_y rfl rfl rfl) (does_fieldAddr_ptr rfl tf26_3 (by decide) rfl) ?_ | refine ops_op rfl rfl (runs_y rfl rfl rfl) (does_fieldAddr_ref rfl tf26_3 (by decide) rfl) ?_ | refine ops_skip rfl rfl (runs_nt rfl rfl rfl) ?_ | refine ops_skip rfl rfl (runs_nu rfl rfl rfl) ?_)
  all_goals (first | refine ops_op rfl rfl (runs_y rfl rfl rfl) (does_load_ref rfl ta22 rfl) ?_ | refine ops_op rfl rfl (runs_y rfl rfl rfl) (does_load_ptr rfl ta22 rfl rfl rfl rfl rfl) ?_ | refine ops_skip rfl rfl (runs_nt rfl rfl rfl) ?_ | refine ops_skip rfl rfl (runs_nu rfl rfl rfl) ?_)
  all_goals (first | refine ops_op rfl rfl (runs_y rfl rfl rfl) (does_len_map rfl ts22 rfl) ?_ | refine ops_op rfl rfl (runs_y rfl rfl rfl) (does_len_sl rfl ts22 rfl) ?_ | refine ops_op rfl rfl (runs_y rfl rfl rfl) (does_len_own rfl ts22 rfl) ?_ | refine ops_op rfl rfl (runs_y rfl rfl rfl) (does_len_s rfl ts22 rfl) ?_ | refine ops_op rfl rfl (runs_y rfl rfl rfl) (does_len_emp rfl ts22 rfl) ?_ | refine ops_skip rfl rfl (runs_nt rfl rfl rfl) ?_ | refine ops_skip rfl rfl (runs_nu rfl rfl rfl) ?_)
  all_goals (first | refine ops_opP rfl rfl (runs_y rfl rfl rfl) (does_leq rfl rfl rfl) (fun h23 => ?_) (fun h23 => ?_) | refine ops_opB rfl rfl (runs_y rfl rfl rfl) (does_leq rfl rfl rfl) (fun h23 => ?_) (fun h23 => ?_) | refine ops_skip rfl rfl (runs_nt rfl rfl rfl) ?_ | refine ops_skip rfl rfl (runs_nu rfl rfl rfl) ?_)
  all_goals (first | refine ops_op rfl rfl (runs_none rfl) (pickT_s rfl rfl rfl) ?_ | refine ops_op rfl rfl (runs_none rfl) (pickF_s rfl rfl rfl) ?_ | refine ops_op rfl rfl (runs_none rfl) (does_pickT rfl rfl rfl) ?_ | refine ops_op rfl rfl (runs_none rfl) (does_pickF rfl rfl rfl) ?_)
  all_goals refine ops_op rfl rfl (runs_none rfl) (mv_s (.inl rfl) rfl) ?_
  all_goals (first | refine ops_op rfl rfl (runs_y rfl rfl rfl) (does_fieldAddr_ptr rfl tf26_1 (by decide) rfl) ?_ | refine ops_op rfl rfl (runs_y rfl rfl rfl) (does_fieldAddr_ref rfl tf26_1 (by decide) rfl) ?_ | refine ops_skip rfl rfl (runs_nt rfl rfl rfl) ?_ | refine ops_skip rfl rfl (runs_nu rfl rfl rfl) ?_)
  all_goals (first | refine ops_op rfl rfl (runs_y rfl rfl rfl) (does_load_ref rfl ta23 rfl) ?_ | refine ops_op rfl rfl (runs_y rfl rfl rfl) (does_load_ptr rfl ta23 rfl rfl rfl rfl rfl) ?_ | refine ops_skip rfl rfl (runs_nt rfl rfl rfl) ?_ | refine ops_skip rfl rfl (runs_nu rfl rfl rfl) ?_)
  all_goals (first | refine ops_opP rfl rfl (runs_y rfl rfl rfl) (does_call rfl rfl (hc) (evc_cons rfl (evc_cons rfl evc_nil))) (fun h28 => ?_) (fun h28 => ?_) | refine ops_opB rfl rfl (runs_y rfl rfl rfl) (does_call rfl rfl (hc) (evc_cons rfl (evc_cons rfl evc_nil))) (fun h28 => ?_) (fun h28 => ?_) | refine ops_skip rfl rfl (runs_nt rfl rfl rfl) ?_ | refine ops_skip rfl rfl (runs_nu rfl rfl rfl) ?_)
  all_goals (first | refine ops_op rfl rfl (runs_y rfl rfl rfl) (does_notp rfl rfl) ?_ | refine ops_op rfl rfl (runs_y rfl rfl rfl) (does_not rfl rfl) ?_ | refine ops_skip rfl rfl (runs_nt rfl rfl rfl) ?_ | refine ops_skip rfl rfl (runs_nu rfl rfl rfl) ?_)
  all_goals (first | refine ops_op rfl rfl (runs_none rfl) (pickT_s rfl rfl rfl) ?_ | refine ops_op rfl rfl (runs_none rfl) (pickF_s rfl rfl rfl) ?_ | refine ops_op rfl rfl (runs_none rfl) (does_pickT rfl rfl rfl) ?_ | refine ops_op rfl rfl (runs_none rfl) (does_pickF rfl rfl rfl) ?_)
  all_goals refine ops_op rfl rfl (runs_none rfl) (mv_s (.inr rfl) rfl) ?_
  all_goals refine ops_nil ?_
  all_goals (repeat (first | refine aw_seq ?_ | refine ath_n ?_ | refine aw_skip ?_ | refine abl_n ?_ | refine aw_block ?_))
  all_goals (refine aw_ret ?_; repeat (first | refine ath_r ?_ | refine abl_r ?_))
  all_goals exact post1 (.inr rfl) rfl (congrArg eB (by
    first
    | (rw [decide_eq_true h6, decide_eq_true h11, decide_eq_true h17, decide_eq_true h23, h28]; done)
    | (rw [decide_eq_true h6, decide_eq_true h11, decide_eq_true h17, decide_eq_false h23]; done)
    | (rw [decide_eq_true h6, decide_eq_true h11, decide_eq_false h17]; done)
    | (rw [decide_eq_true h6, decide_eq_false h11]; done)
    | (rw [decide_eq_false h6]; done)
    | (rw [decide_eq_true h6, decide_eq_true h11, decide_eq_true h17, decide_eq_true h23, h28]; rfl)
    | (rw [decide_eq_true h6, decide_eq_true h11, decide_eq_true h17, decide_eq_false h23]; rfl)
    | (rw [decide_eq_true h6, decide_eq_true h11, decide_eq_false h17]; rfl)
    | (rw [decide_eq_true h6, decide_eq_false h11]; rfl)
    | (rw [decide_eq_false h6]; rfl)))
end Go.Proofs.Ytcpnffjnagbkoaa.Aw
end
section
namespace Go.Proofs.Ytcpnffjnagbkoaa.Aw
set_option linter.unusedSimpArgs false
set_option linter.unusedVariables false
set_option linter.unusedSectionVars false
open Go.RowKit

structure KE (G G' : Cx) : Prop where
  step : G.Step G'
  mu0 : ∀ y, G.mu 0 = some y → G'.mu 0 = some y
  rows : RowsKept G.w G'.w
theorem KE.refl (G : Cx) : KE G G := ⟨.refl G, fun _ h => h, RowsKept.refl _⟩
theorem KE.trans {G H K : Cx} (h : KE G H) (k : KE H K) : KE G K := ⟨h.step.trans k.step, fun y x => k.mu0 y (h.mu0 y x), h.rows.trans k.rows⟩
theorem KE.of {G G' : Cx} (e : G.Ext G') : KE G G' := ⟨e.step, e.mu 0, e.rows⟩
def liftK (N : Nat) (G : Cx) (Q : Exit → Frm → List Ob → Prop) : Exit → Act → World → Prop :=
  fun e a' w' => ∃ G' F' σ', G'.w = w' ∧ KE G G' ∧ S8 N G' a' F' σ' ∧ Q e F' σ'
theorem liftK_mono {N : Nat} {G G1 : Cx} (h : KE G G1) {Q Q' : Exit → Frm → List Ob → Prop} (hq : ∀ e F σ, Q e F σ → Q' e F σ) {e : Exit} {a : Act} {w : World} (x : liftK N G1 Q e a w) : liftK N G Q' e a w := by
  obtain ⟨G', F', σ', h1, h2, h3, h4⟩ := x
  exact ⟨G', F', σ', h1, h.trans h2, h3, hq _ _ _ h4⟩

def KWp (P : Program) (N : Nat) (c : Code) (F : Frm) (σ : List Ob) (Q : Exit → Frm → List Ob → Prop) : Prop :=
  ∀ G a, S8 N G a F σ → c.wp P (liftK N G Q) a G.w
def KOps (P : Program) (N : Nat) (ops : Array Oper) (l : List Oper) (F : Frm) (σ : List Ob) (Q : Exit → Frm → List Ob → Prop) : Prop :=
  ∀ G a, S8 N G a F σ → wpList P ops (liftK N G Q) l a G.w

section
variable {P : Program} {N : Nat} {F : Frm} {σ : List Ob} {Q : Exit → Frm → List Ob → Prop}

theorem kw_seq {x y : Code} (h : KWp P N x F σ (AThen (fun F σ => KWp P N y F σ Q) Q)) : KWp P N (.seq x y) F σ Q := fun G a hs => by
  refine wp_seq (Code.wp_mono (fun e a1 w1 q => ?_) (h G a hs))
  obtain ⟨G', F', σ', rfl, h2, h3, h4⟩ := q
  cases e with
  | normal => exact Code.wp_mono (fun e a w q => liftK_mono h2 (fun _ _ _ x => x) q) (h4 G' a1 h3)
  | _ => exact ⟨G', F', σ', rfl, h2, h3, h4⟩
theorem kw_skip (h : Q .normal F σ) : KWp P N .skip F σ Q := fun G a hs => wp_skip ⟨G, F, σ, rfl, .refl G, hs, h⟩
theorem kw_exit {id : Nat} (h : Q (.exit id) F σ) : KWp P N (.exit id) F σ Q := fun G a hs => wp_exit ⟨G, F, σ, rfl, .refl G, hs, h⟩
theorem kw_block {id : Nat} {c : Code} (h : KWp P N c F σ (ABlk id Q)) : KWp P N (.block id c) F σ Q := fun G a hs => by
  refine wp_block (Code.wp_mono (fun e a1 w1 q => ?_) (h G a hs))
  obtain ⟨G', F', σ', rfl, h2, h3, h4⟩ := q
  cases e with
  | exit id' =>
    simp only [ABlk] at h4
    simp only [Exit.inBlock]
    split
    · rename_i e; rw [if_pos e] at h4; exact ⟨G', F', σ', rfl, h2, h3, h4⟩
    · rename_i e; rw [if_neg e] at h4; exact ⟨G', F', σ', rfl, h2, h3, h4⟩
  | _ => exact ⟨G', F', σ', rfl, h2, h3, h4⟩
theorem kw_cond {c : Operand} {x y : Code} {b : Bool} (hc : F.eval c = .s (.bool b)) (ht : b = true → KWp P N x F σ Q) (hf : b = false → KWp P N y F σ Q) : KWp P N (.cond c x y) F σ Q := fun G a hs =>
  wp_cond_split (rep_bool hs.fr hc) (fun e => ht e G a hs) (fun e => hf e G a hs)
theorem kw_true {c : Operand} {x y : Code} (hc : F.eval c = .s (.bool true)) (ht : KWp P N x F σ Q) : KWp P N (.cond c x y) F σ Q := kw_cond hc (fun _ => ht) (fun e => by cases e)
theorem kw_false {c : Operand} {x y : Code} (hc : F.eval c = .s (.bool false)) (ht : KWp P N y F σ Q) : KWp P N (.cond c x y) F σ Q := kw_cond hc (fun e => by cases e) (fun _ => ht)
theorem kw_loop {c : Code} (I : Nat → Frm → List Ob → Prop) (m : Nat) (h0 : I m F σ)
    (round : ∀ m F σ, I m F σ → KWp P N c F σ (AThen (fun F' σ' => ∃ m', m' < m ∧ I m' F' σ') Q)) : KWp P N (.loop c) F σ Q := fun G a hs => by
  refine wp_loop_ghost (fun n a w => ∃ G' F' σ', G'.w = w ∧ KE G G' ∧ S8 N G' a F' σ' ∧ I n F' σ') m ⟨G, F, σ, rfl, .refl G, hs, h0⟩ ?_
  rintro n a w ⟨G', F', σ', rfl, h2, h3, h4⟩
  refine Code.wp_mono (fun e a1 w1 q => ?_) (round n F' σ' h4 G' a h3)
  obtain ⟨G2, F2, σ2, rfl, h5, h6, h7⟩ := q
  cases e with
  | normal => obtain ⟨m', hm, hi⟩ := h7; exact ⟨m', hm, ⟨G2, F2, σ2, rfl, h2.trans h5, h6, hi⟩⟩
  | _ => exact ⟨G2, F2, σ2, rfl, h2.trans h5, h6, h7⟩

theorem kw_region {id : Nat} {l : List Oper} (h : KOps P N l.toArray l F σ Q) : KWp P N (.region id l.toArray false) F σ Q := fun G a hs => wp_region_lit (h G a hs)
theorem kw_mono {c : Code} {Q' : Exit → Frm → List Ob → Prop} (h : KWp P N c F σ Q) (hq : ∀ e F σ, Q e F σ → Q' e F σ) : KWp P N c F σ Q' := fun G a hs =>
  Code.wp_mono (fun e a w q => liftK_mono (.refl G) hq q) (h G a hs)

end

section
variable {P : Program} {N : Nat} {F : Frm} {σ σ' : List Ob} {Q : Exit → Frm → List Ob → Prop} {ops : Array Oper} {o : Oper} {l : List Oper} {x : AV}

theorem kops_nil (h : Q .normal F σ) : KOps P N ops [] F σ Q := fun G a hs => ⟨G, F, σ, rfl, .refl G, hs, h⟩
theorem kops_op {d : Nat} (hd : o.dst = some d) (hN : Nat.blt d N = true) (hr : Runs ops F o true) (hD : Does P o F σ x σ') (k : KOps P N ops l ((d, x) :: F) σ' Q) : KOps P N ops (o :: l) F σ Q := fun G a hs => by
  unfold wpList
  rw [if_pos (hr.wanted hs.fr)]
  left
  refine hD G a _ _ hs.rel (fun y _ => rep_eval hs.fr y) (fun v G' e r hv => ?_)
  rw [hd]
  exact wpList_mono (fun e' a w q => liftK_mono (KE.of e) (fun _ _ _ x => x) q) _ _ _ (k G' _ ((hs.step e r).put (by simpa [Nat.blt_eq] using hN) hv))
theorem kops_eff (hd : o.dst = none) (hr : Runs ops F o true) (hD : Does P o F σ x σ') (k : KOps P N ops l F σ' Q) : KOps P N ops (o :: l) F σ Q := fun G a hs => by
  unfold wpList
  rw [if_pos (hr.wanted hs.fr)]
  left
  refine hD G a _ _ hs.rel (fun y _ => rep_eval hs.fr y) (fun v G' e r hv => ?_)
  rw [hd]
  exact wpList_mono (fun e' a w q => liftK_mono (KE.of e) (fun _ _ _ x => x) q) _ _ _ (k G' _ (hs.step e r))
end


def WeakK (N : Nat) (F : Frm) (σ : List Ob) (F' : Frm) (σ' : List Ob) : Prop := ∀ G a, S8 N G a F σ → ∃ G', G'.w = G.w ∧ KE G G' ∧ S8 N G' a F' σ'
theorem WeakK.refl {N : Nat} {F : Frm} {σ : List Ob} : WeakK N F σ F σ := fun G a h => ⟨G, rfl, .refl G, h⟩
section
variable {P : Program} {N : Nat} {F F' : Frm} {σ σ' : List Ob} {Q : Exit → Frm → List Ob → Prop}
theorem kw_weak {c : Code} (w : WeakK N F σ F' σ') (h : KWp P N c F' σ' Q) : KWp P N c F σ Q := fun G a hs => by
  obtain ⟨G1, e1, s1, h1⟩ := w G a hs
  rw [← e1]
  exact Code.wp_mono (fun e a w q => liftK_mono s1 (fun _ _ _ x => x) q) (h G1 a h1)
theorem kw_loops {c : Code} {S : Type} (fr : S → Frm) (st : S → List Ob) (inv : S → Prop) (ms : S → Nat) (s0 : S) (hw : WeakK N F σ (fr s0) (st s0)) (h0 : inv s0)
    (round : ∀ s, inv s → KWp P N c (fr s) (st s) (AThen (fun F' σ' => ∃ s', inv s' ∧ ms s' < ms s ∧ WeakK N F' σ' (fr s') (st s')) Q)) : KWp P N (.loop c) F σ Q := by
  refine kw_weak hw (kw_loop (fun m F σ => ∃ s, inv s ∧ ms s = m ∧ WeakK N F σ (fr s) (st s)) (ms s0) ⟨s0, h0, rfl, WeakK.refl⟩ (fun m F σ h => ?_))
  obtain ⟨s, h1, rfl, h3⟩ := h
  refine kw_weak h3 (kw_mono (round s h1) (fun e F σ q => ?_))
  cases e with
  | normal => obtain ⟨s', g1, g2, g3⟩ := q; exact ⟨ms s', g2, s', g1, rfl, g3⟩
  | _ => exact q
variable {ops : Array Oper} {o : Oper} {l : List Oper} {d : Nat}
theorem kops_opP {p : Prop} [Decidable p] (hd : o.dst = some d) (hN : Nat.blt d N = true) (hr : Runs ops F o true) (hD : Does P o F σ (.s (.bool (decide p))) σ) (k1 : p → KOps P N ops l ((d, .s (.bool true)) :: F) σ Q) (k2 : ¬ p → KOps P N ops l ((d, .s (.bool false)) :: F) σ Q) : KOps P N ops (o :: l) F σ Q := by
  by_cases h : p
  · exact kops_op hd hN hr (dec_t h hD) (k1 h)
  · exact kops_op hd hN hr (dec_f h hD) (k2 h)
theorem kops_opB {b : Bool} (hd : o.dst = some d) (hN : Nat.blt d N = true) (hr : Runs ops F o true) (hD : Does P o F σ (.s (.bool b)) σ) (k1 : b = true → KOps P N ops l ((d, .s (.bool true)) :: F) σ Q) (k2 : b = false → KOps P N ops l ((d, .s (.bool false)) :: F) σ Q) : KOps P N ops (o :: l) F σ Q := by
  cases b with
  | true => exact kops_op hd hN hr hD (k1 rfl)
  | false => exact kops_op hd hN hr hD (k2 rfl)
theorem fr_keep {G G' : Cx} {a : Act} (hF : ∀ p ∈ F, Lo 1 p.2) (h : FOk G a F) (k : KE G G') : FOk G' a F := fun t => by
  have key : ∀ F : Frm, (∀ p ∈ F, Lo 1 p.2) → Lo 1 (F.get t) := by
    intro F
    induction F with
    | nil => intro _; exact .any
    | cons p F ih =>
      intro hF
      obtain ⟨d, x⟩ := p
      simp only [Frm.get]
      cases Nat.beq d t with
      | true => exact hF (d, x) List.mem_cons_self
      | false => exact ih (fun p hp => hF p (List.mem_cons_of_mem _ hp))
  refine (h t).low (key F hF) k.step.st k.step.cell (fun id y hid hy => ?_) (fun _ => k.rows)
  obtain rfl : id = 0 := by omega
  exact k.mu0 y hy
section
variable {fo : Operand} {ar : Array Operand} {ts : Array TypeId} {f : FuncId} {x : AV} {e n : Int}
end
end
theorem hF_nil : ∀ p ∈ ([] : Frm), Lo 1 p.2 := by simp
theorem hF_cons {d : Nat} {x : AV} {F : Frm} (h : Lo 1 x) (t : ∀ p ∈ F, Lo 1 p.2) : ∀ p ∈ (d, x) :: F, Lo 1 p.2 := fun p hp => by
  rcases List.mem_cons.1 hp with rfl | hp
  · exact h
  · exact t p hp
end Go.Proofs.Ytcpnffjnagbkoaa.Aw
end
section
namespace Go.Proofs.Ytcpnffjnagbkoaa.Aw
set_option linter.unusedSimpArgs false
set_option linter.unusedVariables false
set_option linter.unusedSectionVars false
open Go Go.RowKit Go.Proofs

/-- an own thing under a new name, and things named in a row too -/
inductive ObR2 (ρ : List Nat) : Ob → Ob → Prop
  | of (ob ob' : Ob) (h : ObRn ρ ob ob') : ObR2 ρ ob ob'
  | rowN (sz : Nat) (cs cs' : List AV) (hl : cs.length = cs'.length) (h : ∀ (k : Nat) e e', cs[k]? = some e → cs'[k]? = some e' → e.cells.length = e'.cells.length ∧ ∀ (j : Nat) x y, e.cells[j]? = some x → e'.cells[j]? = some y → Rn ρ x y) : ObR2 ρ (.row sz cs) (.row sz cs')
def StR2 (σ : List Ob) (ρ : List Nat) (σ' : List Ob) : Prop := σ'.length = ρ.length ∧ ∀ (j i : Nat) ob', ρ[j]? = some i → σ'[j]? = some ob' → ∃ ob, σ[i]? = some ob ∧ ObR2 ρ ob ob'
theorem row_ren {G : Cx} {ρ : List Nat} {i j : Nat} {sz : Nat} {cs cs' : List AV} (hm : (G.ren ρ).mu j = G.mu i) (hl : cs.length = cs'.length)
    (h : ∀ (k : Nat) e e', cs[k]? = some e → cs'[k]? = some e' → e.cells.length = e'.cells.length ∧ ∀ (j : Nat) x y, e.cells[j]? = some x → e'.cells[j]? = some y → Rn ρ x y) (h3 : ObOk G i (.row sz cs)) : ObOk (G.ren ρ) j (.row sz cs') := by
  simp only [ObOk, hm] at h3 ⊢
  cases hx : G.mu i with
  | none => rw [hx] at h3; exact h3
  | some x =>
    rw [hx] at h3
    cases x with
    | none => exact List.length_eq_zero_iff.1 (by rw [← hl, h3]; rfl)
    | some b => exact ⟨ren_row h3.1 hl h, h3.2⟩
theorem ren_rel2 {G : Cx} {σ σ' : List Ob} {ρ : List Nat} (hr : Rel G σ) (hn : ρ.Nodup) (hs : StR2 σ ρ σ') : Rel (G.ren ρ) σ' := by
  obtain ⟨hlen, hst⟩ := hs
  -- what is not a row of rows is renamed as before
  let τ : List Ob := σ'.map fun ob => match ob with | .row sz cs => .dead | ob => ob
  have hτ : StRn σ ρ τ := by
    refine ⟨by simp [τ, hlen], fun j i ob' hj hob => ?_⟩
    simp only [τ, List.getElem?_map, Option.map_eq_some_iff] at hob
    obtain ⟨ob1, h1, h2⟩ := hob
    obtain ⟨ob, h3, h4⟩ := hst j i ob1 hj h1
    refine ⟨ob, h3, ?_⟩
    subst h2
    cases h4 with
    | of _ _ h =>
      cases h with
      | dead => exact .dead _
      | row sz cs h => exact .dead _
      | fz sz cs h => exact .fz _ _ h
      | rowR sz e e' h h1 hl => exact .dead _
      | mp X n hn => exact .mp X n hn
    | rowN sz cs cs' hl h => exact .dead _
  have hr1 := ren_rel hr hn hτ
  have hmu : ∀ j i, ρ[j]? = some i → (G.ren ρ).mu j = G.mu i := fun j i h => by simp [Cx.ren, h]
  refine ⟨hr1.below, hr1.le, hr1.st, fun j ob' hob => ?_, fun j j' b hj hj' hm hm' => ?_, fun j hj => hr1.fresh j (by simp [τ]; exact hj)⟩
  · have hj : j < ρ.length := by rw [← hlen]; exact (List.getElem?_eq_some_iff.1 hob).1
    have hρ := List.getElem?_eq_getElem hj
    obtain ⟨ob, h1, h2⟩ := hst j _ ob' hρ hob
    have keep : (∀ sz cs, ob' ≠ .row sz cs) → ObOk (G.ren ρ) j ob' := fun h => hr1.obs j ob' (by
      show (σ'.map _)[j]? = _
      rw [List.getElem?_map, hob]
      cases ob' with
      | row sz cs => exact absurd rfl (h sz cs)
      | dead => rfl
      | fz sz cs => rfl
      | mp X => rfl)
    cases h2 with
    | of _ _ h =>
      cases h with
      | row sz cs h =>
        refine row_ren (hmu j _ hρ) rfl (fun k e e' he he' => ?_) (hr.obs _ _ h1)
        rw [he] at he'; cases he'
        refine ⟨rfl, fun i x y hx hy => ?_⟩
        rw [hx] at hy; cases hy
        exact .lo _ (h e (List.mem_of_getElem? he) x (List.mem_of_getElem? hx))
      | rowR sz e e' h g1 hl =>
        refine row_ren (cs := [e]) (hmu j _ hρ) rfl (fun k x x' he he' => ?_) (hr.obs _ _ h1)
        cases k with
        | succ k => simp at he
        | zero => simp at he he'; subst he he'; exact ⟨hl, g1⟩
      | dead => exact keep (fun sz cs h => by cases h)
      | fz sz cs h => exact keep (fun sz cs h => by cases h)
      | mp X n hn => exact keep (fun sz cs h => by cases h)
    | rowN sz cs cs' hl h => exact row_ren (hmu j _ hρ) hl h (hr.obs _ _ h1)
  · obtain ⟨sz, cs, h1⟩ := hj
    obtain ⟨sz', cs', h1'⟩ := hj'
    have hlj : j < ρ.length := by rw [← hlen]; exact (List.getElem?_eq_some_iff.1 h1).1
    have hlj' : j' < ρ.length := by rw [← hlen]; exact (List.getElem?_eq_some_iff.1 h1').1
    have al : ∀ j sz cs (hlj : j < ρ.length), σ'[j]? = some (.row sz cs) → alive σ ρ[j] := by
      intro j sz cs hlj h1
      obtain ⟨ob, h2, h3⟩ := hst j _ _ (List.getElem?_eq_getElem hlj) h1
      cases h3 with
      | of _ _ h =>
        cases h with
        | row _ _ _ => exact ⟨sz, cs, h2⟩
        | rowR _ e _ _ _ _ => exact ⟨sz, [e], h2⟩
      | rowN _ cs0 _ _ _ => exact ⟨sz, cs0, h2⟩
    have e := hr.inj ρ[j] ρ[j'] b (al j sz cs hlj h1) (al j' sz' cs' hlj' h1') (by simpa [Cx.ren, hlj] using hm) (by simpa [Cx.ren, hlj'] using hm')
    exact (List.getElem_inj hn).1 e
section
variable {N : Nat} {F F' : Frm} {σ σ' : List Ob}
theorem wk_ren2 (ρ : List Nat) (hn : ρ.Nodup) (hs : StR2 σ ρ σ') (hf : FrRn F ρ F') : Weak N F σ F' σ' := fun G a h =>
  ⟨G.ren ρ, rfl, ⟨rfl, rfl, fun _ _ h => h, fun _ _ _ => rfl, fun _ _ h => .inl h⟩, ⟨ren_rel2 h.rel hn hs, frRn_ok h.fr F' hf, h.df, h.nt⟩⟩
theorem kwk_ren2 (ρ : List Nat) (h0 : ρ[0]? = some 0) (hn : ρ.Nodup) (hs : StR2 σ ρ σ') (hf : FrRn F ρ F') : WeakK N F σ F' σ' := fun G a h =>
  ⟨G.ren ρ, rfl, ⟨⟨rfl, rfl, fun _ _ h => h, fun _ _ _ => rfl, fun _ _ h => .inl h⟩, fun y hy => by simp [Cx.ren, h0, hy], RowsKept.refl _⟩, ⟨ren_rel2 h.rel hn hs, frRn_ok h.fr F' hf, h.df, h.nt⟩⟩
end
/-! ## the names after a row is appended to: L in place of j + m -/
def rho (m n j L : Nat) : List Nat := (List.range (m + n)).set (j + m) L
theorem rho_lo {m n j L i : Nat} (h : i < m + n) (hne : i ≠ j + m) : (rho m n j L)[i]? = some i := by
  unfold rho
  rw [List.getElem?_set_ne (fun e => hne e.symm), List.getElem?_range h]
theorem rho_j {m n j L : Nat} (h : j < n) : (rho m n j L)[j + m]? = some L := by
  unfold rho
  rw [List.getElem?_set_self (by simp; omega)]
/-! ## the row of rows -/
/-- elements: the rows with the names m, m + 1, .. -/
def ownR (m sz : Nat) (rows : List (List AV)) : List AV := (List.range rows.length).map fun t => .own (t + m) sz ((rows[t]?).getD []).length
theorem ownR_len (m sz : Nat) (rows : List (List AV)) : (ownR m sz rows).length = rows.length := by simp [ownR]
theorem ownR_get {m sz : Nat} {rows : List (List AV)} {t : Nat} {r : List AV} (h : rows[t]? = some r) : (ownR m sz rows)[t]? = some (.own (t + m) sz r.length) := by
  have ht := (List.getElem?_eq_some_iff.1 h).1
  simp [ownR, List.getElem?_range ht, h]
def obsR (sz : Nat) (rows : List (List AV)) : List Ob := rows.map (.row sz)
theorem obsR_get {sz : Nat} {rows : List (List AV)} {t : Nat} {r : List AV} (h : rows[t]? = some r) : (obsR sz rows)[t]? = some (.row sz r) := by simp [obsR, h]
theorem obsR_len (sz : Nat) (rows : List (List AV)) : (obsR sz rows).length = rows.length := by simp [obsR]
theorem obsR_set (sz : Nat) (rows : List (List AV)) (j : Nat) (r : List AV) : obsR sz (rows.set j r) = (obsR sz rows).set j (.row sz r) := by simp [obsR, List.map_set]
/-- the row of rows under the new names -/
theorem ownR_ren {m sz sz0 : Nat} {rows : List (List AV)} {j L : Nat} {r : List AV} (hj : j < rows.length) : ObR2 (rho m rows.length j L) (.row sz0 ((ownR m sz rows).set j (.own L sz r.length))) (.row sz0 (ownR m sz (rows.set j r))) := by
  refine .rowN _ _ _ (by simp [ownR_len]) (fun k e e' he he' => ?_)
  have hk : k < rows.length := by have := (List.getElem?_eq_some_iff.1 he').1; simpa [ownR_len] using this
  by_cases h : k = j
  · subst h
    rw [List.getElem?_set_self (by rw [ownR_len]; exact hj)] at he
    obtain rfl := Option.some.inj he
    rw [ownR_get (List.getElem?_set_self hj)] at he'
    obtain rfl := Option.some.inj he'
    refine ⟨rfl, fun i x y hx hy => ?_⟩
    cases i with
    | succ i => simp [AV.cells] at hx
    | zero => simp [AV.cells] at hx hy; subst hx hy; exact .own _ _ _ _ _ (rho_j hj) rfl
  · rw [List.getElem?_set_ne (fun e => h e.symm), ownR_get (List.getElem?_eq_getElem hk)] at he
    obtain rfl := Option.some.inj he
    rw [ownR_get (show (rows.set j r)[k]? = some rows[k] by rw [List.getElem?_set_ne (fun e => h e.symm)]; exact List.getElem?_eq_getElem hk)] at he'
    obtain rfl := Option.some.inj he'
    refine ⟨rfl, fun i x y hx hy => ?_⟩
    cases i with
    | succ i => simp [AV.cells] at hx
    | zero => simp [AV.cells] at hx hy; subst hx hy; exact .own _ _ _ _ _ (rho_lo (by omega) (by omega)) rfl
theorem obsR_lo {ρ : List Nat} {sz : Nat} {rows : List (List AV)} (h : ∀ r ∈ rows, ∀ e ∈ r, ∀ c ∈ e.cells, Lo 0 c) : ∀ o ∈ obsR sz rows, ObR2 ρ o o := by
  intro o ho
  simp only [obsR, List.mem_map] at ho
  obtain ⟨r, hr, rfl⟩ := ho
  exact .of _ _ (.row sz r (h r hr))
section
variable {N : Nat} {F : Frm} {σ : List Ob}
/-- an element that is nil, as an empty row of the call's own -/
theorem wk_ownE {id sz sz2 k : Nat} {cs : List AV} (hs : σ[id]? = some (.row sz cs)) (hk : cs[k]? = some (.s (.slice none 0 0))) : Weak N F σ F (σ.set id (.row sz (cs.set k (.own σ.length sz2 0))) ++ [.row sz2 []]) := fun G a h => by
  have he := nil_ext h.rel
  have hr := nil_rel h.rel sz2
  have hid : id < σ.length := (List.getElem?_eq_some_iff.1 hs).1
  have hkl := (List.getElem?_eq_some_iff.1 hk).1
  refine ⟨G.new σ.length G.w none, rfl, he.step, ?_, h.fr.ext he, h.df, h.nt⟩
  rw [show σ.set id (Ob.row sz (cs.set k (.own σ.length sz2 0))) ++ [Ob.row sz2 []] = (σ ++ [Ob.row sz2 []]).set id (Ob.row sz (cs.set k (.own σ.length sz2 0))) by rw [List.set_append_left _ _ hid]]
  refine reread_rel hr (by rw [List.getElem?_append_left hid]; exact hs) (fun h => by rw [h] at hkl; simp at hkl) ?_
  rintro b f ⟨cur, t, fr, g1, g2, g3, g4⟩
  refine ⟨cur, t, fr, g1, g2, by simpa using g3, fun i y hy => ?_⟩
  by_cases hi : i = k
  · subst hi
    rw [List.getElem?_set_self hkl] at hy
    obtain rfl := Option.some.inj hy
    obtain ⟨k1, k2, k3⟩ := g4 i _ hk
    refine ⟨k1, fun c hc => ?_, fun j c hc => ?_⟩
    · simp [AV.cells] at hc; subst hc; rfl
    · cases j with
      | succ j => simp [AV.cells] at hc
      | zero =>
        simp [AV.cells] at hc
        subst hc
        obtain ⟨v, h6, h7⟩ := k3 0 _ rfl
        refine ⟨v, h6, ?_⟩
        cases h7
        exact .own0 σ.length sz2 none (fun a ha => by cases ha) (by simp [Cx.new])
  · rw [List.getElem?_set_ne (fun e => hi e.symm)] at hy
    exact g4 i y hy
theorem wk_nils_k {id sz sz2 n : Nat} {S : List Ob} (hs : S[id]? = some (.row sz (List.replicate n (.s (.slice none 0 0))))) : ∀ k, k ≤ n →
    Weak N F S F (S.set id (.row sz (ownR S.length sz2 (List.replicate k []) ++ List.replicate (n - k) (.s (.slice none 0 0)))) ++ obsR sz2 (List.replicate k []))
  | 0, _ => by
    have hid : id < S.length := (List.getElem?_eq_some_iff.1 hs).1
    have e : S.set id (.row sz (ownR S.length sz2 (List.replicate 0 []) ++ List.replicate (n - 0) (.s (.slice none 0 0)))) ++ obsR sz2 (List.replicate 0 []) = S := by
      simp only [ownR, obsR, List.replicate_zero, List.length_nil, List.range_zero, List.map_nil, List.nil_append, List.append_nil, Nat.sub_zero]
      refine List.ext_getElem? fun i => ?_
      by_cases hi : id = i
      · subst hi; rw [List.getElem?_set_self hid, hs]
      · rw [List.getElem?_set_ne hi]
    rw [e]
    exact Weak.refl
  | k + 1, hk => by
    have hid : id < S.length := (List.getElem?_eq_some_iff.1 hs).1
    refine (wk_nils_k (sz2 := sz2) hs k (by omega)).trans ?_
    have hL : (S.set id (.row sz (ownR S.length sz2 (List.replicate k []) ++ List.replicate (n - k) (.s (.slice none 0 0)))) ++ obsR sz2 (List.replicate k [])).length = k + S.length := by simp [obsR]; omega
    have h1 : (ownR S.length sz2 (List.replicate k ([] : List AV)) ++ List.replicate (n - k) (AV.s (.slice none 0 0)))[k]? = some (.s (.slice none 0 0)) := by
      rw [List.getElem?_append_right (by simp [ownR_len]), ownR_len, List.length_replicate, Nat.sub_self, List.getElem?_replicate, if_pos (by omega)]
    have := wk_ownE (N := N) (F := F) (σ := S.set id (.row sz (ownR S.length sz2 (List.replicate k []) ++ List.replicate (n - k) (.s (.slice none 0 0)))) ++ obsR sz2 (List.replicate k [])) (id := id) (sz := sz) (sz2 := sz2) (k := k)
      (by rw [List.getElem?_append_left (by simpa using hid), List.getElem?_set_self hid]) h1
    rw [hL] at this
    have e : (S.set id (Ob.row sz (ownR S.length sz2 (List.replicate k []) ++ List.replicate (n - k) (.s (.slice none 0 0)))) ++ obsR sz2 (List.replicate k [])).set id (Ob.row sz ((ownR S.length sz2 (List.replicate k []) ++ List.replicate (n - k) (AV.s (.slice none 0 0))).set k (.own (k + S.length) sz2 0))) ++ [Ob.row sz2 []]
        = S.set id (Ob.row sz (ownR S.length sz2 (List.replicate (k + 1) []) ++ List.replicate (n - (k + 1)) (.s (.slice none 0 0)))) ++ obsR sz2 (List.replicate (k + 1) []) := by
      have e1 : (ownR S.length sz2 (List.replicate k ([] : List AV)) ++ List.replicate (n - k) (AV.s (.slice none 0 0))).set k (.own (k + S.length) sz2 0) = ownR S.length sz2 (List.replicate (k + 1) ([] : List AV)) ++ List.replicate (n - (k + 1)) (AV.s (.slice none 0 0)) := by
        rw [List.set_append_right _ _ (by simp [ownR_len]), ownR_len, List.length_replicate, Nat.sub_self, show n - k = (n - (k + 1)) + 1 by omega, List.replicate_succ, List.set_cons_zero]
        have : ownR S.length sz2 (List.replicate (k + 1) ([] : List AV)) = ownR S.length sz2 (List.replicate k ([] : List AV)) ++ [.own (k + S.length) sz2 0] := by
          unfold ownR
          simp only [List.length_replicate, List.range_succ, List.map_append, List.map_cons, List.map_nil]
          congr 1
          · refine List.map_congr_left fun t ht => ?_
            have := List.mem_range.1 ht
            simp [List.getElem?_replicate, show t < k + 1 by omega, this]
          · simp [List.getElem?_replicate]
        rw [this, List.append_assoc]; rfl
      rw [e1, List.set_append_left _ _ (by simpa using hid), List.set_set, show obsR sz2 (List.replicate (k + 1) ([] : List AV)) = obsR sz2 (List.replicate k []) ++ [Ob.row sz2 []] by simp [obsR, List.replicate_succ'], List.append_assoc]
    rw [e] at this
    exact this
/-- nil elements, as empty rows of the call's own -/
theorem wk_nils {id sz sz2 n : Nat} {S : List Ob} (hs : S[id]? = some (.row sz (List.replicate n (.s (.slice none 0 0))))) :
    Weak N F S F (S.set id (.row sz (ownR S.length sz2 (List.replicate n []))) ++ obsR sz2 (List.replicate n [])) := by
  have := wk_nils_k (N := N) (F := F) (sz2 := sz2) hs n (Nat.le_refl _)
  rwa [Nat.sub_self, List.replicate_zero, List.append_nil] at this
/-- an element that is a row of the call's own is finished -/
theorem wk_fzE {id sz k i sz2 : Nat} {cs cs2 : List AV} (hs : σ[id]? = some (.row sz cs)) (hk : cs[k]? = some (.own i sz2 cs2.length)) (hi : σ[i]? = some (.row sz2 cs2)) (hne : i ≠ id) :
    Weak N F σ F ((σ.set i (.fz sz2 cs2)).set id (.row sz (cs.set k (.sl cs2)))) := fun G a h => by
  obtain ⟨he, hr⟩ := froz_ok h.rel hi
  have hid : id < σ.length := (List.getElem?_eq_some_iff.1 hs).1
  have hil : i < σ.length := (List.getElem?_eq_some_iff.1 hi).1
  have hkl := (List.getElem?_eq_some_iff.1 hk).1
  refine ⟨G.froz i, rfl, he.step, ?_, h.fr.ext he, h.df, h.nt⟩
  refine reread_rel hr (by rw [List.getElem?_set_ne hne]; exact hs) (fun h => by rw [h] at hkl; simp at hkl) ?_
  rintro b f ⟨cur, t, fr, g1, g2, g3, g4⟩
  refine ⟨cur, t, fr, g1, g2, by simpa using g3, fun l y hy => ?_⟩
  by_cases hl : l = k
  · subst hl
    rw [List.getElem?_set_self hkl] at hy
    obtain rfl := Option.some.inj hy
    obtain ⟨k1, k2, k3⟩ := g4 l _ hk
    refine ⟨k1, fun c hc => ?_, fun j c hc => ?_⟩
    · simp [AV.cells] at hc; subst hc; rfl
    · cases j with
      | succ j => simp [AV.cells] at hc
      | zero =>
        simp [AV.cells] at hc
        subst hc
        obtain ⟨v, h6, h7⟩ := k3 0 _ rfl
        exact ⟨v, h6, rep_fz hr (List.getElem?_set_self hil) rfl h7⟩
  · rw [List.getElem?_set_ne (fun e => hl e.symm)] at hy
    exact g4 l y hy
theorem wk_fzs_k {id sz sz2 : Nat} {S : List Ob} {rows : List (List AV)} (hs : S[id]? = some (.row sz (ownR S.length sz2 rows))) : ∀ k, k ≤ rows.length →
    ∃ X, Weak N F (S ++ obsR sz2 rows) F (S.set id (.row sz ((rows.take k).map AV.sl ++ (ownR S.length sz2 rows).drop k)) ++ X) ∧ X.length = rows.length ∧ ∀ t, k ≤ t → X[t]? = (obsR sz2 rows)[t]?
  | 0, _ => by
    have hid : id < S.length := (List.getElem?_eq_some_iff.1 hs).1
    refine ⟨obsR sz2 rows, ?_, obsR_len _ _, fun t _ => rfl⟩
    have e : S.set id (.row sz ((rows.take 0).map AV.sl ++ (ownR S.length sz2 rows).drop 0)) = S := by
      simp only [List.take_zero, List.map_nil, List.nil_append, List.drop_zero]
      refine List.ext_getElem? fun i => ?_
      by_cases hi : id = i
      · subst hi; rw [List.getElem?_set_self hid, hs]
      · rw [List.getElem?_set_ne hi]
    rw [e]
    exact Weak.refl
  | k + 1, hk => by
    have hid : id < S.length := (List.getElem?_eq_some_iff.1 hs).1
    obtain ⟨X, h1, h2, h3⟩ := wk_fzs_k hs k (by omega)
    have hkr : rows[k]? = some rows[k] := List.getElem?_eq_getElem (by omega)
    have hXk : X[k]? = some (.row sz2 rows[k]) := by rw [h3 k (Nat.le_refl _), obsR_get hkr]
    have hg := ownR_get (m := S.length) (sz := sz2) hkr
    have hlt : ((rows.take k).map AV.sl).length = k := by simp; omega
    have hc : ((rows.take k).map AV.sl ++ (ownR S.length sz2 rows).drop k)[k]? = some (.own (k + S.length) sz2 rows[k].length) := by
      rw [List.getElem?_append_right (by omega), hlt, Nat.sub_self, List.getElem?_drop, Nat.add_zero, hg]
    have := wk_fzE (N := N) (F := F) (σ := S.set id (.row sz ((rows.take k).map AV.sl ++ (ownR S.length sz2 rows).drop k)) ++ X) (id := id) (sz := sz) (k := k) (i := k + S.length) (sz2 := sz2) (cs2 := rows[k])
      (by rw [List.getElem?_append_left (by simpa using hid), List.getElem?_set_self hid]) hc (by rw [List.getElem?_append_right (by simp), List.length_set, Nat.add_sub_cancel]; exact hXk) (by omega)
    refine ⟨X.set k (.fz sz2 rows[k]), ?_, by simpa using h2, fun t ht => by rw [List.getElem?_set_ne (by omega)]; exact h3 t (by omega)⟩
    have e : ((S.set id (.row sz ((rows.take k).map AV.sl ++ (ownR S.length sz2 rows).drop k)) ++ X).set (k + S.length) (.fz sz2 rows[k])).set id (.row sz (((rows.take k).map AV.sl ++ (ownR S.length sz2 rows).drop k).set k (.sl rows[k])))
        = S.set id (.row sz ((rows.take (k + 1)).map AV.sl ++ (ownR S.length sz2 rows).drop (k + 1))) ++ X.set k (.fz sz2 rows[k]) := by
      have e1 : ((rows.take k).map AV.sl ++ (ownR S.length sz2 rows).drop k).set k (.sl rows[k]) = (rows.take (k + 1)).map AV.sl ++ (ownR S.length sz2 rows).drop (k + 1) := by
        rw [List.set_append_right _ _ (by omega), hlt, Nat.sub_self, List.drop_eq_getElem_cons (show k < (ownR S.length sz2 rows).length by rw [ownR_len]; omega), List.set_cons_zero, List.take_add_one, hkr]
        simp only [List.map_append, Option.toList, List.map_cons, List.map_nil, List.append_assoc, List.cons_append, List.nil_append]
      rw [e1, List.set_append_right _ _ (by simp), List.length_set, Nat.add_sub_cancel, List.set_append_left _ _ (by simpa using hid), List.set_set]
    rw [e] at this
    exact h1.trans this
/-- the rows finished: a row of finished slices -/
theorem wk_fzs {id sz sz2 : Nat} {S : List Ob} {rows : List (List AV)} (hs : S[id]? = some (.row sz (ownR S.length sz2 rows))) :
    ∃ X, Weak N F (S ++ obsR sz2 rows) F (S.set id (.row sz (rows.map AV.sl)) ++ X) := by
  obtain ⟨X, h1, _, _⟩ := wk_fzs_k (N := N) (F := F) hs rows.length (Nat.le_refl _)
  refine ⟨X, ?_⟩
  rwa [List.take_length, List.drop_eq_nil_of_le (by rw [ownR_len]; exact Nat.le_refl _), List.append_nil] at h1
end
end Go.Proofs.Ytcpnffjnagbkoaa.Aw
end
section
namespace Go.Proofs.Ytcpnffjnagbkoaa.Aw
set_option linter.unusedSimpArgs false
set_option linter.unusedVariables false
set_option linter.unusedSectionVars false
open Go Go.RowKit Go.Proofs
section
variable {N : Nat} {F F' : Frm} {σ σ' : List Ob}
theorem WeakK.weak (h : WeakK N F σ F' σ') : Weak N F σ F' σ' := fun G a hs => by
  obtain ⟨G', h1, h2, h3⟩ := h G a hs
  exact ⟨G', h1, h2.step, h3⟩
theorem WeakK.trans {F1 F2 : Frm} {σ1 σ2 : List Ob} (h : WeakK N F σ F1 σ1) (k : WeakK N F1 σ1 F2 σ2) : WeakK N F σ F2 σ2 := fun G a hs => by
  obtain ⟨G1, e1, s1, h1⟩ := h G a hs
  obtain ⟨G2, e2, s2, h2⟩ := k G1 a h1
  exact ⟨G2, e2.trans e1, s1.trans s2, h2⟩
theorem kwk_froz {id sz : Nat} {cs : List AV} (hs : σ[id]? = some (.row sz cs)) : WeakK N F σ F (σ.set id (.fz sz cs)) := fun G a h => by
  obtain ⟨h1, h2⟩ := froz_ok h.rel hs
  exact ⟨G.froz id, rfl, KE.of h1, h.step h1 h2⟩
theorem kwk_ref {d id sz k : Nat} {cs : List AV} {e : AV} (hd : F.get d = .ptr id sz k 0) (hs : σ[id]? = some (.fz sz cs)) (he : cs[k]? = some e) : WeakK N F σ ((d, .ref e.cells) :: F) σ := fun G a h =>
  ⟨G, rfl, .refl G, h.rel, h.fr.more (rep_fzp h.rel hs he (by rw [← hd]; exact h.fr d)), h.df, h.nt⟩
/-- a variable whose cell is made last is finished -/
theorem kwk_last {d sz : Nat} {e : AV} (hd : F.get d = .ptr σ.length sz 0 0) : WeakK N F (σ ++ [.row sz [e]]) ((d, .ref e.cells) :: F) (σ ++ [.fz sz [e]]) := by
  have h1 := kwk_froz (N := N) (F := F) (σ := σ ++ [.row sz [e]]) (id := σ.length) (sz := sz) (cs := [e]) (by simp)
  rw [show (σ ++ [Ob.row sz [e]]).set σ.length (.fz sz [e]) = σ ++ [.fz sz [e]] by rw [List.set_append_right _ _ (Nat.le_refl _), Nat.sub_self]; rfl] at h1
  exact h1.trans (kwk_ref (cs := [e]) hd (by simp) rfl)
theorem lo_up {k : Nat} {x : AV} (h : Lo 0 x) : Lo k x := by
  induction h with
  | any => exact .any
  | s v => exact .s v
  | agg cs _ ih => exact .agg cs ih
  | emp => exact .emp
  | sl l _ ih => exact .sl l ih
  | ref cs _ ih => exact .ref cs ih
  | own id sz n h => omega
  | ptr id sz i j h => omega
  | fn f cs _ ih => exact .fn f cs ih
  | tup l _ ih => exact .tup l ih
  | mp id h => omega
  | sub id sz o n h => omega
def LoOb (k : Nat) : Ob → Prop
  | .row _ cs => ∀ e ∈ cs, ∀ c ∈ e.cells, Lo k c
  | .fz _ cs => ∀ e ∈ cs, ∀ c ∈ e.cells, Lo k c
  | .dead => True
  | .mp _ => True
def FrLo (F : Frm) (k : Nat) : Frm → Prop
  | [] => True
  | (d, y) :: F' => (F.get d = y ∧ Lo k y) ∧ FrLo F k F'
/-- what comes last in the store is left out -/
theorem kwk_cut {X : List Ob} (h0 : 0 < σ.length) (hσ : ∀ ob ∈ σ, LoOb σ.length ob) (hF : FrLo F σ.length F') : WeakK N F (σ ++ X) F' σ := fun G a h => by
  let G' : Cx := { G with mu := fun i => if i < σ.length then G.mu i else none }
  have hmu : ∀ i, i < σ.length → G'.mu i = G.mu i := fun i hi => if_pos hi
  have low : ∀ {v x}, Rep G v x → Lo σ.length x → Rep G' v x := fun hv hx => hv.low hx (fun _ _ h => h) (fun _ _ _ => rfl) (fun id y hid hy => by rw [hmu id hid]; exact hy) (fun _ => RowsKept.refl _)
  have hr := h.rel
  have rowlow : ∀ {b sz : Nat} {cs : List AV} {f : Nat × Nat → Prop}, (∀ e ∈ cs, ∀ c ∈ e.cells, Lo σ.length c) → RowAt G b sz cs f → RowAt G' b sz cs f := fun hlo ⟨cur, t, fr, g1, g2, g3, g4⟩ =>
    ⟨cur, t, fr, g1, g2, g3, fun k e he => ⟨(g4 k e he).1, (g4 k e he).2.1, fun j c hc => by
      obtain ⟨v, h6, h7⟩ := (g4 k e he).2.2 j c hc
      exact ⟨v, h6, low h7 (hlo e (List.mem_of_getElem? he) c (List.mem_of_getElem? hc))⟩⟩⟩
  refine ⟨G', rfl, ⟨⟨rfl, rfl, fun _ _ h => h, fun _ _ _ => rfl, fun _ _ h => .inl h⟩, fun y hy => by rw [hmu 0 h0]; exact hy, RowsKept.refl _⟩, ⟨⟨hr.below, hr.le, hr.st, fun id ob hob => ?_, fun i j b hi hj hm hm' => ?_, fun id hid => if_neg (by omega)⟩, ?_, h.df, h.nt⟩⟩
  · have hid := (List.getElem?_eq_some_iff.1 hob).1
    have h1 := hr.obs id ob (by rw [List.getElem?_append_left hid]; exact hob)
    have hlo := hσ ob (List.mem_of_getElem? hob)
    cases ob with
    | dead => intro b hb; rw [hmu id hid] at hb; exact h1 b hb
    | row sz cs =>
      simp only [ObOk, hmu id hid] at h1 ⊢
      cases hx : G.mu id with
      | none => rw [hx] at h1; exact h1
      | some x =>
        rw [hx] at h1
        cases x with
        | none => exact h1
        | some b => exact ⟨rowlow hlo h1.1, h1.2⟩
    | fz sz cs =>
      simp only [ObOk, hmu id hid] at h1 ⊢
      cases hx : G.mu id with
      | none => rw [hx] at h1; exact h1
      | some x =>
        rw [hx] at h1
        cases x with
        | none => exact h1
        | some b => exact ⟨rowlow hlo h1.1, h1.2⟩
    | mp X =>
      obtain ⟨b, g1, g2, g3, g4, g5⟩ := h1
      refine ⟨b, (hmu id hid).trans g1, g2, g3, g4, fun j hj => g5 j ?_⟩
      by_cases hjl : j < σ.length
      · rwa [hmu j hjl] at hj
      · simp only [G', if_neg hjl] at hj; cases hj
  · obtain ⟨sz, cs, h1⟩ := hi
    obtain ⟨sz', cs', h1'⟩ := hj
    have hil := (List.getElem?_eq_some_iff.1 h1).1
    have hjl := (List.getElem?_eq_some_iff.1 h1').1
    rw [hmu i hil] at hm
    rw [hmu j hjl] at hm'
    exact hr.inj i j b ⟨sz, cs, by rw [List.getElem?_append_left hil]; exact h1⟩ ⟨sz', cs', by rw [List.getElem?_append_left hjl]; exact h1'⟩ hm hm'
  · have key : ∀ F', FrLo F σ.length F' → FOk G' a F' := by
      intro F'
      induction F' with
      | nil => intro _ d; exact .any _
      | cons p F' ih =>
        obtain ⟨d, y⟩ := p
        rintro ⟨⟨g1, g2⟩, g3⟩ t
        simp only [Frm.get]
        cases e : Nat.beq d t with
        | true =>
          have := Nat.eq_of_beq_eq_true e
          subst this
          have := h.fr d
          rw [g1] at this
          exact low this g2
        | false => exact ih g3 t
    exact key F' hF
/-- a row of the call's own in a struct of the call's own is finished -/
theorem kwk_fzC {id sz i sz2 : Nat} {e e' : AV} {pre post cs2 : List AV} (hs : σ[id]? = some (.row sz [e])) (h1 : e.cells = pre ++ .own i sz2 cs2.length :: post) (hi : σ[i]? = some (.row sz2 cs2)) (hne : i ≠ id) (h2 : e'.cells = pre ++ .sl cs2 :: post) :
    WeakK N F σ F ((σ.set i (.fz sz2 cs2)).set id (.row sz [e'])) := fun G a h => by
  obtain ⟨he, hr⟩ := froz_ok h.rel hi
  have hid : id < σ.length := (List.getElem?_eq_some_iff.1 hs).1
  have hil : i < σ.length := (List.getElem?_eq_some_iff.1 hi).1
  refine ⟨G.froz i, rfl, KE.of he, ?_, h.fr.ext he, h.df, h.nt⟩
  refine reread_rel hr (by rw [List.getElem?_set_ne hne]; exact hs) (fun h => by cases h) ?_
  rintro b f ⟨cur, t, fr, g1, g2, g3, g4⟩
  refine ⟨cur, t, fr, g1, g2, g3, fun k y hy => ?_⟩
  cases k with
  | succ k => simp at hy
  | zero =>
    simp at hy
    subst hy
    obtain ⟨k1, k2, k3⟩ := g4 0 e rfl
    rw [h1] at k1 k2 k3
    rw [h2]
    refine ⟨by simpa using k1, fun c hc => ?_, fun j c hc => ?_⟩
    · simp only [List.mem_append, List.mem_cons] at hc
      rcases hc with hc | rfl | hc
      · exact k2 c (by simp [hc])
      · rfl
      · exact k2 c (by simp [hc])
    · by_cases hj : j = pre.length
      · subst hj
        simp at hc
        subst hc
        obtain ⟨v, h6, h7⟩ := k3 pre.length (.own i sz2 cs2.length) (by simp)
        exact ⟨v, h6, rep_fz hr (List.getElem?_set_self hil) rfl h7⟩
      · have e : (pre ++ AV.own i sz2 cs2.length :: post)[j]? = some c := by
          rw [← hc]
          by_cases hlt : j < pre.length
          · rw [List.getElem?_append_left hlt, List.getElem?_append_left hlt]
          · rw [List.getElem?_append_right (by omega), List.getElem?_append_right (by omega)]
            obtain ⟨i, hi⟩ : ∃ i, j - pre.length = i + 1 := ⟨j - pre.length - 1, by omega⟩
            rw [hi]; rfl
        exact k3 j c e
end
/-! ## one thing is made anew, behind all others, and takes the place of an old one -/
def mv (k i : Nat) : List Nat := (List.range k).set i k
theorem mv_ne {k i t : Nat} (h : t < k) (hne : t ≠ i) : (mv k i)[t]? = some t := by
  unfold mv
  rw [List.getElem?_set_ne (fun e => hne e.symm), List.getElem?_range h]
theorem mv_eq {k i : Nat} (h : i < k) : (mv k i)[i]? = some k := by
  unfold mv
  rw [List.getElem?_set_self (by simpa using h)]
theorem mv_nd (k i : Nat) : (mv k i).Nodup := by
  unfold mv
  refine List.nodup_iff_pairwise_ne.2 ?_
  rw [List.pairwise_iff_getElem]
  intro a b ha hb hlt
  simp only [List.length_set, List.length_range] at ha hb
  rw [List.getElem_set, List.getElem_set]
  split <;> split <;> first | omega | (simp only [List.getElem_range]; omega)
theorem stR2_mv {σ0 σ' : List Ob} {k i : Nat} {ob ob' : Ob} (h0 : σ0.length = k) (h1 : σ'.length = k) (hi : σ'[i]? = some ob') (ho : ObR2 (mv k i) ob ob')
    (h : ∀ (t : Nat) a b, t ≠ i → σ0[t]? = some a → σ'[t]? = some b → ObR2 (mv k i) a b) : StR2 (σ0 ++ [ob]) (mv k i) σ' := by
  have hik : i < k := by rw [← h1]; exact (List.getElem?_eq_some_iff.1 hi).1
  refine ⟨by simp [mv, h1], fun t u o ht hot => ?_⟩
  have htk : t < k := by rw [← h1]; exact (List.getElem?_eq_some_iff.1 hot).1
  by_cases e : t = i
  · subst e
    rw [mv_eq hik] at ht
    obtain rfl := Option.some.inj ht
    rw [hi] at hot
    obtain rfl := Option.some.inj hot
    exact ⟨ob, by rw [← h0]; simp, ho⟩
  · rw [mv_ne htk e] at ht
    obtain rfl := Option.some.inj ht
    obtain ⟨a, ha⟩ : ∃ a, σ0[t]? = some a := ⟨σ0[t]'(by omega), List.getElem?_eq_getElem (by omega)⟩
    exact ⟨a, by rw [List.getElem?_append_left (by omega)]; exact ha, h t a o e ha hot⟩
theorem sto4 {Q : Ob → Ob → Prop} {i : Nat} {a0 a1 a2 a3 b0 b1 b2 b3 : Ob} {R R' : List Ob} (h0 : 0 ≠ i → Q a0 b0) (h1 : 1 ≠ i → Q a1 b1) (h2 : 2 ≠ i → Q a2 b2) (h3 : 3 ≠ i → Q a3 b3)
    (hR : ∀ (t : Nat) a b, t + 4 ≠ i → R[t]? = some a → R'[t]? = some b → Q a b) : ∀ (t : Nat) a b, t ≠ i → (a0 :: a1 :: a2 :: a3 :: R)[t]? = some a → (b0 :: b1 :: b2 :: b3 :: R')[t]? = some b → Q a b
  | 0, a, b, h, ha, hb => by simp at ha hb; subst ha hb; exact h0 h
  | 1, a, b, h, ha, hb => by simp at ha hb; subst ha hb; exact h1 h
  | 2, a, b, h, ha, hb => by simp at ha hb; subst ha hb; exact h2 h
  | 3, a, b, h, ha, hb => by simp at ha hb; subst ha hb; exact h3 h
  | t + 4, a, b, h, ha, hb => hR t a b h (by simpa using ha) (by simpa using hb)
/-- the row of rows under the new names -/
theorem ownR_mv {m sz sz0 : Nat} {rows : List (List AV)} {j k : Nat} {r : List AV} (hj : j < rows.length) (hk : k = rows.length + m) : ObR2 (mv k (j + m)) (.row sz0 ((ownR m sz rows).set j (.own k sz r.length))) (.row sz0 (ownR m sz (rows.set j r))) := by
  subst hk
  have := ownR_ren (m := m) (sz := sz) (sz0 := sz0) (rows := rows) (j := j) (L := rows.length + m) (r := r) hj
  rwa [show rho m rows.length j (rows.length + m) = mv (rows.length + m) (j + m) by unfold rho mv; rw [Nat.add_comm m]] at this
/-- the same row of rows, something else moved -/
theorem ownR_same {m sz sz0 i : Nat} {rows : List (List AV)} {k : Nat} (hk : k = rows.length + m) (hi : i < m) : ObR2 (mv k i) (.row sz0 (ownR m sz rows)) (.row sz0 (ownR m sz rows)) := by
  subst hk
  refine .rowN _ _ _ rfl (fun t e e' he he' => ?_)
  rw [he] at he'
  obtain rfl := Option.some.inj he'
  have ht : t < rows.length := by have := (List.getElem?_eq_some_iff.1 he).1; simpa [ownR_len] using this
  rw [ownR_get (List.getElem?_eq_getElem ht)] at he
  obtain rfl := Option.some.inj he
  refine ⟨rfl, fun j x y hx hy => ?_⟩
  rw [hx] at hy
  obtain rfl := Option.some.inj hy
  cases j with
  | succ j => simp [AV.cells] at hx
  | zero => simp [AV.cells] at hx; subst hx; exact .own _ _ _ _ _ (mv_ne (by omega) (by omega)) rfl
theorem obsR_mv {ρ : List Nat} {sz : Nat} {rows : List (List AV)} (h : ∀ r ∈ rows, ∀ e ∈ r, ∀ c ∈ e.cells, Lo 0 c) {t : Nat} {a b : Ob} (ha : (obsR sz rows)[t]? = some a) (hb : (obsR sz rows)[t]? = some b) : ObR2 ρ a b := by
  rw [ha] at hb
  obtain rfl := Option.some.inj hb
  exact obsR_lo h a (List.mem_of_getElem? ha)
/-! ## calls that change what is named from 0 on in the store -/
structure CallK (P : Program) (f : FuncId) (args : List AV) (σ : List Ob) (y : AV) (σ' : List Ob) : Prop where
  ent : Enters P f
  lo : Lo 0 y
  call : ∀ (G : Cx) (vargs : Array Value), Rel G σ → vargs.size = args.length → (∀ (j : Nat) v x, vargs[j]? = some v → args[j]? = some x → Rep G v x) →
    Calls P f vargs G.w fun ex w' => ∃ (v : Value) (G' : Cx), ex = .returned v ∧ G'.w = w' ∧ KE G G' ∧ Rel G' σ' ∧ Rep G' v y
section
variable {P : Program} {N : Nat} {F : Frm} {σ σ' : List Ob} {Q : Exit → Frm → List Ob → Prop} {ops : Array Oper} {o : Oper} {l : List Oper} {d : Nat} {fo : Operand} {ar : Array Operand} {ts : Array TypeId} {f : FuncId} {y : AV} {args caps : List AV}
theorem ops_callK (hd : o.dst = some d) (hN : Nat.blt d N = true) (hr : Runs ops F o true) (ho : o.op = .call { callee := .value fo, args := ar, argTypes := ts }) (hf : F.eval fo = .fn f caps) (hp : CallK P f args σ y σ') (ha : ar.toList.map F.eval ++ caps = args) (hF : ∀ p ∈ F, Lo 1 p.2)
    (k : AOps P N ops l ((d, y) :: F) σ' Q) : AOps P N ops (o :: l) F σ Q := fun G a hs => by
  unfold wpList
  rw [if_pos (hr.wanted hs.fr)]
  left
  obtain ⟨cap, h1, h2, h3⟩ := call_args ho (fun y _ => rep_eval hs.fr y) hf
  rw [ha] at h2 h3
  unfold Oper.wp
  rw [call_enter ho a.eval h1 hp.ent G.w, Oper.upon_enter]
  refine (hp.call G _ hs.rel h2 h3).mono ?_
  rintro ex w' ⟨v, G', rfl, rfl, hk, hr', hv⟩
  rw [hd]
  have hfr : FOk G' a F := fr_keep hF hs.fr hk
  exact wpList_mono (fun e' a w q => lift_mono hk.step (fun _ _ _ x => x) q) _ _ _ (k G' _ (S8.put ⟨hr', hfr, hs.df, hs.nt⟩ (by simpa [Nat.blt_eq] using hN) hv))
theorem callK_fn {fn : Func} {c : Code} (hf : P.funcs[f]? = some fn) (hname : (fn.name == "runtime.NumGoroutine") = false) (hb : fn.body = some c) (hn : args.length ≤ fn.ntmps) (hres : fn.results.toList = [])
    (h : KWp P fn.ntmps c (argF 0 args) σ (fun e F σ1 => (e = .normal ∨ e = .ret) ∧ σ1 = σ')) : CallK P f args σ (.tup []) σ' := by
  refine ⟨enters_of hf hname hb, .tup _ (by simp), fun G vargs hrel hsz hrep => ?_⟩
  refine calls_of_wp hf hb ?_
  have hfo : FOk G { tmps := vargs ++ Array.replicate (fn.ntmps - vargs.size) undef, defers := [] } (argF 0 args) := by
    intro d
    rw [argF_get]
    simp only [Nat.zero_le, if_true, Nat.sub_zero]
    by_cases hd : d < args.length
    · have h1 : (vargs ++ Array.replicate (fn.ntmps - vargs.size) undef).getD d undef = vargs[d]'(by omega) := by
        rw [Array.getD_eq_getD_getElem?, Array.getElem?_append_left (by omega)]
        simp [show d < vargs.size by omega]
      rw [h1]
      have h2 : args.getD d .any = args[d] := by rw [List.getD_eq_getElem?_getD, List.getElem?_eq_getElem hd]; rfl
      rw [h2]
      exact hrep d _ _ (by simp [show d < vargs.size by omega]) (by simp [hd])
    · have h2 : args.getD d .any = .any := by
        rw [List.getD_eq_getElem?_getD, List.getElem?_eq_none (by omega)]; rfl
      rw [h2]; exact .any _
  have hs8 : S8 fn.ntmps G { tmps := vargs ++ Array.replicate (fn.ntmps - vargs.size) undef, defers := [] } (argF 0 args) σ := ⟨hrel, hfo, rfl, by simp; omega⟩
  refine Code.wp_mono (fun e a w q => ?_) (h G _ hs8)
  obtain ⟨G', F', σ1, rfl, h2, h3, he, rfl⟩ := q
  have hrl : ResL P F' σ1 fn.results.toList [] := by rw [hres]; exact .nil
  obtain ⟨v, h6, h7⟩ := results_run (fn := fn) h3.rel h3.fr hrl
  have post : ∃ (v' : Value) (G'' : Cx), Ending.returned v = .returned v' ∧ G''.w = G'.w ∧ KE G G'' ∧ Rel G'' σ1 ∧ Rep G'' v' (.tup []) := ⟨v, G', rfl, rfl, h2, h3.rel, h7⟩
  rcases he with rfl | rfl
  · exact ⟨h3.df, _, h6, post⟩
  · exact ⟨h3.df, _, h6, post⟩
end
end Go.Proofs.Ytcpnffjnagbkoaa.Aw
end
section
namespace Go.Proofs.Ytcpnffjnagbkoaa.Aw
set_option linter.unusedSimpArgs false
set_option linter.unusedVariables false
set_option linter.unusedSectionVars false
open Go Go.RowKit Go.Proofs
variable {P : Program} [IsP P]

/-- a column of the dual program: a row, and whether it is turned -/
abbrev Sp := Nat × Bool
def dk (r : Int) (i : Nat) : List Sp := if r = 3 then [(i, false), (i, true)] else [(i, decide (r = 1))]
def stp (p : LP) : Nat → List Sp
  | 0 => []
  | i + 1 => stp p i ++ dk (gti p.rel i) i
def dC (p : LP) (T : List Sp) : List Fr := T.map fun s => if s.2 = true then gti p.b s.1 else fneg (gti p.b s.1)
def dX (p : LP) (j : Nat) (s : Sp) : Fr := if s.2 = true then fneg (gti (gti p.a s.1) j) else gti (gti p.a s.1) j
def dCol (p : LP) (T : List Sp) (j : Nat) : List Fr := T.map (dX p j)
/-- the rows, of which the first j have one column more -/
def dRows (p : LP) (T : List Sp) (s : List Sp) (j : Nat) : List (List AV) := (List.range p.c.length).map fun t => (dCol p (if t < j then T ++ s else T) t).map eF
def dlP (p : LP) : LP := ⟨dC p (stp p p.a.length), (List.range p.c.length).map (dCol p (stp p p.a.length)), List.replicate p.c.length 1, p.c⟩
def zLP : LP := ⟨[], [], [], []⟩
def ePI (r : LP × Int) : AV := .tup [eP r.1, eI r.2]
def dlE (p : LP) : LP × Int := if validP p = true then (if 12 < (dC p (stp p p.a.length)).length then (zLP, 5) else (dlP p, 0)) else (zLP, 1)
theorem dk_len (r : Int) (i : Nat) : 1 ≤ (dk r i).length ∧ (dk r i).length ≤ 2 := by unfold dk; split <;> simp
theorem stp_len (p : LP) : ∀ i, (stp p i).length ≤ 2 * i
  | 0 => by simp [stp]
  | i + 1 => by
    have := stp_len p i
    have := dk_len (gti p.rel i) i
    simp only [stp, List.length_append]; omega
theorem dC_len (p : LP) (T : List Sp) : (dC p T).length = T.length := by simp [dC]
theorem dC_snoc (p : LP) (T : List Sp) (s : Sp) : (dC p (T ++ [s])).map eF = (dC p T).map eF ++ [eF (if s.2 = true then gti p.b s.1 else fneg (gti p.b s.1))] := by simp [dC]
theorem dRows_len (p : LP) (T s : List Sp) (j : Nat) : (dRows p T s j).length = p.c.length := by simp [dRows]
theorem dRows_get {p : LP} {T s : List Sp} {j t : Nat} (h : t < p.c.length) : (dRows p T s j)[t]? = some ((dCol p (if t < j then T ++ s else T) t).map eF) := by
  simp [dRows, List.getElem?_range h]
theorem dRows_0 (p : LP) (T s : List Sp) : dRows p T s 0 = dRows p T [] 0 := by simp [dRows]
theorem dRows_n (p : LP) (T s : List Sp) : dRows p T s p.c.length = dRows p (T ++ s) [] 0 := by
  unfold dRows
  refine List.map_congr_left fun t ht => ?_
  rw [if_pos (List.mem_range.1 ht), if_neg (by omega)]
theorem dRows_step {p : LP} {T : List Sp} {s : Sp} {j : Nat} (hj : j < p.c.length) : (dRows p T [s] j).set j ((dCol p T j).map eF ++ [eF (dX p j s)]) = dRows p T [s] (j + 1) := by
  refine List.ext_getElem? fun t => ?_
  by_cases ht : t < p.c.length
  · rw [dRows_get ht]
    by_cases e : t = j
    · subst e
      rw [List.getElem?_set_self (by rw [dRows_len]; exact ht), if_pos (by omega)]
      simp [dCol]
    · rw [List.getElem?_set_ne (fun h => e h.symm), dRows_get ht]
      by_cases h : t < j
      · rw [if_pos h, if_pos (by omega)]
      · rw [if_neg h, if_neg (by omega)]
  · rw [List.getElem?_eq_none (by simp [dRows_len]; omega), List.getElem?_eq_none (by simp [dRows_len]; omega)]
theorem dRows_lo (p : LP) (T s : List Sp) (j : Nat) : ∀ r ∈ dRows p T s j, ∀ e ∈ r, ∀ c ∈ e.cells, Lo 0 c := by
  intro r hr
  simp only [dRows, List.mem_map] at hr
  obtain ⟨t, _, rfl⟩ := hr
  exact lo_mapE (fun a => (lo_F a).cells)
theorem dRows_end (p : LP) : (dRows p (stp p p.a.length) [] 0).map AV.sl = (dlP p).a.map (eL eF) := by
  simp only [dRows, dlP, List.map_map]
  refine List.map_congr_left fun t _ => ?_
  simp [eL]
/-- the store while the dual program is made, behind its variables -/
def stE (p : LP) (T : List Sp) (rows : List (List AV)) (rest : List Ob) : List Ob :=
  [.row 4 [.agg [.own 1 2 (dC p T).length, .own 2 1 p.c.length, .sl (List.replicate p.c.length (eI 1)), eL eF p.c]], .row 2 ((dC p T).map eF), .row 1 (ownR 4 2 rows)] ++ rest ++ obsR 2 rows
theorem stE_row {p : LP} {T : List Sp} {rows : List (List AV)} {ob : Ob} {j : Nat} {r : List AV} (h : rows[j]? = some r) : (stE p T rows [ob])[j + 4]? = some (.row 2 r) := by
  show (obsR 2 rows)[j]? = _
  exact obsR_get h
theorem validP_ok {p : LP} (hv : validP p = true) {i : Nat} (hi : i < p.a.length) : (gti p.b i).ok ∧ (∀ j, j < p.c.length → (gti (gti p.a i) j).ok) ∧ (gti p.a i).length = p.c.length ∧ (gti p.rel i = 1 ∨ gti p.rel i = 2 ∨ gti p.rel i = 3) := by
  obtain ⟨⟨q1, q2, q3, q4, q5, q6, q7, q8⟩, qr⟩ := validP_iff hv
  obtain ⟨r1, r2, r3⟩ := qr i hi
  refine ⟨(Fr.okB_iff _).1 (List.all_eq_true.1 q8 _ (gti_mem (by omega))), fun j hj => (Fr.okB_iff _).1 (List.all_eq_true.1 r2 _ (gti_mem (by omega))), r1, ?_⟩
  unfold relB at r3
  exact of_decide_eq_true r3
theorem dk_get {r : Int} {i k : Nat} (hr : r = 1 ∨ r = 2 ∨ r = 3) (hk : k < (dk r i).length) : ∃ tn, (dk r i)[k]? = some (i, tn) ∧ (tn = false → r = 2 ∨ r = 3 ∧ k = 0) ∧ (tn = true → r = 1 ∨ r = 3 ∧ k = 1) := by
  unfold dk at hk ⊢
  split at hk
  · rename_i h
    rw [if_pos h]
    match k, hk with
    | 0, _ => exact ⟨false, rfl, ⟨fun _ => .inr ⟨h, rfl⟩, fun h => Bool.noConfusion h⟩⟩
    | 1, _ => exact ⟨true, rfl, ⟨fun h => Bool.noConfusion h, fun _ => .inr ⟨h, rfl⟩⟩⟩
    | k + 2, h => exact absurd h (by simp)
  · rename_i h
    rw [if_neg h]
    match k, hk with
    | 0, _ => exact ⟨decide (r = 1), rfl, fun h1 => by have := of_decide_eq_false h1; omega, fun h1 => .inl (of_decide_eq_true h1)⟩
    | k + 1, h => exact absurd h (by simp)
theorem set_last {α : Type} (l : List α) (a b : α) : (l ++ [a]).set l.length b = l ++ [b] := by
  rw [List.set_append_right _ _ (Nat.le_refl _), Nat.sub_self]; rfl
theorem last_get {α : Type} (l : List α) (a : α) : (l ++ [a])[l.length]? = some a := by simp
theorem aw_fzs {N : Nat} {c : Code} {F : Frm} {Q : Exit → Frm → List Ob → Prop} {id sz sz2 : Nat} {S : List Ob} {rows : List (List AV)} (hs : S[id]? = some (.row sz (ownR S.length sz2 rows)))
    (h : ∀ X, AWp P N c F (S.set id (.row sz (rows.map .sl)) ++ X) Q) : AWp P N c F (S ++ obsR sz2 rows) Q := by
  obtain ⟨X, hX⟩ := wk_fzs (N := N) (F := F) hs
  exact aw_weak hX (h X)
def zP : AV := .agg [.s (.slice none 0 0), .s (.slice none 0 0), .s (.slice none 0 0), .s (.slice none 0 0)]
theorem zP_lo : ∀ e ∈ [zP], ∀ c ∈ e.cells, Lo 0 c := by
  intro e he c hc
  simp at he; subst he
  simp [zP, AV.cells] at hc; subst hc; exact .s _
theorem lo_FF (A : List (List Fr)) : Lo 0 (eL (eL eF) A) := lo_map fun r => lo_Fs r
theorem lo_P (p : LP) : Lo 0 (eP p) := .agg _ (lo_cons (lo_Fs _) (lo_cons (lo_FF _) (lo_cons (lo_map fun _ => .s _) (lo_cons (lo_Fs _) lo_nil))))
theorem post_cs {N : Nat} {F : Frm} {σ : List Ob} {ad u : Nat} {ty : TypeId} {id sz k n bt : Nat} {z : Option Value} {ob : Ob} {cs : List AV} {e1 r1 y r2 : AV} {e : Exit} (he : e = .normal ∨ e = .ret) (ha : tyAgg P ty = some true) (hi : tyInfo P ty = some (z, n, bt)) (hp : F.get ad = .ptr id sz k 0) (hs : σ[id]? = some ob) (ho : rowOf ob = some (sz, cs)) (hk : cs[k]? = some e1) (hn : e1.cells.length = n) (hu : F.get u = y) (hr1 : Fini σ (.agg e1.cells) r1) (hr2 : Fini σ y r2) : APost P [.cell ad ty, .tmp u] (.tup [r1, r2]) e F σ :=
  ⟨he, [.agg e1.cells, y], .cons _ _ _ _ (.cells ad ty id sz k n bt z ob cs e1 ha hi hp hs ho hk hn) (.cons _ _ _ _ (.tmp u y hu) .nil), .tup _ _ rfl (FiniL.cons hr1 (FiniL.cons hr2 FiniL.nil)).2⟩
theorem post_zp {N : Nat} {F : Frm} {σ : List Ob} {ad u : Nat} {ty : TypeId} {id sz n bt : Nat} {z : Option Value} {ob : Ob} {cs : List AV} {r : LP × Int} {m : Int} {e : Exit} (he : e = .normal ∨ e = .ret) (ha : tyAgg P ty = some true) (hi : tyInfo P ty = some (z, n, bt)) (hp : F.get ad = .ptr id sz 0 0) (hs : σ[id]? = some ob) (ho : rowOf ob = some (sz, cs)) (hk : cs[0]? = some zP) (hn : zP.cells.length = n) (hu : F.get u = eI m) (hr : r = (zLP, m)) : APost P [.cell ad ty, .tmp u] (ePI r) e F σ := by
  subst hr
  exact post_cs (N := 0) he ha hi hp hs ho hk hn hu (.agg _ _ rfl (FiniL.cons .nil (FiniL.cons .nil (FiniL.cons .nil (FiniL.cons .nil FiniL.nil)))).2) (.refl _)
theorem lo_nils (n : Nat) : ∀ e ∈ List.replicate n (AV.s (.slice none 0 0)), ∀ c ∈ e.cells, Lo 0 c := by
  intro e he c hc
  rw [List.eq_of_mem_replicate he] at hc
  simp [AV.cells] at hc; subst hc; exact .s _
theorem lo_ones (n : Nat) : ∀ e ∈ List.replicate n (eI 1), ∀ c ∈ e.cells, Lo 0 c := by
  intro e he c hc
  rw [List.eq_of_mem_replicate he] at hc
  simp [AV.cells, eI] at hc; subst hc; exact .s _
theorem lo_onesL (n : Nat) : Lo 0 (.sl (List.replicate n (eI 1))) := .sl _ (fun c hc => by rw [List.eq_of_mem_replicate hc]; exact .s _)
theorem stE_loOb (p : LP) (T : List Sp) (rows : List (List AV)) (hl : rows.length = p.c.length) (hr : ∀ r ∈ rows, ∀ e ∈ r, ∀ c ∈ e.cells, Lo 0 c) : ∀ ob ∈ stE p T rows [.row 4 [zP]], LoOb (stE p T rows [.row 4 [zP]]).length ob := by
  have hK : (stE p T rows [.row 4 [zP]]).length = p.c.length + 4 := by simp [stE, obsR_len, hl]
  rw [hK]
  intro ob hob
  simp only [stE, List.mem_append, List.mem_cons, List.not_mem_nil, or_false] at hob
  rcases hob with ((rfl | rfl | rfl) | rfl) | h
  · intro e he c hc
    simp at he; subst he
    simp [AV.cells] at hc
    rcases hc with rfl | rfl | rfl | rfl
    · exact .own _ _ _ (by omega)
    · exact .own _ _ _ (by omega)
    · exact lo_up (lo_onesL _)
    · exact lo_up (lo_Fs _)
  · intro e he c hc; exact lo_up (lo_mapE (fun a => (lo_F a).cells) e he c hc)
  · intro e he c hc
    simp only [ownR, List.mem_map, List.mem_range] at he
    obtain ⟨t, ht, rfl⟩ := he
    simp [AV.cells] at hc; subst hc
    exact .own _ _ _ (by omega)
  · intro e he c hc; exact lo_up (zP_lo e he c hc)
  · simp only [obsR, List.mem_map] at h
    obtain ⟨r, h1, rfl⟩ := h
    intro e he c hc; exact lo_up (hr r h1 e he c hc)
end Go.Proofs.Ytcpnffjnagbkoaa.Aw
end
