/-
  Texts joined: SpL, OpA, SpU, SpVp. Conditions: none.
-/
import Derived.Test.YthdpacbjbdkemaaJP9
import Derived.Test.YthdpacbjbdkemaaRows
import Derived.Test.YthdpacbjbdkemaaJP5
import Derived.ProofKit
import Derived.Below
import Derived.ChangeShapes
import Derived.ChangeSame
import Derived.ChangeSlices
import Derived.DataReads
import Derived.Test.YthdpacbjbdkemaaJP11
section
namespace Go.Proofs.Ythdpacbjbdkemaa.Aw
set_option linter.unusedSimpArgs false
set_option linter.unusedVariables false
set_option linter.unusedSectionVars false
open Go Go.RowKit Go.Proofs
variable {P : Program} [IsP P]

theorem drop_range {N k : Nat} (h : k < N) : (List.range N).drop k = k :: (List.range N).drop (k + 1) := by
  have e : gti (List.range N) k = k := by unfold gti; simp [h]
  have := drop_gti (l := List.range N) (k := k) (by simpa using h)
  rwa [e] at this
theorem take_snocI {l : List Int} {k : Nat} (h : k < l.length) : l.take (k + 1) = l.take k ++ [gti l k] := by
  rw [List.take_add_one, gti_get h]; rfl
set_option maxHeartbeats 8000000 in
theorem rPath_pf (s : Spc) (tg : Int) : Pure P 19 [eSpc s, eI tg] (eLE (pathE s tg)) := by
  have hf := rFormed_pf (P := P) s
  have hfi := formedB_iff (s := s)
  have HI : pathE s tg = if formedB s = true then (if tg < 0 ∨ (s.st.length : Int) ≤ tg then ([], 2) else if tg ≠ 0 ∧ gti (bend s).2 tg.toNat < 0 then ([], 10) else ((backP s.mv (bend s).2 s.st.length tg).reverse, 0)) else ([], 1) := rfl
  generalize pathE s tg = R at HI ⊢
  generalize formedB s = z at hf hfi HI
  have hls : Lo 0 (.ref (eSpc s).cells) := .ref _ (lo_Spc s).cells
  refine aw_fn (by rw [IsP.eq (P := P)]; exact Try.func19) rfl rfl rfl rfl rfl (lo_cons (lo_Spc s) (lo_cons (.s _) lo_nil)) (.tup _ (lo_cons lo_I (lo_cons (.s _) lo_nil))) (by simp only [argF]; rfl) ?_
  repeat (first | refine aw_seq ?_ | refine ath_n ?_ | refine aw_skip ?_ | refine abl_n ?_ | refine aw_block ?_)
  refine aw_region ?_
  refine ops_op rfl rfl (runs_none rfl) (does_box rfl rfl rfl rfl) ?_
  refine aops_weak (wk_froz (id := 0) rfl) (aops_weak (wk_ref (d := 2) rfl rfl rfl) ?_)
  first | refine ops_op rfl rfl (runs_none rfl) (mv_own (.inr rfl) rfl) ?_ | refine ops_op rfl rfl (runs_none rfl) (mv_sl (.inr rfl) rfl) ?_ | refine ops_op rfl rfl (runs_none rfl) (mv_s (.inr rfl) rfl) ?_ | refine ops_op rfl rfl (runs_none rfl) (mv_emp (.inr rfl) rfl) ?_ | refine ops_op rfl rfl (runs_none rfl) (mv_sub (.inr rfl) rfl) ?_
  refine ops_op rfl rfl (runs_none rfl) (mv_s (.inr rfl) rfl) ?_
  refine ops_nil ?_
  repeat (first | refine aw_seq ?_ | refine ath_n ?_ | refine aw_skip ?_ | refine abl_n ?_ | refine aw_block ?_)
  all_goals refine aw_region ?_
  all_goals (first | refine ops_op rfl rfl (runs_none rfl) (does_load_refw rfl ta29 ti29 rfl rfl) ?_ | refine ops_op rfl rfl (runs_none rfl) (does_load_whole rfl ta29 ti29 rfl rfl rfl rfl rfl) ?_ | refine ops_op rfl rfl (runs_none rfl) (does_load_refs rfl ta29 ti29 rfl (Nat.le_of_ble_eq_true rfl)) ?_ | refine ops_op rfl rfl (runs_none rfl) (does_load_ptrs rfl ta29 ti29 rfl rfl rfl rfl (Nat.le_of_ble_eq_true rfl)) ?_)
  all_goals (first | refine ops_opP rfl rfl (runs_none rfl) (does_call rfl rfl (hf) (evc_cons rfl evc_nil)) (fun h16 => ?_) (fun h16 => ?_) | refine ops_opB rfl rfl (runs_none rfl) (does_call rfl rfl (hf) (evc_cons rfl evc_nil)) (fun h16 => ?_) (fun h16 => ?_))
  all_goals (first | refine ops_op rfl rfl (runs_none rfl) (does_notp rfl rfl) ?_ | refine ops_op rfl rfl (runs_none rfl) (does_not rfl rfl) ?_)
  all_goals refine ops_nil ?_
  all_goals (repeat (first | refine aw_seq ?_ | refine ath_n ?_ | refine aw_skip ?_ | refine abl_n ?_ | refine aw_block ?_))
  all_goals (first | refine aw_true rfl ?_ | refine aw_false rfl ?_)
  all_goals (repeat (first | refine aw_seq ?_ | refine ath_n ?_ | refine aw_skip ?_ | refine abl_n ?_ | refine aw_block ?_))
  rotate_left 1
  · skip
    refine aw_region ?_
    first | refine ops_op rfl rfl (runs_none rfl) (mv_own (.inr rfl) rfl) ?_ | refine ops_op rfl rfl (runs_none rfl) (mv_sl (.inr rfl) rfl) ?_ | refine ops_op rfl rfl (runs_none rfl) (mv_s (.inr rfl) rfl) ?_ | refine ops_op rfl rfl (runs_none rfl) (mv_emp (.inr rfl) rfl) ?_ | refine ops_op rfl rfl (runs_none rfl) (mv_sub (.inr rfl) rfl) ?_
    refine ops_op rfl rfl (runs_none rfl) (mv_s (.inr rfl) rfl) ?_
    refine ops_nil ?_
    repeat (first | refine aw_seq ?_ | refine ath_n ?_ | refine aw_skip ?_ | refine abl_n ?_ | refine aw_block ?_)
    (refine aw_ret ?_; repeat (first | refine ath_r ?_ | refine abl_r ?_))
    exact post_le (N := 0) (.inr rfl) rfl rfl .nil (by rw [HI, if_neg (by rw [h16]; simp)])
  rw [if_pos h16] at HI
  obtain ⟨⟨hn1, hn2, hm1⟩, hmr⟩ := hfi h16
  obtain ⟨n, hn⟩ : ∃ n, n = s.st.length := ⟨_, rfl⟩
  all_goals refine aw_region ?_
  all_goals refine ops_op rfl rfl (runs_none rfl) (mv_s (.inl rfl) rfl) ?_
  all_goals (first | refine ops_opP rfl rfl (runs_none rfl) (does_lss rfl rfl rfl) (fun h19 => ?_) (fun h19 => ?_) | refine ops_opB rfl rfl (runs_none rfl) (does_lss rfl rfl rfl) (fun h19 => ?_) (fun h19 => ?_))
  all_goals refine ops_op rfl rfl (runs_none rfl) (mv_s (.inl rfl) rfl) ?_
  all_goals (first | refine ops_op rfl rfl (runs_y rfl rfl rfl) (mv_s (.inl rfl) rfl) ?_ | refine ops_skip rfl rfl (runs_nf rfl rfl rfl) ?_ | refine ops_skip rfl rfl (runs_nu rfl rfl rfl) ?_)
  all_goals (first | refine ops_op rfl rfl (runs_y rfl rfl rfl) (does_fieldAddr_ptr rfl tf29_0 (by decide) rfl) ?_ | refine ops_op rfl rfl (runs_y rfl rfl rfl) (does_fieldAddr_ref rfl tf29_0 (by decide) rfl) ?_ | refine ops_skip rfl rfl (runs_nf rfl rfl rfl) ?_ | refine ops_skip rfl rfl (runs_nu rfl rfl rfl) ?_)
  all_goals (first | refine ops_op rfl rfl (runs_y rfl rfl rfl) (does_load_ref rfl ta26 rfl) ?_ | refine ops_op rfl rfl (runs_y rfl rfl rfl) (does_load_ptr rfl ta26 rfl rfl rfl rfl rfl) ?_ | refine ops_skip rfl rfl (runs_nf rfl rfl rfl) ?_ | refine ops_skip rfl rfl (runs_nu rfl rfl rfl) ?_)
  all_goals (first | refine ops_op rfl rfl (runs_y rfl rfl rfl) (does_len_map rfl ts26 rfl) ?_ | refine ops_op rfl rfl (runs_y rfl rfl rfl) (does_len_sl rfl ts26 rfl) ?_ | refine ops_op rfl rfl (runs_y rfl rfl rfl) (does_len_own rfl ts26 rfl) ?_ | refine ops_op rfl rfl (runs_y rfl rfl rfl) (does_len_s rfl ts26 rfl) ?_ | refine ops_op rfl rfl (runs_y rfl rfl rfl) (does_len_emp rfl ts26 rfl) ?_ | refine ops_op rfl rfl (runs_y rfl rfl rfl) (does_len_sub rfl ts26 rfl) ?_ | refine ops_skip rfl rfl (runs_nf rfl rfl rfl) ?_ | refine ops_skip rfl rfl (runs_nu rfl rfl rfl) ?_)
  all_goals (first | refine ops_opP rfl rfl (runs_y rfl rfl rfl) (does_geq rfl rfl rfl) (fun h25 => ?_) (fun h25 => ?_) | refine ops_opB rfl rfl (runs_y rfl rfl rfl) (does_geq rfl rfl rfl) (fun h25 => ?_) (fun h25 => ?_) | refine ops_skip rfl rfl (runs_nf rfl rfl rfl) ?_ | refine ops_skip rfl rfl (runs_nu rfl rfl rfl) ?_)
  all_goals (first | refine ops_op rfl rfl (runs_none rfl) (pickT_s rfl rfl rfl) ?_ | refine ops_op rfl rfl (runs_none rfl) (pickF_s rfl rfl rfl) ?_ | refine ops_op rfl rfl (runs_none rfl) (does_pickT rfl rfl rfl) ?_ | refine ops_op rfl rfl (runs_none rfl) (does_pickF rfl rfl rfl) ?_)
  all_goals refine ops_nil ?_
  all_goals (repeat (first | refine aw_seq ?_ | refine ath_n ?_ | refine aw_skip ?_ | refine abl_n ?_ | refine aw_block ?_))
  all_goals (first | refine aw_true rfl ?_ | refine aw_false rfl ?_)
  all_goals (repeat (first | refine aw_seq ?_ | refine ath_n ?_ | refine aw_skip ?_ | refine abl_n ?_ | refine aw_block ?_))
  all_goals first
    | skip
      refine aw_region ?_
      first | refine ops_op rfl rfl (runs_none rfl) (mv_own (.inr rfl) rfl) ?_ | refine ops_op rfl rfl (runs_none rfl) (mv_sl (.inr rfl) rfl) ?_ | refine ops_op rfl rfl (runs_none rfl) (mv_s (.inr rfl) rfl) ?_ | refine ops_op rfl rfl (runs_none rfl) (mv_emp (.inr rfl) rfl) ?_ | refine ops_op rfl rfl (runs_none rfl) (mv_sub (.inr rfl) rfl) ?_
      refine ops_op rfl rfl (runs_none rfl) (mv_s (.inr rfl) rfl) ?_
      refine ops_nil ?_
      repeat (first | refine aw_seq ?_ | refine ath_n ?_ | refine aw_skip ?_ | refine abl_n ?_ | refine aw_block ?_)
      (refine aw_ret ?_; repeat (first | refine ath_r ?_ | refine abl_r ?_))
      exact post_le (N := 0) (.inr rfl) rfl rfl .nil (by rw [HI, if_pos (by omega)])
    | skip
  rw [if_neg (by omega), ← hn] at HI
  obtain ⟨tn, rfl⟩ : ∃ tn : Nat, tg = (tn : Int) := ⟨tg.toNat, by omega⟩
  rw [Int.toNat_natCast] at HI
  refine aw_region ?_
  first | refine ops_op rfl rfl (runs_none rfl) (mv_own (.inr rfl) rfl) ?_ | refine ops_op rfl rfl (runs_none rfl) (mv_sl (.inr rfl) rfl) ?_ | refine ops_op rfl rfl (runs_none rfl) (mv_s (.inr rfl) rfl) ?_ | refine ops_op rfl rfl (runs_none rfl) (mv_emp (.inr rfl) rfl) ?_ | refine ops_op rfl rfl (runs_none rfl) (mv_sub (.inr rfl) rfl) ?_
  refine ops_nil ?_
  repeat (first | refine aw_seq ?_ | refine ath_n ?_ | refine aw_skip ?_ | refine abl_n ?_ | refine aw_block ?_)
  refine aw_weak (wk_own (d := 6) 1 rfl (.inr rfl)) ?_
  refine aw_region ?_
  refine ops_op rfl rfl (runs_none rfl) (mv_s (.inr rfl) rfl) ?_
  refine ops_nil ?_
  repeat (first | refine aw_seq ?_ | refine ath_n ?_ | refine aw_skip ?_ | refine abl_n ?_ | refine aw_block ?_)
  refine aw_loops (S := Nat) (fun k => [(1, eI tn), (2, .ref (eSpc s).cells), (6, .own 0 1 k), (7, eI k)]) (fun k => [.row 1 ((List.replicate k (-1 : Int)).map eI)]) (fun k => k ≤ s.st.length) (fun k => s.st.length - k) 0 (wk_st [1] (by decide) ⟨⟨_, rfl, .rowE (rowI_lo _) rfl⟩, trivial⟩ ⟨.lo _ (by repeat' (first | exact Lo.s _ | exact Lo.emp | exact Lo.any | exact lo_nil | exact lo_nilE | refine lo_cons ?_ ?_ | refine lo_consE ?_ ?_ | refine lo_map ?_ | refine lo_mapE ?_ | refine Lo.cells ?_ | refine Lo.agg _ ?_ | refine Lo.ref _ ?_ | refine Lo.tup _ ?_ | refine Lo.fn _ _ ?_ | refine Lo.sl _ ?_ | intro _)), .lo _ hls, .own 1 0 1 _ _ rfl rfl, .lo _ (by repeat' (first | exact Lo.s _ | exact Lo.emp | exact Lo.any | exact lo_nil | exact lo_nilE | refine lo_cons ?_ ?_ | refine lo_consE ?_ ?_ | refine lo_map ?_ | refine lo_mapE ?_ | refine Lo.cells ?_ | refine Lo.agg _ ?_ | refine Lo.ref _ ?_ | refine Lo.tup _ ?_ | refine Lo.fn _ _ ?_ | refine Lo.sl _ ?_ | intro _)), trivial⟩) (Nat.zero_le _) (fun k hk => ?_)
  repeat (first | refine aw_seq ?_ | refine ath_n ?_ | refine aw_skip ?_ | refine abl_n ?_ | refine aw_block ?_)
  all_goals refine aw_region ?_
  all_goals refine ops_op rfl rfl (runs_none rfl) (mv_s (.inl rfl) rfl) ?_
  all_goals (first | refine ops_op rfl rfl (runs_none rfl) (does_fieldAddr_ptr rfl tf29_0 (by decide) rfl) ?_ | refine ops_op rfl rfl (runs_none rfl) (does_fieldAddr_ref rfl tf29_0 (by decide) rfl) ?_)
  all_goals (first | refine ops_op rfl rfl (runs_none rfl) (does_load_ref rfl ta26 rfl) ?_ | refine ops_op rfl rfl (runs_none rfl) (does_load_ptr rfl ta26 rfl rfl rfl rfl rfl) ?_)
  all_goals (first | refine ops_op rfl rfl (runs_none rfl) (does_len_map rfl ts26 rfl) ?_ | refine ops_op rfl rfl (runs_none rfl) (does_len_sl rfl ts26 rfl) ?_ | refine ops_op rfl rfl (runs_none rfl) (does_len_own rfl ts26 rfl) ?_ | refine ops_op rfl rfl (runs_none rfl) (does_len_s rfl ts26 rfl) ?_ | refine ops_op rfl rfl (runs_none rfl) (does_len_emp rfl ts26 rfl) ?_ | refine ops_op rfl rfl (runs_none rfl) (does_len_sub rfl ts26 rfl) ?_)
  all_goals (first | refine ops_opP rfl rfl (runs_none rfl) (does_lss rfl rfl rfl) (fun h31 => ?_) (fun h31 => ?_) | refine ops_opB rfl rfl (runs_none rfl) (does_lss rfl rfl rfl) (fun h31 => ?_) (fun h31 => ?_))
  all_goals refine ops_nil ?_
  all_goals (repeat (first | refine aw_seq ?_ | refine ath_n ?_ | refine aw_skip ?_ | refine abl_n ?_ | refine aw_block ?_))
  all_goals (first | refine aw_true rfl ?_ | refine aw_false rfl ?_)
  all_goals (repeat (first | refine aw_seq ?_ | refine ath_n ?_ | refine aw_skip ?_ | refine abl_n ?_ | refine aw_block ?_))
  · have hrl : ((List.replicate k (-1 : Int)).map eI).length = k := by simp
    refine aw_region ?_
    first | refine ops_op rfl rfl (runs_none rfl) (mv_own (.inl rfl) rfl) ?_ | refine ops_op rfl rfl (runs_none rfl) (mv_sl (.inl rfl) rfl) ?_ | refine ops_op rfl rfl (runs_none rfl) (mv_s (.inl rfl) rfl) ?_ | refine ops_op rfl rfl (runs_none rfl) (mv_emp (.inl rfl) rfl) ?_ | refine ops_op rfl rfl (runs_none rfl) (mv_sub (.inl rfl) rfl) ?_
    first | refine ops_op rfl rfl (runs_none rfl) (lit1_sF rfl ts25 ti3 rfl rfl rfl rfl) ?_ | refine ops_op rfl rfl (runs_none rfl) (lit1_slF rfl ts25 ti3 rfl rfl rfl rfl (by repeat' (first | exact Lo.s _ | exact Lo.emp | exact Lo.any | exact lo_nil | exact lo_nilE | refine lo_cons ?_ ?_ | refine lo_consE ?_ ?_ | refine lo_map ?_ | refine lo_mapE ?_ | refine Lo.cells ?_ | refine Lo.agg _ ?_ | refine Lo.ref _ ?_ | refine Lo.tup _ ?_ | refine Lo.fn _ _ ?_ | refine Lo.sl _ ?_ | intro _))) ?_ | refine ops_op rfl rfl (runs_none rfl) (does_litAF rfl ts25 ti3 rfl rfl (by decide) (by decide) rfl rfl rfl (by repeat' (first | exact Lo.s _ | exact Lo.emp | exact Lo.any | exact lo_nil | exact lo_nilE | refine lo_cons ?_ ?_ | refine lo_consE ?_ ?_ | refine lo_map ?_ | refine lo_mapE ?_ | refine Lo.cells ?_ | refine Lo.agg _ ?_ | refine Lo.ref _ ?_ | refine Lo.tup _ ?_ | refine Lo.fn _ _ ?_ | refine Lo.sl _ ?_ | intro _))) ?_
    first | refine ops_op rfl rfl (runs_none rfl) (does_append rfl ts25 ti3 rfl (by decide) rfl rfl (by first | rfl | (simp; done) | (simp; omega)) rfl (by first | exact .own _ _ _ rfl rfl _ (by first | rfl | simp) | exact .emp | exact .nil | exact .sl _ (by first | simp; done | intro e he; simp at he; obtain ⟨_, _, rfl⟩ := he; rfl)) (by first | omega | (simp; omega) | (unfold maxLen; simp; omega)) (by first | omega | (simp; omega) | (unfold maxLen; simp; omega))) ?_ | refine ops_op rfl rfl (runs_none rfl) (does_append0 rfl ts25 ti3 rfl (by decide) rfl (.inl rfl) rfl (by first | exact .own _ _ _ rfl rfl _ (by first | rfl | simp) | exact .emp | exact .nil | exact .sl _ (by first | simp; done | intro e he; simp at he; obtain ⟨_, _, rfl⟩ := he; rfl)) (by first | omega | (simp; omega) | (unfold maxLen; simp; omega)) (by first | omega | (simp; omega) | (unfold maxLen; simp; omega))) ?_ | refine ops_op rfl rfl (runs_none rfl) (does_append0 rfl ts25 ti3 rfl (by decide) rfl (.inr rfl) rfl (by first | exact .own _ _ _ rfl rfl _ (by first | rfl | simp) | exact .emp | exact .nil | exact .sl _ (by first | simp; done | intro e he; simp at he; obtain ⟨_, _, rfl⟩ := he; rfl)) (by first | omega | (simp; omega) | (unfold maxLen; simp; omega)) (by first | omega | (simp; omega) | (unfold maxLen; simp; omega))) ?_
    first | refine ops_op rfl rfl (runs_none rfl) (mv_own (.inr rfl) rfl) ?_ | refine ops_op rfl rfl (runs_none rfl) (mv_sl (.inr rfl) rfl) ?_ | refine ops_op rfl rfl (runs_none rfl) (mv_s (.inr rfl) rfl) ?_ | refine ops_op rfl rfl (runs_none rfl) (mv_emp (.inr rfl) rfl) ?_ | refine ops_op rfl rfl (runs_none rfl) (mv_sub (.inr rfl) rfl) ?_
    refine ops_nil ?_
    repeat (first | refine aw_seq ?_ | refine ath_n ?_ | refine aw_skip ?_ | refine abl_n ?_ | refine aw_block ?_)
    refine aw_region ?_
    refine ops_op rfl rfl (runs_none rfl) (mv_s (.inl rfl) rfl) ?_
    refine ops_op rfl rfl (runs_none rfl) (does_add rfl rfl rfl (IntWalk.i64_in _ (by omega))) ?_
    refine ops_op rfl rfl (runs_none rfl) (mv_s (.inr rfl) rfl) ?_
    refine ops_nil ?_
    repeat (first | refine aw_seq ?_ | refine ath_n ?_ | refine aw_skip ?_ | refine abl_n ?_ | refine aw_block ?_)
    exact ⟨k + 1, by omega, by omega, wk_st [1] (by decide) ⟨⟨_, rfl, .rowE (rowI_lo _) (by rw [List.replicate_succ', List.map_append]; rfl)⟩, trivial⟩ ⟨.lo _ (by repeat' (first | exact Lo.s _ | exact Lo.emp | exact Lo.any | exact lo_nil | exact lo_nilE | refine lo_cons ?_ ?_ | refine lo_consE ?_ ?_ | refine lo_map ?_ | refine lo_mapE ?_ | refine Lo.cells ?_ | refine Lo.agg _ ?_ | refine Lo.ref _ ?_ | refine Lo.tup _ ?_ | refine Lo.fn _ _ ?_ | refine Lo.sl _ ?_ | intro _)), .lo _ hls, .own 1 0 1 _ _ rfl (by rw [hrl]; rfl), .lo _ (by repeat' (first | exact Lo.s _ | exact Lo.emp | exact Lo.any | exact lo_nil | exact lo_nilE | refine lo_cons ?_ ?_ | refine lo_consE ?_ ?_ | refine lo_map ?_ | refine lo_mapE ?_ | refine Lo.cells ?_ | refine Lo.agg _ ?_ | refine Lo.ref _ ?_ | refine Lo.tup _ ?_ | refine Lo.fn _ _ ?_ | refine Lo.sl _ ?_ | intro _)), trivial⟩⟩
  have e : k = s.st.length := by omega
  subst e
  rw [← hn] at hn1 hn2
  simp only [← hn] at hmr h19 h25
  (refine aw_exit ?_; repeat (first | refine ath_x ?_ | refine abl_hit ?_ | refine abl_miss rfl ?_ | refine abl_n ?_ | refine ath_n ?_ | refine aw_seq ?_ | refine aw_skip ?_ | refine aw_block ?_))
  rw [← hn]
  refine aw_region ?_
  first | refine ops_op rfl rfl (runs_none rfl) (lit1_s rfl ts25 ti3 rfl rfl rfl rfl) ?_ | refine ops_op rfl rfl (runs_none rfl) (lit1_sl rfl ts25 ti3 rfl rfl rfl rfl) ?_ | refine ops_op rfl rfl (runs_none rfl) (does_litA rfl ts25 ti3 rfl rfl (by decide) (by decide) rfl rfl rfl) ?_
  first | refine ops_op rfl rfl (runs_none rfl) (mv_own (.inr rfl) rfl) ?_ | refine ops_op rfl rfl (runs_none rfl) (mv_sl (.inr rfl) rfl) ?_ | refine ops_op rfl rfl (runs_none rfl) (mv_s (.inr rfl) rfl) ?_ | refine ops_op rfl rfl (runs_none rfl) (mv_emp (.inr rfl) rfl) ?_ | refine ops_op rfl rfl (runs_none rfl) (mv_sub (.inr rfl) rfl) ?_
  refine ops_nil ?_
  repeat (first | refine aw_seq ?_ | refine ath_n ?_ | refine aw_skip ?_ | refine abl_n ?_ | refine aw_block ?_)
  refine aw_region ?_
  refine ops_op rfl rfl (runs_none rfl) (mv_s (.inr rfl) rfl) ?_
  refine ops_nil ?_
  repeat (first | refine aw_seq ?_ | refine ath_n ?_ | refine aw_skip ?_ | refine abl_n ?_ | refine aw_block ?_)
  have hBI := BI.init (mv := s.mv) hn1
  obtain ⟨W, hW⟩ : ∃ W, bend s = W := ⟨_, rfl⟩
  have hW0 : bfs s.mv n 0 (bs0 n) = W := by rw [← hW, hn]; rfl
  rw [hW] at HI
  refine aw_loops (S := Nat × QB) (fun p => [(1, eI tn), (2, .ref (eSpc s).cells), (6, .own 0 1 n), (8, .own 1 1 p.2.1.length), (9, eI p.1)]) (fun p => [.row 1 (p.2.2.map eI), .row 1 (p.2.1.map eI)]) (fun p => BI s.mv n p.2 ∧ p.1 ≤ p.2.1.length ∧ bfs s.mv (n - p.1) p.1 p.2 = W) (fun p => n - p.1) (0, bs0 n)
    (wk_st [0, 1] (by decide) ⟨⟨_, rfl, .rowE (rowI_lo _) rfl⟩, ⟨_, rfl, .rowE (rowI_lo _) rfl⟩, trivial⟩ ⟨.lo _ (by repeat' (first | exact Lo.s _ | exact Lo.emp | exact Lo.any | exact lo_nil | exact lo_nilE | refine lo_cons ?_ ?_ | refine lo_consE ?_ ?_ | refine lo_map ?_ | refine lo_mapE ?_ | refine Lo.cells ?_ | refine Lo.agg _ ?_ | refine Lo.ref _ ?_ | refine Lo.tup _ ?_ | refine Lo.fn _ _ ?_ | refine Lo.sl _ ?_ | intro _)), .lo _ hls, .own 0 0 1 _ _ rfl rfl, .own 1 1 1 _ _ rfl rfl, .lo _ (by repeat' (first | exact Lo.s _ | exact Lo.emp | exact Lo.any | exact lo_nil | exact lo_nilE | refine lo_cons ?_ ?_ | refine lo_consE ?_ ?_ | refine lo_map ?_ | refine lo_mapE ?_ | refine Lo.cells ?_ | refine Lo.agg _ ?_ | refine Lo.ref _ ?_ | refine Lo.tup _ ?_ | refine Lo.fn _ _ ?_ | refine Lo.sl _ ?_ | intro _)), trivial⟩) ⟨hBI, Nat.zero_le _, hW0⟩ (fun p hp => ?_)
  obtain ⟨i, q⟩ := p
  obtain ⟨hB, hi, hE⟩ := hp
  replace hB : BI s.mv n q := hB
  replace hi : i ≤ q.1.length := hi
  replace hE : bfs s.mv (n - i) i q = W := hE
  have hqn := hB.len
  have hbl := hB.bl
  repeat (first | refine aw_seq ?_ | refine ath_n ?_ | refine aw_skip ?_ | refine abl_n ?_ | refine aw_block ?_)
  all_goals refine aw_region ?_
  all_goals refine ops_op rfl rfl (runs_none rfl) (mv_s (.inl rfl) rfl) ?_
  all_goals (first | refine ops_op rfl rfl (runs_none rfl) (mv_own (.inl rfl) rfl) ?_ | refine ops_op rfl rfl (runs_none rfl) (mv_sl (.inl rfl) rfl) ?_ | refine ops_op rfl rfl (runs_none rfl) (mv_s (.inl rfl) rfl) ?_ | refine ops_op rfl rfl (runs_none rfl) (mv_emp (.inl rfl) rfl) ?_ | refine ops_op rfl rfl (runs_none rfl) (mv_sub (.inl rfl) rfl) ?_)
  all_goals (first | refine ops_op rfl rfl (runs_none rfl) (does_len_map rfl ts25 rfl) ?_ | refine ops_op rfl rfl (runs_none rfl) (does_len_sl rfl ts25 rfl) ?_ | refine ops_op rfl rfl (runs_none rfl) (does_len_own rfl ts25 rfl) ?_ | refine ops_op rfl rfl (runs_none rfl) (does_len_s rfl ts25 rfl) ?_ | refine ops_op rfl rfl (runs_none rfl) (does_len_emp rfl ts25 rfl) ?_ | refine ops_op rfl rfl (runs_none rfl) (does_len_sub rfl ts25 rfl) ?_)
  all_goals (first | refine ops_opP rfl rfl (runs_none rfl) (does_lss rfl rfl rfl) (fun h41 => ?_) (fun h41 => ?_) | refine ops_opB rfl rfl (runs_none rfl) (does_lss rfl rfl rfl) (fun h41 => ?_) (fun h41 => ?_))
  all_goals refine ops_nil ?_
  all_goals (repeat (first | refine aw_seq ?_ | refine ath_n ?_ | refine aw_skip ?_ | refine abl_n ?_ | refine aw_block ?_))
  all_goals (first | refine aw_true rfl ?_ | refine aw_false rfl ?_)
  all_goals (repeat (first | refine aw_seq ?_ | refine ath_n ?_ | refine aw_skip ?_ | refine abl_n ?_ | refine aw_block ?_))
  all_goals dsimp only at h41
  · have hlt : i < q.1.length := by omega
    obtain ⟨u, hu⟩ : ∃ u : Nat, gti q.1 i = u := ⟨(gti q.1 i).toNat, by have := hB.at_ hlt; omega⟩
    have hun : u < n := by have := hB.at_ hlt; omega
    rw [show n - i = (n - (i + 1)) + 1 by omega, show bfs s.mv ((n - (i + 1)) + 1) i q = if i < q.1.length then bfs s.mv (n - (i + 1)) (i + 1) (brow s.mv (gti q.1 i) q (List.range s.mv.length)) else q from rfl, if_pos hlt, hu] at hE
    refine aw_region ?_
    refine ops_op rfl rfl (runs_none rfl) (mv_s (.inr rfl) rfl) ?_
    refine ops_nil ?_
    repeat (first | refine aw_seq ?_ | refine ath_n ?_ | refine aw_skip ?_ | refine abl_n ?_ | refine aw_block ?_)
    refine aw_loops (S := Nat × QB) (fun p => [(1, eI tn), (2, .ref (eSpc s).cells), (6, .own 0 1 n), (8, .own 1 1 p.2.1.length), (9, eI i), (10, eI p.1)]) (fun p => [.row 1 (p.2.2.map eI), .row 1 (p.2.1.map eI)]) (fun p => BI s.mv n p.2 ∧ i < p.2.1.length ∧ gti p.2.1 i = u ∧ p.1 ≤ s.mv.length ∧ bfs s.mv (n - (i + 1)) (i + 1) (brow s.mv u p.2 ((List.range s.mv.length).drop p.1)) = W) (fun p => s.mv.length - p.1) (0, q)
      (wk_sub _ ⟨rfl, rfl, rfl, rfl, rfl, rfl, trivial⟩) ⟨hB, hlt, hu, Nat.zero_le _, hE⟩ (fun p hp => ?_)
    clear hE hB hqn hbl hu hlt hi
    obtain ⟨k, q⟩ := p
    obtain ⟨hB, hlt, hu, hk, hE⟩ := hp
    replace hB : BI s.mv n q := hB
    replace hlt : i < q.1.length := hlt
    replace hu : gti q.1 i = u := hu
    replace hk : k ≤ s.mv.length := hk
    replace hE : bfs s.mv (n - (i + 1)) (i + 1) (brow s.mv u q ((List.range s.mv.length).drop k)) = W := hE
    have hqn := hB.len
    have hbl := hB.bl
    have hqm : (q.1.map eI).length = q.1.length := by simp
    repeat (first | refine aw_seq ?_ | refine ath_n ?_ | refine aw_skip ?_ | refine abl_n ?_ | refine aw_block ?_)
    all_goals refine aw_region ?_
    all_goals refine ops_op rfl rfl (runs_none rfl) (mv_s (.inl rfl) rfl) ?_
    all_goals (first | refine ops_op rfl rfl (runs_none rfl) (does_fieldAddr_ptr rfl tf29_1 (by decide) rfl) ?_ | refine ops_op rfl rfl (runs_none rfl) (does_fieldAddr_ref rfl tf29_1 (by decide) rfl) ?_)
    all_goals (first | refine ops_op rfl rfl (runs_none rfl) (does_load_ref rfl ta27 rfl) ?_ | refine ops_op rfl rfl (runs_none rfl) (does_load_ptr rfl ta27 rfl rfl rfl rfl rfl) ?_)
    all_goals (first | refine ops_op rfl rfl (runs_none rfl) (does_len_map rfl ts27 rfl) ?_ | refine ops_op rfl rfl (runs_none rfl) (does_len_sl rfl ts27 rfl) ?_ | refine ops_op rfl rfl (runs_none rfl) (does_len_own rfl ts27 rfl) ?_ | refine ops_op rfl rfl (runs_none rfl) (does_len_s rfl ts27 rfl) ?_ | refine ops_op rfl rfl (runs_none rfl) (does_len_emp rfl ts27 rfl) ?_ | refine ops_op rfl rfl (runs_none rfl) (does_len_sub rfl ts27 rfl) ?_)
    all_goals (first | refine ops_opP rfl rfl (runs_none rfl) (does_lss rfl rfl rfl) (fun h48 => ?_) (fun h48 => ?_) | refine ops_opB rfl rfl (runs_none rfl) (does_lss rfl rfl rfl) (fun h48 => ?_) (fun h48 => ?_))
    all_goals refine ops_nil ?_
    all_goals (repeat (first | refine aw_seq ?_ | refine ath_n ?_ | refine aw_skip ?_ | refine abl_n ?_ | refine aw_block ?_))
    all_goals (first | refine aw_true rfl ?_ | refine aw_false rfl ?_)
    all_goals (repeat (first | refine aw_seq ?_ | refine ath_n ?_ | refine aw_skip ?_ | refine abl_n ?_ | refine aw_block ?_))
    all_goals dsimp only at h48
    rotate_left 1
    · have e : k = s.mv.length := by omega
      subst e
      rw [List.drop_eq_nil_of_le (by simp)] at hE
      (refine aw_exit ?_; repeat (first | refine ath_x ?_ | refine abl_hit ?_ | refine abl_miss rfl ?_ | refine abl_n ?_ | refine ath_n ?_ | refine aw_seq ?_ | refine aw_skip ?_ | refine aw_block ?_))
      refine aw_region ?_
      refine ops_op rfl rfl (runs_none rfl) (mv_s (.inl rfl) rfl) ?_
      refine ops_op rfl rfl (runs_none rfl) (does_add rfl rfl rfl (IntWalk.i64_in _ (by omega))) ?_
      refine ops_op rfl rfl (runs_none rfl) (mv_s (.inr rfl) rfl) ?_
      refine ops_nil ?_
      repeat (first | refine aw_seq ?_ | refine ath_n ?_ | refine aw_skip ?_ | refine abl_n ?_ | refine aw_block ?_)
      exact ⟨(i + 1, q), ⟨hB, hlt, hE⟩, by show n - (i + 1) < n - i; omega, wk_sub _ ⟨rfl, rfl, rfl, rfl, rfl, trivial⟩⟩
    have hkt : k < s.mv.length := by omega
    have hix : (s.mv.map eMv)[k]? = some (eMv (gti s.mv k)) := ix_map hkt
    rw [drop_range hkt, show brow s.mv u q (k :: (List.range s.mv.length).drop (k + 1)) = brow s.mv u (bstep s.mv u q k) ((List.range s.mv.length).drop (k + 1)) from rfl] at hE
    obtain ⟨_, _, ht0, ht1⟩ := hmr _ hkt
    have hst := hB.step hlt hkt ⟨ht0, ht1⟩
    rw [hu] at hst
    obtain ⟨hB2, hX2⟩ := hst
    have hg2 := hX2.gti hlt
    rw [hu] at hg2
    have hstep : bstep s.mv u q k = if (gti s.mv k).fr = u ∧ (gti s.mv k).tt ≠ 0 ∧ gti q.2 (gti s.mv k).tt.toNat < 0 then (q.1 ++ [(gti s.mv k).tt], q.2.set (gti s.mv k).tt.toNat (k : Int)) else q := rfl
    generalize bstep s.mv u q k = q1 at hE hB2 hg2 hstep
    generalize gti s.mv k = m at *
    obtain ⟨w, hw⟩ : ∃ w : Nat, m.tt = (w : Int) := ⟨m.tt.toNat, by omega⟩
    have hwn : w < n := by omega
    rw [hw, Int.toNat_natCast] at hstep
    have hqi : (q.1.map eI)[i]? = some (eI u) := by rw [← hu]; exact ix_map hlt
    have hbw : (q.2.map eI)[w]? = some (eI (gti q.2 w)) := ix_map (by omega)
    have hlm : Lo 0 (.ref (eMv m).cells) := .ref _ (lo_Mv m).cells
    refine aw_region ?_
    first | refine ops_op rfl rfl (runs_none rfl) (does_fieldAddr_ptr rfl tf29_1 (by decide) rfl) ?_ | refine ops_op rfl rfl (runs_none rfl) (does_fieldAddr_ref rfl tf29_1 (by decide) rfl) ?_
    first | refine ops_op rfl rfl (runs_none rfl) (does_load_ref rfl ta27 rfl) ?_ | refine ops_op rfl rfl (runs_none rfl) (does_load_ptr rfl ta27 rfl rfl rfl rfl rfl) ?_
    refine ops_op rfl rfl (runs_none rfl) (mv_s (.inl rfl) rfl) ?_
    first | refine ops_op rfl rfl (runs_none rfl) (does_index_sl rfl ts27 ti56 rfl rfl rfl hix rfl) ?_ | refine ops_op rfl rfl (runs_none rfl) (does_index_own rfl ts27 ti56 rfl rfl rfl hix) ?_ | refine ops_op rfl rfl (runs_none rfl) (does_index_sub rfl ts27 ti56 rfl rfl rfl hix) ?_
    first | refine ops_op rfl rfl (runs_none rfl) (does_load_refw rfl ta56 ti56 rfl rfl) ?_ | refine ops_op rfl rfl (runs_none rfl) (does_load_whole rfl ta56 ti56 rfl rfl rfl rfl rfl) ?_ | refine ops_op rfl rfl (runs_none rfl) (does_load_refs rfl ta56 ti56 rfl (Nat.le_of_ble_eq_true rfl)) ?_ | refine ops_op rfl rfl (runs_none rfl) (does_load_ptrs rfl ta56 ti56 rfl rfl rfl rfl (Nat.le_of_ble_eq_true rfl)) ?_
    refine ops_op rfl rfl (runs_none rfl) (does_alloc rfl ti56 rfl rfl) ?_
    refine ops_eff rfl (runs_none rfl) (does_store rfl ti56 rfl rfl rfl rfl rfl rfl (by decide) (by decide)) ?_
    refine ops_nil ?_
    repeat (first | refine aw_seq ?_ | refine ath_n ?_ | refine aw_skip ?_ | refine abl_n ?_ | refine aw_block ?_)
    refine aw_weak (wk_froz (id := 2) rfl) ?_
    refine aw_weak (wk_ref (d := 11) rfl rfl rfl) ?_
    all_goals refine aw_draw hmix ?_
    all_goals refine adraw_quiet (by kernel_rfl) ?_
    all_goals (first | refine qx_op rfl rfl (runs_none rfl) (does_fieldAddr_ptr rfl tf56_0 (by decide) rfl) ?_ | refine qx_op rfl rfl (runs_none rfl) (does_fieldAddr_ref rfl tf56_0 (by decide) rfl) ?_)
    all_goals (first | refine qx_op rfl rfl (runs_none rfl) (does_load_ref rfl ta3 rfl) ?_ | refine qx_op rfl rfl (runs_none rfl) (does_load_ptr rfl ta3 rfl rfl rfl rfl rfl) ?_)
    all_goals (first | refine qx_op rfl rfl (runs_none rfl) (mv_own (.inl rfl) rfl) ?_ | refine qx_op rfl rfl (runs_none rfl) (mv_sl (.inl rfl) rfl) ?_ | refine qx_op rfl rfl (runs_none rfl) (mv_s (.inl rfl) rfl) ?_ | refine qx_op rfl rfl (runs_none rfl) (mv_emp (.inl rfl) rfl) ?_ | refine qx_op rfl rfl (runs_none rfl) (mv_sub (.inl rfl) rfl) ?_)
    all_goals refine qx_op rfl rfl (runs_none rfl) (mv_s (.inl rfl) rfl) ?_
    all_goals (first | refine qx_op rfl rfl (runs_none rfl) (does_index_sl rfl ts25 ti3 rfl rfl rfl hlt rfl) ?_ | refine qx_op rfl rfl (runs_none rfl) (does_index_own rfl ts25 ti3 rfl rfl rfl hlt) ?_ | refine qx_op rfl rfl (runs_none rfl) (does_index_sub rfl ts25 ti3 rfl rfl rfl hlt) ?_)
    all_goals (first | refine qx_op rfl rfl (runs_none rfl) (does_load_ref rfl ta3 rfl) ?_ | refine qx_op rfl rfl (runs_none rfl) (does_load_ptr rfl ta3 rfl rfl rfl hqi rfl) ?_)
    all_goals (first | refine qx_opP rfl rfl (runs_none rfl) (does_eql rfl rfl rfl) (fun h62 => ?_) (fun h62 => ?_) | refine qx_opB rfl rfl (runs_none rfl) (does_eql rfl rfl rfl) (fun h62 => ?_) (fun h62 => ?_))
    all_goals refine qx_op rfl rfl (runs_none rfl) (mv_s (.inl rfl) rfl) ?_
    all_goals (first | refine qx_op rfl rfl (runs_y rfl rfl rfl) (does_fieldAddr_ptr rfl tf56_1 (by decide) rfl) ?_ | refine qx_op rfl rfl (runs_y rfl rfl rfl) (does_fieldAddr_ref rfl tf56_1 (by decide) rfl) ?_ | refine qx_skip rfl rfl (runs_nt rfl rfl rfl) ?_ | refine qx_skip rfl rfl (runs_nu rfl rfl rfl) ?_)
    all_goals (first | refine qx_op rfl rfl (runs_y rfl rfl rfl) (does_load_ref rfl ta3 rfl) ?_ | refine qx_op rfl rfl (runs_y rfl rfl rfl) (does_load_ptr rfl ta3 rfl rfl rfl rfl rfl) ?_ | refine qx_skip rfl rfl (runs_nt rfl rfl rfl) ?_ | refine qx_skip rfl rfl (runs_nu rfl rfl rfl) ?_)
    all_goals (first | refine qx_opP rfl rfl (runs_y rfl rfl rfl) (does_neq rfl rfl rfl) (fun h66 => ?_) (fun h66 => ?_) | refine qx_opB rfl rfl (runs_y rfl rfl rfl) (does_neq rfl rfl rfl) (fun h66 => ?_) (fun h66 => ?_) | refine qx_skip rfl rfl (runs_nt rfl rfl rfl) ?_ | refine qx_skip rfl rfl (runs_nu rfl rfl rfl) ?_)
    all_goals (first | refine qx_op rfl rfl (runs_none rfl) (pickT_s rfl rfl rfl) ?_ | refine qx_op rfl rfl (runs_none rfl) (pickF_s rfl rfl rfl) ?_ | refine qx_op rfl rfl (runs_none rfl) (does_pickT rfl rfl rfl) ?_ | refine qx_op rfl rfl (runs_none rfl) (does_pickF rfl rfl rfl) ?_)
    all_goals refine qx_op rfl rfl (runs_none rfl) (mv_s (.inl rfl) rfl) ?_
    all_goals (first | refine qx_op rfl rfl (runs_y rfl rfl rfl) (mv_own (.inl rfl) rfl) ?_ | refine qx_op rfl rfl (runs_y rfl rfl rfl) (mv_sl (.inl rfl) rfl) ?_ | refine qx_op rfl rfl (runs_y rfl rfl rfl) (mv_s (.inl rfl) rfl) ?_ | refine qx_op rfl rfl (runs_y rfl rfl rfl) (mv_emp (.inl rfl) rfl) ?_ | refine qx_op rfl rfl (runs_y rfl rfl rfl) (mv_sub (.inl rfl) rfl) ?_ | refine qx_skip rfl rfl (runs_nt rfl rfl rfl) ?_ | refine qx_skip rfl rfl (runs_nu rfl rfl rfl) ?_)
    all_goals (first | refine qx_op rfl rfl (runs_y rfl rfl rfl) (does_fieldAddr_ptr rfl tf56_1 (by decide) rfl) ?_ | refine qx_op rfl rfl (runs_y rfl rfl rfl) (does_fieldAddr_ref rfl tf56_1 (by decide) rfl) ?_ | refine qx_skip rfl rfl (runs_nt rfl rfl rfl) ?_ | refine qx_skip rfl rfl (runs_nu rfl rfl rfl) ?_)
    all_goals (first | refine qx_op rfl rfl (runs_y rfl rfl rfl) (does_load_ref rfl ta3 rfl) ?_ | refine qx_op rfl rfl (runs_y rfl rfl rfl) (does_load_ptr rfl ta3 rfl rfl rfl rfl rfl) ?_ | refine qx_skip rfl rfl (runs_nt rfl rfl rfl) ?_ | refine qx_skip rfl rfl (runs_nu rfl rfl rfl) ?_)
    all_goals (first | refine qx_op rfl rfl (runs_y rfl rfl rfl) (does_index_sl rfl ts25 ti3 rfl rfl hw hwn rfl) ?_ | refine qx_op rfl rfl (runs_y rfl rfl rfl) (does_index_own rfl ts25 ti3 rfl rfl hw hwn) ?_ | refine qx_op rfl rfl (runs_y rfl rfl rfl) (does_index_sub rfl ts25 ti3 rfl rfl hw hwn) ?_ | refine qx_skip rfl rfl (runs_nt rfl rfl rfl) ?_ | refine qx_skip rfl rfl (runs_nu rfl rfl rfl) ?_)
    all_goals (first | refine qx_op rfl rfl (runs_y rfl rfl rfl) (does_load_ref rfl ta3 rfl) ?_ | refine qx_op rfl rfl (runs_y rfl rfl rfl) (does_load_ptr rfl ta3 rfl rfl rfl hbw rfl) ?_ | refine qx_skip rfl rfl (runs_nt rfl rfl rfl) ?_ | refine qx_skip rfl rfl (runs_nu rfl rfl rfl) ?_)
    all_goals (first | refine qx_opP rfl rfl (runs_y rfl rfl rfl) (does_lss rfl rfl rfl) (fun h74 => ?_) (fun h74 => ?_) | refine qx_opB rfl rfl (runs_y rfl rfl rfl) (does_lss rfl rfl rfl) (fun h74 => ?_) (fun h74 => ?_) | refine qx_skip rfl rfl (runs_nt rfl rfl rfl) ?_ | refine qx_skip rfl rfl (runs_nu rfl rfl rfl) ?_)
    all_goals (first | refine qx_op rfl rfl (runs_none rfl) (pickT_s rfl rfl rfl) ?_ | refine qx_op rfl rfl (runs_none rfl) (pickF_s rfl rfl rfl) ?_ | refine qx_op rfl rfl (runs_none rfl) (does_pickT rfl rfl rfl) ?_ | refine qx_op rfl rfl (runs_none rfl) (does_pickF rfl rfl rfl) ?_)
    all_goals refine qx_nil ?_
    all_goals (repeat (first | refine aw_seq ?_ | refine ath_n ?_ | refine aw_skip ?_ | refine abl_n ?_ | refine aw_block ?_))
    all_goals (first | refine aw_true rfl ?_ | refine aw_false rfl ?_)
    all_goals (repeat (first | refine aw_seq ?_ | refine ath_n ?_ | refine aw_skip ?_ | refine abl_n ?_ | refine aw_block ?_))
    · rw [if_pos ⟨h62, by rw [← hw]; exact h66, h74⟩] at hstep
      subst hstep
      have hby : (q.2.set w (k : Int)).map eI = (q.2.map eI).set w (eI k) := List.map_set
      refine aw_region ?_
      first | refine ops_op rfl rfl (runs_none rfl) (mv_own (.inl rfl) rfl) ?_ | refine ops_op rfl rfl (runs_none rfl) (mv_sl (.inl rfl) rfl) ?_ | refine ops_op rfl rfl (runs_none rfl) (mv_s (.inl rfl) rfl) ?_ | refine ops_op rfl rfl (runs_none rfl) (mv_emp (.inl rfl) rfl) ?_ | refine ops_op rfl rfl (runs_none rfl) (mv_sub (.inl rfl) rfl) ?_
      first | refine ops_op rfl rfl (runs_none rfl) (does_fieldAddr_ptr rfl tf56_1 (by decide) rfl) ?_ | refine ops_op rfl rfl (runs_none rfl) (does_fieldAddr_ref rfl tf56_1 (by decide) rfl) ?_
      first | refine ops_op rfl rfl (runs_none rfl) (does_load_ref rfl ta3 rfl) ?_ | refine ops_op rfl rfl (runs_none rfl) (does_load_ptr rfl ta3 rfl rfl rfl rfl rfl) ?_
      refine ops_op rfl rfl (runs_none rfl) (mv_s (.inl rfl) rfl) ?_
      first | refine ops_op rfl rfl (runs_none rfl) (does_index_sl rfl ts25 ti3 rfl rfl hw hwn rfl) ?_ | refine ops_op rfl rfl (runs_none rfl) (does_index_own rfl ts25 ti3 rfl rfl hw hwn) ?_ | refine ops_op rfl rfl (runs_none rfl) (does_index_sub rfl ts25 ti3 rfl rfl hw hwn) ?_
      refine ops_eff rfl (runs_none rfl) (does_store rfl ti3 rfl rfl rfl hbw rfl rfl (by decide) (by decide)) ?_
      refine ops_nil ?_
      repeat (first | refine aw_seq ?_ | refine ath_n ?_ | refine aw_skip ?_ | refine abl_n ?_ | refine aw_block ?_)
      refine aw_region ?_
      first | refine ops_op rfl rfl (runs_none rfl) (mv_own (.inl rfl) rfl) ?_ | refine ops_op rfl rfl (runs_none rfl) (mv_sl (.inl rfl) rfl) ?_ | refine ops_op rfl rfl (runs_none rfl) (mv_s (.inl rfl) rfl) ?_ | refine ops_op rfl rfl (runs_none rfl) (mv_emp (.inl rfl) rfl) ?_ | refine ops_op rfl rfl (runs_none rfl) (mv_sub (.inl rfl) rfl) ?_
      first | refine ops_op rfl rfl (runs_none rfl) (does_fieldAddr_ptr rfl tf56_1 (by decide) rfl) ?_ | refine ops_op rfl rfl (runs_none rfl) (does_fieldAddr_ref rfl tf56_1 (by decide) rfl) ?_
      first | refine ops_op rfl rfl (runs_none rfl) (does_load_ref rfl ta3 rfl) ?_ | refine ops_op rfl rfl (runs_none rfl) (does_load_ptr rfl ta3 rfl rfl rfl rfl rfl) ?_
      first | refine ops_op rfl rfl (runs_none rfl) (lit1_sF rfl ts25 ti3 rfl rfl rfl rfl) ?_ | refine ops_op rfl rfl (runs_none rfl) (lit1_slF rfl ts25 ti3 rfl rfl rfl rfl (by repeat' (first | exact Lo.s _ | exact Lo.emp | exact Lo.any | exact lo_nil | exact lo_nilE | refine lo_cons ?_ ?_ | refine lo_consE ?_ ?_ | refine lo_map ?_ | refine lo_mapE ?_ | refine Lo.cells ?_ | refine Lo.agg _ ?_ | refine Lo.ref _ ?_ | refine Lo.tup _ ?_ | refine Lo.fn _ _ ?_ | refine Lo.sl _ ?_ | intro _))) ?_ | refine ops_op rfl rfl (runs_none rfl) (does_litAF rfl ts25 ti3 rfl rfl (by decide) (by decide) rfl rfl rfl (by repeat' (first | exact Lo.s _ | exact Lo.emp | exact Lo.any | exact lo_nil | exact lo_nilE | refine lo_cons ?_ ?_ | refine lo_consE ?_ ?_ | refine lo_map ?_ | refine lo_mapE ?_ | refine Lo.cells ?_ | refine Lo.agg _ ?_ | refine Lo.ref _ ?_ | refine Lo.tup _ ?_ | refine Lo.fn _ _ ?_ | refine Lo.sl _ ?_ | intro _))) ?_
      first | refine ops_op rfl rfl (runs_none rfl) (does_append rfl ts25 ti3 rfl (by decide) rfl rfl (by first | rfl | (simp; done) | (simp; omega)) rfl (by first | exact .own _ _ _ rfl rfl _ (by first | rfl | simp) | exact .emp | exact .nil | exact .sl _ (by first | simp; done | intro e he; simp at he; obtain ⟨_, _, rfl⟩ := he; rfl)) (by first | omega | (simp; omega) | (unfold maxLen; simp; omega)) (by first | omega | (simp; omega) | (unfold maxLen; simp; omega))) ?_ | refine ops_op rfl rfl (runs_none rfl) (does_append0 rfl ts25 ti3 rfl (by decide) rfl (.inl rfl) rfl (by first | exact .own _ _ _ rfl rfl _ (by first | rfl | simp) | exact .emp | exact .nil | exact .sl _ (by first | simp; done | intro e he; simp at he; obtain ⟨_, _, rfl⟩ := he; rfl)) (by first | omega | (simp; omega) | (unfold maxLen; simp; omega)) (by first | omega | (simp; omega) | (unfold maxLen; simp; omega))) ?_ | refine ops_op rfl rfl (runs_none rfl) (does_append0 rfl ts25 ti3 rfl (by decide) rfl (.inr rfl) rfl (by first | exact .own _ _ _ rfl rfl _ (by first | rfl | simp) | exact .emp | exact .nil | exact .sl _ (by first | simp; done | intro e he; simp at he; obtain ⟨_, _, rfl⟩ := he; rfl)) (by first | omega | (simp; omega) | (unfold maxLen; simp; omega)) (by first | omega | (simp; omega) | (unfold maxLen; simp; omega))) ?_
      first | refine ops_op rfl rfl (runs_none rfl) (mv_own (.inr rfl) rfl) ?_ | refine ops_op rfl rfl (runs_none rfl) (mv_sl (.inr rfl) rfl) ?_ | refine ops_op rfl rfl (runs_none rfl) (mv_s (.inr rfl) rfl) ?_ | refine ops_op rfl rfl (runs_none rfl) (mv_emp (.inr rfl) rfl) ?_ | refine ops_op rfl rfl (runs_none rfl) (mv_sub (.inr rfl) rfl) ?_
      refine ops_nil ?_
      repeat (first | refine aw_seq ?_ | refine ath_n ?_ | refine aw_skip ?_ | refine abl_n ?_ | refine aw_block ?_)
      refine aw_region ?_
      refine ops_op rfl rfl (runs_none rfl) (mv_s (.inl rfl) rfl) ?_
      refine ops_op rfl rfl (runs_none rfl) (does_add rfl rfl rfl (IntWalk.i64_in _ (by omega))) ?_
      refine ops_op rfl rfl (runs_none rfl) (mv_s (.inr rfl) rfl) ?_
      refine ops_nil ?_
      repeat (first | refine aw_seq ?_ | refine ath_n ?_ | refine aw_skip ?_ | refine abl_n ?_ | refine aw_block ?_)
      exact ⟨(k + 1, (q.1 ++ [(w : Int)], q.2.set w (k : Int))), ⟨hB2, hg2.2, hg2.1, by show k + 1 ≤ s.mv.length; omega, hE⟩, by show s.mv.length - (k + 1) < s.mv.length - k; omega, wk_st [0, 3] (by decide) ⟨⟨_, rfl, .rowE (rowI_lo _) hby.symm⟩, ⟨_, rfl, .rowE (rowI_lo _) (by rw [List.map_append, ← hw]; rfl)⟩, trivial⟩ ⟨.lo _ (by repeat' (first | exact Lo.s _ | exact Lo.emp | exact Lo.any | exact lo_nil | exact lo_nilE | refine lo_cons ?_ ?_ | refine lo_consE ?_ ?_ | refine lo_map ?_ | refine lo_mapE ?_ | refine Lo.cells ?_ | refine Lo.agg _ ?_ | refine Lo.ref _ ?_ | refine Lo.tup _ ?_ | refine Lo.fn _ _ ?_ | refine Lo.sl _ ?_ | intro _)), .lo _ hls, .own 0 0 1 _ _ rfl rfl, .own 3 1 1 _ _ rfl (by simp), .lo _ (by repeat' (first | exact Lo.s _ | exact Lo.emp | exact Lo.any | exact lo_nil | exact lo_nilE | refine lo_cons ?_ ?_ | refine lo_consE ?_ ?_ | refine lo_map ?_ | refine lo_mapE ?_ | refine Lo.cells ?_ | refine Lo.agg _ ?_ | refine Lo.ref _ ?_ | refine Lo.tup _ ?_ | refine Lo.fn _ _ ?_ | refine Lo.sl _ ?_ | intro _)), .lo _ (by repeat' (first | exact Lo.s _ | exact Lo.emp | exact Lo.any | exact lo_nil | exact lo_nilE | refine lo_cons ?_ ?_ | refine lo_consE ?_ ?_ | refine lo_map ?_ | refine lo_mapE ?_ | refine Lo.cells ?_ | refine Lo.agg _ ?_ | refine Lo.ref _ ?_ | refine Lo.tup _ ?_ | refine Lo.fn _ _ ?_ | refine Lo.sl _ ?_ | intro _)), trivial⟩⟩
    all_goals
      rw [if_neg (by rintro ⟨g1, g2, g3⟩; first | exact h62 g1 | (rw [hw] at h66; exact h66 g2) | exact h74 g3)] at hstep
      subst hstep
      refine aw_region ?_
      refine ops_op rfl rfl (runs_none rfl) (mv_s (.inl rfl) rfl) ?_
      refine ops_op rfl rfl (runs_none rfl) (does_add rfl rfl rfl (IntWalk.i64_in _ (by omega))) ?_
      refine ops_op rfl rfl (runs_none rfl) (mv_s (.inr rfl) rfl) ?_
      refine ops_nil ?_
      repeat (first | refine aw_seq ?_ | refine ath_n ?_ | refine aw_skip ?_ | refine abl_n ?_ | refine aw_block ?_)
      exact ⟨(k + 1, q1), ⟨hB2, hlt, hu, by show k + 1 ≤ s.mv.length; omega, hE⟩, by show s.mv.length - (k + 1) < s.mv.length - k; omega, wk_st [0, 1] (by decide) ⟨⟨_, rfl, .rowE (rowI_lo _) rfl⟩, ⟨_, rfl, .rowE (rowI_lo _) rfl⟩, trivial⟩ ⟨.lo _ (by repeat' (first | exact Lo.s _ | exact Lo.emp | exact Lo.any | exact lo_nil | exact lo_nilE | refine lo_cons ?_ ?_ | refine lo_consE ?_ ?_ | refine lo_map ?_ | refine lo_mapE ?_ | refine Lo.cells ?_ | refine Lo.agg _ ?_ | refine Lo.ref _ ?_ | refine Lo.tup _ ?_ | refine Lo.fn _ _ ?_ | refine Lo.sl _ ?_ | intro _)), .lo _ hls, .own 0 0 1 _ _ rfl rfl, .own 1 1 1 _ _ rfl rfl, .lo _ (by repeat' (first | exact Lo.s _ | exact Lo.emp | exact Lo.any | exact lo_nil | exact lo_nilE | refine lo_cons ?_ ?_ | refine lo_consE ?_ ?_ | refine lo_map ?_ | refine lo_mapE ?_ | refine Lo.cells ?_ | refine Lo.agg _ ?_ | refine Lo.ref _ ?_ | refine Lo.tup _ ?_ | refine Lo.fn _ _ ?_ | refine Lo.sl _ ?_ | intro _)), .lo _ (by repeat' (first | exact Lo.s _ | exact Lo.emp | exact Lo.any | exact lo_nil | exact lo_nilE | refine lo_cons ?_ ?_ | refine lo_consE ?_ ?_ | refine lo_map ?_ | refine lo_mapE ?_ | refine Lo.cells ?_ | refine Lo.agg _ ?_ | refine Lo.ref _ ?_ | refine Lo.tup _ ?_ | refine Lo.fn _ _ ?_ | refine Lo.sl _ ?_ | intro _)), trivial⟩⟩
  have e : i = q.1.length := by omega
  rw [bfs_end (by omega)] at hE
  subst hE
  have htn : tn < n := by omega
  have hbt : (q.2.map eI)[tn]? = some (eI (gti q.2 tn)) := ix_map (by omega)
  (refine aw_exit ?_; repeat (first | refine ath_x ?_ | refine abl_hit ?_ | refine abl_miss rfl ?_ | refine abl_n ?_ | refine ath_n ?_ | refine aw_seq ?_ | refine aw_skip ?_ | refine aw_block ?_))
  all_goals refine aw_region ?_
  all_goals refine ops_op rfl rfl (runs_none rfl) (mv_s (.inl rfl) rfl) ?_
  all_goals (first | refine ops_opP rfl rfl (runs_none rfl) (does_neq rfl rfl rfl) (fun h87 => ?_) (fun h87 => ?_) | refine ops_opB rfl rfl (runs_none rfl) (does_neq rfl rfl rfl) (fun h87 => ?_) (fun h87 => ?_))
  all_goals refine ops_op rfl rfl (runs_none rfl) (mv_s (.inl rfl) rfl) ?_
  all_goals (first | refine ops_op rfl rfl (runs_y rfl rfl rfl) (mv_own (.inl rfl) rfl) ?_ | refine ops_op rfl rfl (runs_y rfl rfl rfl) (mv_sl (.inl rfl) rfl) ?_ | refine ops_op rfl rfl (runs_y rfl rfl rfl) (mv_s (.inl rfl) rfl) ?_ | refine ops_op rfl rfl (runs_y rfl rfl rfl) (mv_emp (.inl rfl) rfl) ?_ | refine ops_op rfl rfl (runs_y rfl rfl rfl) (mv_sub (.inl rfl) rfl) ?_ | refine ops_skip rfl rfl (runs_nt rfl rfl rfl) ?_ | refine ops_skip rfl rfl (runs_nu rfl rfl rfl) ?_)
  all_goals (first | refine ops_op rfl rfl (runs_y rfl rfl rfl) (mv_s (.inl rfl) rfl) ?_ | refine ops_skip rfl rfl (runs_nt rfl rfl rfl) ?_ | refine ops_skip rfl rfl (runs_nu rfl rfl rfl) ?_)
  all_goals (first | refine ops_op rfl rfl (runs_y rfl rfl rfl) (does_index_sl rfl ts25 ti3 rfl rfl rfl htn rfl) ?_ | refine ops_op rfl rfl (runs_y rfl rfl rfl) (does_index_own rfl ts25 ti3 rfl rfl rfl htn) ?_ | refine ops_op rfl rfl (runs_y rfl rfl rfl) (does_index_sub rfl ts25 ti3 rfl rfl rfl htn) ?_ | refine ops_skip rfl rfl (runs_nt rfl rfl rfl) ?_ | refine ops_skip rfl rfl (runs_nu rfl rfl rfl) ?_)
  all_goals (first | refine ops_op rfl rfl (runs_y rfl rfl rfl) (does_load_ref rfl ta3 rfl) ?_ | refine ops_op rfl rfl (runs_y rfl rfl rfl) (does_load_ptr rfl ta3 rfl rfl rfl hbt rfl) ?_ | refine ops_skip rfl rfl (runs_nt rfl rfl rfl) ?_ | refine ops_skip rfl rfl (runs_nu rfl rfl rfl) ?_)
  all_goals (first | refine ops_opP rfl rfl (runs_y rfl rfl rfl) (does_lss rfl rfl rfl) (fun h93 => ?_) (fun h93 => ?_) | refine ops_opB rfl rfl (runs_y rfl rfl rfl) (does_lss rfl rfl rfl) (fun h93 => ?_) (fun h93 => ?_) | refine ops_skip rfl rfl (runs_nt rfl rfl rfl) ?_ | refine ops_skip rfl rfl (runs_nu rfl rfl rfl) ?_)
  all_goals (first | refine ops_op rfl rfl (runs_none rfl) (pickT_s rfl rfl rfl) ?_ | refine ops_op rfl rfl (runs_none rfl) (pickF_s rfl rfl rfl) ?_ | refine ops_op rfl rfl (runs_none rfl) (does_pickT rfl rfl rfl) ?_ | refine ops_op rfl rfl (runs_none rfl) (does_pickF rfl rfl rfl) ?_)
  all_goals refine ops_nil ?_
  all_goals (repeat (first | refine aw_seq ?_ | refine ath_n ?_ | refine aw_skip ?_ | refine abl_n ?_ | refine aw_block ?_))
  all_goals (first | refine aw_true rfl ?_ | refine aw_false rfl ?_)
  all_goals (repeat (first | refine aw_seq ?_ | refine ath_n ?_ | refine aw_skip ?_ | refine abl_n ?_ | refine aw_block ?_))
  · rw [if_pos ⟨h87, h93⟩] at HI
    refine aw_region ?_
    first | refine ops_op rfl rfl (runs_none rfl) (mv_own (.inr rfl) rfl) ?_ | refine ops_op rfl rfl (runs_none rfl) (mv_sl (.inr rfl) rfl) ?_ | refine ops_op rfl rfl (runs_none rfl) (mv_s (.inr rfl) rfl) ?_ | refine ops_op rfl rfl (runs_none rfl) (mv_emp (.inr rfl) rfl) ?_ | refine ops_op rfl rfl (runs_none rfl) (mv_sub (.inr rfl) rfl) ?_
    refine ops_op rfl rfl (runs_none rfl) (mv_s (.inr rfl) rfl) ?_
    refine ops_nil ?_
    repeat (first | refine aw_seq ?_ | refine ath_n ?_ | refine aw_skip ?_ | refine abl_n ?_ | refine aw_block ?_)
    (refine aw_ret ?_; repeat (first | refine ath_r ?_ | refine abl_r ?_))
    exact post_le (N := 0) (.inr rfl) rfl rfl .nil HI
  all_goals
    rw [if_neg (by rintro ⟨g1, g2⟩; first | exact h87 g1 | exact h93 g2)] at HI
    obtain ⟨p0, hp0, hpe⟩ := hB.met (tg := (tn : Int)) (by omega) (by omega) (by rw [Int.toNat_natCast]; omega)
    have hbpl := backP_len s.mv q.2 n (tn : Int)
    repeat (first | refine aw_seq ?_ | refine ath_n ?_ | refine aw_skip ?_ | refine abl_n ?_ | refine aw_block ?_)
    refine aw_region ?_
    first | refine ops_op rfl rfl (runs_none rfl) (mv_own (.inr rfl) rfl) ?_ | refine ops_op rfl rfl (runs_none rfl) (mv_sl (.inr rfl) rfl) ?_ | refine ops_op rfl rfl (runs_none rfl) (mv_s (.inr rfl) rfl) ?_ | refine ops_op rfl rfl (runs_none rfl) (mv_emp (.inr rfl) rfl) ?_ | refine ops_op rfl rfl (runs_none rfl) (mv_sub (.inr rfl) rfl) ?_
    refine ops_nil ?_
    repeat (first | refine aw_seq ?_ | refine ath_n ?_ | refine aw_skip ?_ | refine abl_n ?_ | refine aw_block ?_)
    refine aw_weak (wk_own (d := 12) 1 rfl (.inr rfl)) ?_
    refine aw_loops (S := Int × List Int × Nat × Nat) (fun p => [(1, eI p.1), (2, .ref (eSpc s).cells), (6, .own 0 1 n), (12, .own 1 1 p.2.1.length)]) (fun p => [.row 1 (q.2.map eI), .row 1 (p.2.1.map eI)]) (fun p => p.2.2.1 < q.1.length ∧ gti q.1 p.2.2.1 = p.1 ∧ p.2.1 ++ Go.Proofs.Ythdpacbjbdkemaa.backP s.mv q.2 p.2.2.2 p.1 = Go.Proofs.Ythdpacbjbdkemaa.backP s.mv q.2 n tn ∧ p.2.2.1 < p.2.2.2 ∧ p.2.1.length + p.2.2.2 ≤ n) (fun p => p.2.2.1) ((tn : Int), [], p0, n)
      (wk_st [0, 2] (by decide) ⟨⟨_, rfl, .rowE (rowI_lo _) rfl⟩, ⟨_, rfl, .rowE (by simp) rfl⟩, trivial⟩ ⟨.lo _ (by repeat' (first | exact Lo.s _ | exact Lo.emp | exact Lo.any | exact lo_nil | exact lo_nilE | refine lo_cons ?_ ?_ | refine lo_consE ?_ ?_ | refine lo_map ?_ | refine lo_mapE ?_ | refine Lo.cells ?_ | refine Lo.agg _ ?_ | refine Lo.ref _ ?_ | refine Lo.tup _ ?_ | refine Lo.fn _ _ ?_ | refine Lo.sl _ ?_ | intro _)), .lo _ hls, .own 0 0 1 _ _ rfl rfl, .own 2 1 1 _ _ rfl rfl, trivial⟩) ⟨hp0, hpe, rfl, by show p0 < n; omega, by simp⟩ (fun p hp => ?_)
    obtain ⟨t, back, p, f⟩ := p
    obtain ⟨g1, g2, g3, g4, g5⟩ := hp
    replace g1 : p < q.1.length := g1
    replace g2 : gti q.1 p = t := g2
    replace g3 : back ++ Go.Proofs.Ythdpacbjbdkemaa.backP s.mv q.2 f t = Go.Proofs.Ythdpacbjbdkemaa.backP s.mv q.2 n tn := g3
    replace g4 : p < f := g4
    replace g5 : back.length + f ≤ n := g5
    have hbm : (back.map eI).length = back.length := by simp
    obtain ⟨f, rfl⟩ : ∃ f', f = f' + 1 := ⟨f - 1, by omega⟩
    rw [show Go.Proofs.Ythdpacbjbdkemaa.backP s.mv q.2 (f + 1) t = if t = 0 then [] else (gti s.mv (gti q.2 t.toNat).toNat).sym :: Go.Proofs.Ythdpacbjbdkemaa.backP s.mv q.2 f (gti s.mv (gti q.2 t.toNat).toNat).fr from rfl] at g3
    repeat (first | refine aw_seq ?_ | refine ath_n ?_ | refine aw_skip ?_ | refine abl_n ?_ | refine aw_block ?_)
    all_goals refine aw_region ?_
    all_goals refine ops_op rfl rfl (runs_none rfl) (mv_s (.inl rfl) rfl) ?_
    all_goals (first | refine ops_opP rfl rfl (runs_none rfl) (does_neq rfl rfl rfl) (fun h96 => ?_) (fun h96 => ?_) | refine ops_opB rfl rfl (runs_none rfl) (does_neq rfl rfl rfl) (fun h96 => ?_) (fun h96 => ?_))
    all_goals refine ops_nil ?_
    all_goals (repeat (first | refine aw_seq ?_ | refine ath_n ?_ | refine aw_skip ?_ | refine abl_n ?_ | refine aw_block ?_))
    all_goals (first | refine aw_true rfl ?_ | refine aw_false rfl ?_)
    all_goals (repeat (first | refine aw_seq ?_ | refine ath_n ?_ | refine aw_skip ?_ | refine abl_n ?_ | refine aw_block ?_))
    · obtain ⟨k, k1, k2, p', k3, k4⟩ := hB.back g1 (by rw [g2]; exact h96)
      rw [g2] at k2
      have htr := hB.at_ g1
      rw [g2] at htr
      rw [if_neg h96, k2, Int.toNat_natCast] at g3
      obtain ⟨v, hv⟩ : ∃ v : Nat, t = (v : Int) := ⟨t.toNat, by omega⟩
      have hvn : v < n := by omega
      have hby : (q.2.map eI)[v]? = some (eI k) := by
        rw [List.getElem?_map, gti_get (by omega)]
        rw [hv, Int.toNat_natCast] at k2
        rw [k2]; rfl
      have hix : (s.mv.map eMv)[k]? = some (eMv (gti s.mv k)) := ix_map k1
      refine aw_draw hmix ?_
      refine adraw_lastT rfl (by kernel_rfl) ?_
      refine adraw_lastT rfl (by kernel_rfl) ?_
      refine adraw_quiet (by kernel_rfl) ?_
      simp only [List.dropLast]
      first | refine qx_op rfl rfl (runs_none rfl) (mv_own (.inl rfl) rfl) ?_ | refine qx_op rfl rfl (runs_none rfl) (mv_sl (.inl rfl) rfl) ?_ | refine qx_op rfl rfl (runs_none rfl) (mv_s (.inl rfl) rfl) ?_ | refine qx_op rfl rfl (runs_none rfl) (mv_emp (.inl rfl) rfl) ?_ | refine qx_op rfl rfl (runs_none rfl) (mv_sub (.inl rfl) rfl) ?_
      first | refine qx_op rfl rfl (runs_none rfl) (does_fieldAddr_ptr rfl tf29_1 (by decide) rfl) ?_ | refine qx_op rfl rfl (runs_none rfl) (does_fieldAddr_ref rfl tf29_1 (by decide) rfl) ?_
      first | refine qx_op rfl rfl (runs_none rfl) (does_load_ref rfl ta27 rfl) ?_ | refine qx_op rfl rfl (runs_none rfl) (does_load_ptr rfl ta27 rfl rfl rfl rfl rfl) ?_
      first | refine qx_op rfl rfl (runs_none rfl) (mv_own (.inl rfl) rfl) ?_ | refine qx_op rfl rfl (runs_none rfl) (mv_sl (.inl rfl) rfl) ?_ | refine qx_op rfl rfl (runs_none rfl) (mv_s (.inl rfl) rfl) ?_ | refine qx_op rfl rfl (runs_none rfl) (mv_emp (.inl rfl) rfl) ?_ | refine qx_op rfl rfl (runs_none rfl) (mv_sub (.inl rfl) rfl) ?_
      refine qx_op rfl rfl (runs_none rfl) (mv_s (.inl rfl) rfl) ?_
      first | refine qx_op rfl rfl (runs_none rfl) (does_index_sl rfl ts25 ti3 rfl rfl hv hvn rfl) ?_ | refine qx_op rfl rfl (runs_none rfl) (does_index_own rfl ts25 ti3 rfl rfl hv hvn) ?_ | refine qx_op rfl rfl (runs_none rfl) (does_index_sub rfl ts25 ti3 rfl rfl hv hvn) ?_
      first | refine qx_op rfl rfl (runs_none rfl) (does_load_ref rfl ta3 rfl) ?_ | refine qx_op rfl rfl (runs_none rfl) (does_load_ptr rfl ta3 rfl rfl rfl hby rfl) ?_
      first | refine qx_op rfl rfl (runs_none rfl) (does_index_sl rfl ts27 ti56 rfl rfl rfl hix rfl) ?_ | refine qx_op rfl rfl (runs_none rfl) (does_index_own rfl ts27 ti56 rfl rfl rfl hix) ?_ | refine qx_op rfl rfl (runs_none rfl) (does_index_sub rfl ts27 ti56 rfl rfl rfl hix) ?_
      first | refine qx_op rfl rfl (runs_none rfl) (does_fieldAddr_ptr rfl tf56_2 (by decide) rfl) ?_ | refine qx_op rfl rfl (runs_none rfl) (does_fieldAddr_ref rfl tf56_2 (by decide) rfl) ?_
      first | refine qx_op rfl rfl (runs_none rfl) (does_load_ref rfl ta3 rfl) ?_ | refine qx_op rfl rfl (runs_none rfl) (does_load_ptr rfl ta3 rfl rfl rfl rfl rfl) ?_
      first | refine qx_op rfl rfl (runs_none rfl) (lit1_sF rfl ts25 ti3 rfl rfl rfl rfl) ?_ | refine qx_op rfl rfl (runs_none rfl) (lit1_slF rfl ts25 ti3 rfl rfl rfl rfl (by repeat' (first | exact Lo.s _ | exact Lo.emp | exact Lo.any | exact lo_nil | exact lo_nilE | refine lo_cons ?_ ?_ | refine lo_consE ?_ ?_ | refine lo_map ?_ | refine lo_mapE ?_ | refine Lo.cells ?_ | refine Lo.agg _ ?_ | refine Lo.ref _ ?_ | refine Lo.tup _ ?_ | refine Lo.fn _ _ ?_ | refine Lo.sl _ ?_ | intro _))) ?_ | refine qx_op rfl rfl (runs_none rfl) (does_litAF rfl ts25 ti3 rfl rfl (by decide) (by decide) rfl rfl rfl (by repeat' (first | exact Lo.s _ | exact Lo.emp | exact Lo.any | exact lo_nil | exact lo_nilE | refine lo_cons ?_ ?_ | refine lo_consE ?_ ?_ | refine lo_map ?_ | refine lo_mapE ?_ | refine Lo.cells ?_ | refine Lo.agg _ ?_ | refine Lo.ref _ ?_ | refine Lo.tup _ ?_ | refine Lo.fn _ _ ?_ | refine Lo.sl _ ?_ | intro _))) ?_
      refine qx_nil ?_
      refine ath_n ?_
      first | refine ops_op rfl rfl (runs_none rfl) (does_append rfl ts25 ti3 rfl (by decide) rfl rfl (by first | rfl | (simp; done) | (simp; omega)) rfl (by first | exact .own _ _ _ rfl rfl _ (by first | rfl | simp) | exact .emp | exact .nil | exact .sl _ (by first | simp; done | intro e he; simp at he; obtain ⟨_, _, rfl⟩ := he; rfl)) (by first | omega | (simp; omega) | (unfold maxLen; simp; omega)) (by first | omega | (simp; omega) | (unfold maxLen; simp; omega))) ?_ | refine ops_op rfl rfl (runs_none rfl) (does_append0 rfl ts25 ti3 rfl (by decide) rfl (.inl rfl) rfl (by first | exact .own _ _ _ rfl rfl _ (by first | rfl | simp) | exact .emp | exact .nil | exact .sl _ (by first | simp; done | intro e he; simp at he; obtain ⟨_, _, rfl⟩ := he; rfl)) (by first | omega | (simp; omega) | (unfold maxLen; simp; omega)) (by first | omega | (simp; omega) | (unfold maxLen; simp; omega))) ?_ | refine ops_op rfl rfl (runs_none rfl) (does_append0 rfl ts25 ti3 rfl (by decide) rfl (.inr rfl) rfl (by first | exact .own _ _ _ rfl rfl _ (by first | rfl | simp) | exact .emp | exact .nil | exact .sl _ (by first | simp; done | intro e he; simp at he; obtain ⟨_, _, rfl⟩ := he; rfl)) (by first | omega | (simp; omega) | (unfold maxLen; simp; omega)) (by first | omega | (simp; omega) | (unfold maxLen; simp; omega))) ?_
      refine ops_nil ?_
      refine ath_n ?_
      first | refine ops_op rfl rfl (runs_none rfl) (mv_own (.inr rfl) rfl) ?_ | refine ops_op rfl rfl (runs_none rfl) (mv_sl (.inr rfl) rfl) ?_ | refine ops_op rfl rfl (runs_none rfl) (mv_s (.inr rfl) rfl) ?_ | refine ops_op rfl rfl (runs_none rfl) (mv_emp (.inr rfl) rfl) ?_ | refine ops_op rfl rfl (runs_none rfl) (mv_sub (.inr rfl) rfl) ?_
      refine ops_nil ?_
      repeat (first | refine aw_seq ?_ | refine ath_n ?_ | refine aw_skip ?_ | refine abl_n ?_ | refine aw_block ?_)
      refine aw_draw hmix ?_
      refine adraw_quiet (by kernel_rfl) ?_
      first | refine qx_op rfl rfl (runs_none rfl) (does_fieldAddr_ptr rfl tf29_1 (by decide) rfl) ?_ | refine qx_op rfl rfl (runs_none rfl) (does_fieldAddr_ref rfl tf29_1 (by decide) rfl) ?_
      first | refine qx_op rfl rfl (runs_none rfl) (does_load_ref rfl ta27 rfl) ?_ | refine qx_op rfl rfl (runs_none rfl) (does_load_ptr rfl ta27 rfl rfl rfl rfl rfl) ?_
      first | refine qx_op rfl rfl (runs_none rfl) (mv_own (.inl rfl) rfl) ?_ | refine qx_op rfl rfl (runs_none rfl) (mv_sl (.inl rfl) rfl) ?_ | refine qx_op rfl rfl (runs_none rfl) (mv_s (.inl rfl) rfl) ?_ | refine qx_op rfl rfl (runs_none rfl) (mv_emp (.inl rfl) rfl) ?_ | refine qx_op rfl rfl (runs_none rfl) (mv_sub (.inl rfl) rfl) ?_
      refine qx_op rfl rfl (runs_none rfl) (mv_s (.inl rfl) rfl) ?_
      first | refine qx_op rfl rfl (runs_none rfl) (does_index_sl rfl ts25 ti3 rfl rfl hv hvn rfl) ?_ | refine qx_op rfl rfl (runs_none rfl) (does_index_own rfl ts25 ti3 rfl rfl hv hvn) ?_ | refine qx_op rfl rfl (runs_none rfl) (does_index_sub rfl ts25 ti3 rfl rfl hv hvn) ?_
      first | refine qx_op rfl rfl (runs_none rfl) (does_load_ref rfl ta3 rfl) ?_ | refine qx_op rfl rfl (runs_none rfl) (does_load_ptr rfl ta3 rfl rfl rfl hby rfl) ?_
      first | refine qx_op rfl rfl (runs_none rfl) (does_index_sl rfl ts27 ti56 rfl rfl rfl hix rfl) ?_ | refine qx_op rfl rfl (runs_none rfl) (does_index_own rfl ts27 ti56 rfl rfl rfl hix) ?_ | refine qx_op rfl rfl (runs_none rfl) (does_index_sub rfl ts27 ti56 rfl rfl rfl hix) ?_
      first | refine qx_op rfl rfl (runs_none rfl) (does_fieldAddr_ptr rfl tf56_0 (by decide) rfl) ?_ | refine qx_op rfl rfl (runs_none rfl) (does_fieldAddr_ref rfl tf56_0 (by decide) rfl) ?_
      first | refine qx_op rfl rfl (runs_none rfl) (does_load_ref rfl ta3 rfl) ?_ | refine qx_op rfl rfl (runs_none rfl) (does_load_ptr rfl ta3 rfl rfl rfl rfl rfl) ?_
      refine qx_op rfl rfl (runs_none rfl) (mv_s (.inr rfl) rfl) ?_
      refine qx_nil ?_
      repeat (first | refine aw_seq ?_ | refine ath_n ?_ | refine aw_skip ?_ | refine abl_n ?_ | refine aw_block ?_)
      exact ⟨((gti s.mv k).fr, back ++ [(gti s.mv k).sym], p', f), ⟨by show p' < q.1.length; omega, k4, by simpa using g3, by show p' < f; omega, by simp; omega⟩, k3, wk_st [0, 2] (by decide) ⟨⟨_, rfl, .rowE (rowI_lo _) rfl⟩, ⟨_, rfl, .rowE (rowI_lo _) (by rw [List.map_append]; rfl)⟩, trivial⟩ ⟨.lo _ (by repeat' (first | exact Lo.s _ | exact Lo.emp | exact Lo.any | exact lo_nil | exact lo_nilE | refine lo_cons ?_ ?_ | refine lo_consE ?_ ?_ | refine lo_map ?_ | refine lo_mapE ?_ | refine Lo.cells ?_ | refine Lo.agg _ ?_ | refine Lo.ref _ ?_ | refine Lo.tup _ ?_ | refine Lo.fn _ _ ?_ | refine Lo.sl _ ?_ | intro _)), .lo _ hls, .own 0 0 1 _ _ rfl rfl, .own 2 1 1 _ _ rfl (by simp), trivial⟩⟩
    · rw [if_pos (by omega), List.append_nil] at g3
      rw [← g3] at HI
      (refine aw_exit ?_; repeat (first | refine ath_x ?_ | refine abl_hit ?_ | refine abl_miss rfl ?_ | refine abl_n ?_ | refine ath_n ?_ | refine aw_seq ?_ | refine aw_skip ?_ | refine aw_block ?_))
      refine aw_region ?_
      first | refine ops_op rfl rfl (runs_none rfl) (mv_own (.inr rfl) rfl) ?_ | refine ops_op rfl rfl (runs_none rfl) (mv_sl (.inr rfl) rfl) ?_ | refine ops_op rfl rfl (runs_none rfl) (mv_s (.inr rfl) rfl) ?_ | refine ops_op rfl rfl (runs_none rfl) (mv_emp (.inr rfl) rfl) ?_ | refine ops_op rfl rfl (runs_none rfl) (mv_sub (.inr rfl) rfl) ?_
      refine ops_nil ?_
      repeat (first | refine aw_seq ?_ | refine ath_n ?_ | refine aw_skip ?_ | refine abl_n ?_ | refine aw_block ?_)
      refine aw_weak (wk_own (d := 13) 1 rfl (.inr rfl)) ?_
      refine aw_region ?_
      first | refine ops_op rfl rfl (runs_none rfl) (mv_own (.inl rfl) rfl) ?_ | refine ops_op rfl rfl (runs_none rfl) (mv_sl (.inl rfl) rfl) ?_ | refine ops_op rfl rfl (runs_none rfl) (mv_s (.inl rfl) rfl) ?_ | refine ops_op rfl rfl (runs_none rfl) (mv_emp (.inl rfl) rfl) ?_ | refine ops_op rfl rfl (runs_none rfl) (mv_sub (.inl rfl) rfl) ?_
      first | refine ops_op rfl rfl (runs_none rfl) (does_len_map rfl ts25 rfl) ?_ | refine ops_op rfl rfl (runs_none rfl) (does_len_sl rfl ts25 rfl) ?_ | refine ops_op rfl rfl (runs_none rfl) (does_len_own rfl ts25 rfl) ?_ | refine ops_op rfl rfl (runs_none rfl) (does_len_s rfl ts25 rfl) ?_ | refine ops_op rfl rfl (runs_none rfl) (does_len_emp rfl ts25 rfl) ?_ | refine ops_op rfl rfl (runs_none rfl) (does_len_sub rfl ts25 rfl) ?_
      refine ops_op rfl rfl (runs_none rfl) (does_sub rfl rfl rfl (IntWalk.i64_in _ (by dsimp only; omega))) ?_
      refine ops_op rfl rfl (runs_none rfl) (mv_s (.inr rfl) rfl) ?_
      refine ops_nil ?_
      repeat (first | refine aw_seq ?_ | refine ath_n ?_ | refine aw_skip ?_ | refine abl_n ?_ | refine aw_block ?_)
      refine aw_loops (S := Nat × Int) (fun p => [(12, .own 0 1 back.length), (13, .own 1 1 p.1), (14, eI p.2)]) (fun p => [.row 1 (back.map eI), .row 1 ((back.reverse.take p.1).map eI)]) (fun p => p.1 ≤ back.length ∧ p.2 = (back.length : Int) - 1 - p.1) (fun p => back.length - p.1) (0, (back.length : Int) - 1)
        (wk_st [1, 2] (by decide) ⟨⟨_, rfl, .rowE (rowI_lo _) rfl⟩, ⟨_, rfl, .rowE (by simp) rfl⟩, trivial⟩ ⟨.own 1 0 1 _ _ rfl rfl, .own 2 1 1 _ _ rfl rfl, .lo _ (by repeat' (first | exact Lo.s _ | exact Lo.emp | exact Lo.any | exact lo_nil | exact lo_nilE | refine lo_cons ?_ ?_ | refine lo_consE ?_ ?_ | refine lo_map ?_ | refine lo_mapE ?_ | refine Lo.cells ?_ | refine Lo.agg _ ?_ | refine Lo.ref _ ?_ | refine Lo.tup _ ?_ | refine Lo.fn _ _ ?_ | refine Lo.sl _ ?_ | intro _)), trivial⟩) ⟨Nat.zero_le _, by simp⟩ (fun p hp => ?_)
      obtain ⟨j, x⟩ := p
      obtain ⟨hj, hx⟩ := hp
      replace hj : j ≤ back.length := hj
      replace hx : x = (back.length : Int) - 1 - j := hx
      have htm : ((back.reverse.take j).map eI).length = j := by simp; omega
      repeat (first | refine aw_seq ?_ | refine ath_n ?_ | refine aw_skip ?_ | refine abl_n ?_ | refine aw_block ?_)
      all_goals refine aw_region ?_
      all_goals refine ops_op rfl rfl (runs_none rfl) (mv_s (.inl rfl) rfl) ?_
      all_goals (first | refine ops_opP rfl rfl (runs_none rfl) (does_geq rfl rfl rfl) (fun h122 => ?_) (fun h122 => ?_) | refine ops_opB rfl rfl (runs_none rfl) (does_geq rfl rfl rfl) (fun h122 => ?_) (fun h122 => ?_))
      all_goals refine ops_nil ?_
      all_goals (repeat (first | refine aw_seq ?_ | refine ath_n ?_ | refine aw_skip ?_ | refine abl_n ?_ | refine aw_block ?_))
      all_goals (first | refine aw_true rfl ?_ | refine aw_false rfl ?_)
      all_goals (repeat (first | refine aw_seq ?_ | refine ath_n ?_ | refine aw_skip ?_ | refine abl_n ?_ | refine aw_block ?_))
      all_goals dsimp only at h122
      · have hjt : j < back.length := by omega
        obtain ⟨y, hy⟩ : ∃ y : Nat, x = (y : Int) := ⟨x.toNat, by omega⟩
        have hyl : y < back.length := by omega
        have hby : (back.map eI)[y]? = some (eI (gti back y)) := ix_map hyl
        have hrv : gti back.reverse j = gti back y := by
          have h1 : back.reverse[j]? = back[back.length - 1 - j]? := List.getElem?_reverse hjt
          unfold gti
          rw [h1, show back.length - 1 - j = y by omega]
        refine aw_region ?_
        first | refine ops_op rfl rfl (runs_none rfl) (mv_own (.inl rfl) rfl) ?_ | refine ops_op rfl rfl (runs_none rfl) (mv_sl (.inl rfl) rfl) ?_ | refine ops_op rfl rfl (runs_none rfl) (mv_s (.inl rfl) rfl) ?_ | refine ops_op rfl rfl (runs_none rfl) (mv_emp (.inl rfl) rfl) ?_ | refine ops_op rfl rfl (runs_none rfl) (mv_sub (.inl rfl) rfl) ?_
        first | refine ops_op rfl rfl (runs_none rfl) (mv_own (.inl rfl) rfl) ?_ | refine ops_op rfl rfl (runs_none rfl) (mv_sl (.inl rfl) rfl) ?_ | refine ops_op rfl rfl (runs_none rfl) (mv_s (.inl rfl) rfl) ?_ | refine ops_op rfl rfl (runs_none rfl) (mv_emp (.inl rfl) rfl) ?_ | refine ops_op rfl rfl (runs_none rfl) (mv_sub (.inl rfl) rfl) ?_
        refine ops_op rfl rfl (runs_none rfl) (mv_s (.inl rfl) rfl) ?_
        first | refine ops_op rfl rfl (runs_none rfl) (does_index_sl rfl ts25 ti3 rfl rfl hy hyl rfl) ?_ | refine ops_op rfl rfl (runs_none rfl) (does_index_own rfl ts25 ti3 rfl rfl hy hyl) ?_ | refine ops_op rfl rfl (runs_none rfl) (does_index_sub rfl ts25 ti3 rfl rfl hy hyl) ?_
        first | refine ops_op rfl rfl (runs_none rfl) (does_load_ref rfl ta3 rfl) ?_ | refine ops_op rfl rfl (runs_none rfl) (does_load_ptr rfl ta3 rfl rfl rfl hby rfl) ?_
        first | refine ops_op rfl rfl (runs_none rfl) (lit1_sF rfl ts25 ti3 rfl rfl rfl rfl) ?_ | refine ops_op rfl rfl (runs_none rfl) (lit1_slF rfl ts25 ti3 rfl rfl rfl rfl (by repeat' (first | exact Lo.s _ | exact Lo.emp | exact Lo.any | exact lo_nil | exact lo_nilE | refine lo_cons ?_ ?_ | refine lo_consE ?_ ?_ | refine lo_map ?_ | refine lo_mapE ?_ | refine Lo.cells ?_ | refine Lo.agg _ ?_ | refine Lo.ref _ ?_ | refine Lo.tup _ ?_ | refine Lo.fn _ _ ?_ | refine Lo.sl _ ?_ | intro _))) ?_ | refine ops_op rfl rfl (runs_none rfl) (does_litAF rfl ts25 ti3 rfl rfl (by decide) (by decide) rfl rfl rfl (by repeat' (first | exact Lo.s _ | exact Lo.emp | exact Lo.any | exact lo_nil | exact lo_nilE | refine lo_cons ?_ ?_ | refine lo_consE ?_ ?_ | refine lo_map ?_ | refine lo_mapE ?_ | refine Lo.cells ?_ | refine Lo.agg _ ?_ | refine Lo.ref _ ?_ | refine Lo.tup _ ?_ | refine Lo.fn _ _ ?_ | refine Lo.sl _ ?_ | intro _))) ?_
        first | refine ops_op rfl rfl (runs_none rfl) (does_append rfl ts25 ti3 rfl (by decide) rfl rfl (by first | rfl | (simp; done) | (simp; omega)) rfl (by first | exact .own _ _ _ rfl rfl _ (by first | rfl | simp) | exact .emp | exact .nil | exact .sl _ (by first | simp; done | intro e he; simp at he; obtain ⟨_, _, rfl⟩ := he; rfl)) (by first | omega | (simp; omega) | (unfold maxLen; simp; omega)) (by first | omega | (simp; omega) | (unfold maxLen; simp; omega))) ?_ | refine ops_op rfl rfl (runs_none rfl) (does_append0 rfl ts25 ti3 rfl (by decide) rfl (.inl rfl) rfl (by first | exact .own _ _ _ rfl rfl _ (by first | rfl | simp) | exact .emp | exact .nil | exact .sl _ (by first | simp; done | intro e he; simp at he; obtain ⟨_, _, rfl⟩ := he; rfl)) (by first | omega | (simp; omega) | (unfold maxLen; simp; omega)) (by first | omega | (simp; omega) | (unfold maxLen; simp; omega))) ?_ | refine ops_op rfl rfl (runs_none rfl) (does_append0 rfl ts25 ti3 rfl (by decide) rfl (.inr rfl) rfl (by first | exact .own _ _ _ rfl rfl _ (by first | rfl | simp) | exact .emp | exact .nil | exact .sl _ (by first | simp; done | intro e he; simp at he; obtain ⟨_, _, rfl⟩ := he; rfl)) (by first | omega | (simp; omega) | (unfold maxLen; simp; omega)) (by first | omega | (simp; omega) | (unfold maxLen; simp; omega))) ?_
        first | refine ops_op rfl rfl (runs_none rfl) (mv_own (.inr rfl) rfl) ?_ | refine ops_op rfl rfl (runs_none rfl) (mv_sl (.inr rfl) rfl) ?_ | refine ops_op rfl rfl (runs_none rfl) (mv_s (.inr rfl) rfl) ?_ | refine ops_op rfl rfl (runs_none rfl) (mv_emp (.inr rfl) rfl) ?_ | refine ops_op rfl rfl (runs_none rfl) (mv_sub (.inr rfl) rfl) ?_
        refine ops_nil ?_
        repeat (first | refine aw_seq ?_ | refine ath_n ?_ | refine aw_skip ?_ | refine abl_n ?_ | refine aw_block ?_)
        refine aw_region ?_
        refine ops_op rfl rfl (runs_none rfl) (mv_s (.inl rfl) rfl) ?_
        refine ops_op rfl rfl (runs_none rfl) (does_sub rfl rfl rfl (IntWalk.i64_in _ (by omega))) ?_
        refine ops_op rfl rfl (runs_none rfl) (mv_s (.inr rfl) rfl) ?_
        refine ops_nil ?_
        repeat (first | refine aw_seq ?_ | refine ath_n ?_ | refine aw_skip ?_ | refine abl_n ?_ | refine aw_block ?_)
        exact ⟨(j + 1, x - 1), ⟨by show j + 1 ≤ back.length; omega, by show x - 1 = (back.length : Int) - 1 - ((j + 1 : Nat) : Int); omega⟩, by show back.length - (j + 1) < back.length - j; omega, wk_st [0, 2] (by decide) ⟨⟨_, rfl, .rowE (rowI_lo _) rfl⟩, ⟨_, rfl, .rowE (rowI_lo _) (by rw [take_snocI (by simpa using hjt), List.map_append, hrv]; rfl)⟩, trivial⟩ ⟨.own 0 0 1 _ _ rfl rfl, .own 2 1 1 _ _ rfl (by rw [htm]; rfl), .lo _ (by repeat' (first | exact Lo.s _ | exact Lo.emp | exact Lo.any | exact lo_nil | exact lo_nilE | refine lo_cons ?_ ?_ | refine lo_consE ?_ ?_ | refine lo_map ?_ | refine lo_mapE ?_ | refine Lo.cells ?_ | refine Lo.agg _ ?_ | refine Lo.ref _ ?_ | refine Lo.tup _ ?_ | refine Lo.fn _ _ ?_ | refine Lo.sl _ ?_ | intro _)), trivial⟩⟩
      · have e : j = back.length := by omega
        subst e
        rw [List.take_of_length_le (by simp)]
        (refine aw_exit ?_; repeat (first | refine ath_x ?_ | refine abl_hit ?_ | refine abl_miss rfl ?_ | refine abl_n ?_ | refine ath_n ?_ | refine aw_seq ?_ | refine aw_skip ?_ | refine aw_block ?_))
        refine aw_region ?_
        first | refine ops_op rfl rfl (runs_none rfl) (mv_own (.inl rfl) rfl) ?_ | refine ops_op rfl rfl (runs_none rfl) (mv_sl (.inl rfl) rfl) ?_ | refine ops_op rfl rfl (runs_none rfl) (mv_s (.inl rfl) rfl) ?_ | refine ops_op rfl rfl (runs_none rfl) (mv_emp (.inl rfl) rfl) ?_ | refine ops_op rfl rfl (runs_none rfl) (mv_sub (.inl rfl) rfl) ?_
        first | refine ops_op rfl rfl (runs_none rfl) (mv_own (.inr rfl) rfl) ?_ | refine ops_op rfl rfl (runs_none rfl) (mv_sl (.inr rfl) rfl) ?_ | refine ops_op rfl rfl (runs_none rfl) (mv_s (.inr rfl) rfl) ?_ | refine ops_op rfl rfl (runs_none rfl) (mv_emp (.inr rfl) rfl) ?_ | refine ops_op rfl rfl (runs_none rfl) (mv_sub (.inr rfl) rfl) ?_
        refine ops_op rfl rfl (runs_none rfl) (mv_s (.inr rfl) rfl) ?_
        refine ops_nil ?_
        repeat (first | refine aw_seq ?_ | refine ath_n ?_ | refine aw_skip ?_ | refine abl_n ?_ | refine aw_block ?_)
        (refine aw_ret ?_; repeat (first | refine ath_r ?_ | refine abl_r ?_))
        exact post_le (N := 0) (.inr rfl) rfl rfl (.own _ _ _ _ _ rfl rfl (by simp)) HI
end Go.Proofs.Ythdpacbjbdkemaa.Aw
end
section
namespace Go.Proofs.Ythdpacbjbdkemaa
set_option linter.unusedSimpArgs false
set_option linter.unusedVariables false
open Go.ChangeShapes Go.WideShapes Go.ChangeAt Go.RowKit

theorem own_knob : ownKnob Try.prog.godebug = none := by kernel_rfl
theorem laid_out : laidOutB Try.prog = true := by kernel_rfl

section
variable {H : Type} {enc : TypeId × Value → H}
set_option maxRecDepth 100000 in
theorem law_post {f : Func} {s : ChangeSpec} {W W' : World} {args : Array Value} {ds gs : List (DataW H)} {before : List MemPlace} {t : TypeId}
    (hW : DataW.Whole enc Try.prog f.params.toList s.vars false W args.toList ds gs before) (hr : f.resultTypes = #[t]) (ht : Try.prog.underlying t = some .bool)
    (hfn : (s.fn H (ds ++ gs)).results = [.lit (.bool true)] ∧ (s.fn H (ds ++ gs)).args = ds ∧ (s.fn H (ds ++ gs)).vars = []) (hv : s.vars = [])
    (hargs : DataW.TrodAll enc Try.prog W' 0 (fun b => decide (b < W.heap.size)) true f.params.toList args.toList ds before) (hb : Below W.heap.size W W') :
    s.post enc Try.prog f false true false false W args (.bool true) W' := by
  refine ⟨ds, gs, before, [], before, [], hW, ?_, ?_, ?_, World.keptBut_mono (fun p hp => ⟨hp, Or.inr (by simpa using hp)⟩) (hb.frame (· ∈ before)), fun h => by cases h⟩
  · rw [hfn.1, hr]
    exact trodAll_mk1 (shut_bool ht true)
  · rw [hfn.2.1]
    exact hargs
  · rw [hfn.2.2, hv]
    rfl
end
namespace Aw
/-- before the law is called -/
def G0 (W : World) : Cx := { base := 0, w0 := W, w := W, mu := fun _ => none, St := fun b _ => b < W.heap.size }
theorem pure_law {P : Program} {f : FuncId} {args : List AV} (hp : Pure P f args (eB true)) (W : World) (vargs : Array Value) (hsz : vargs.size = args.length) (hrep : ∀ (j : Nat) v x, vargs[j]? = some v → args[j]? = some x → Rep (G0 W) v x) :
    Calls P f vargs W fun e w' => e = .returned (.bool true) ∧ Below W.heap.size W w' :=
  (hp.call (G0 W) vargs (fun b o h => h) hsz hrep).mono (by
    rintro e w' ⟨v, G', rfl, rfl, hb, _, _, _, hr⟩
    exact ⟨by rw [rep_s hr], hb⟩)
section
variable {H : Type} {enc : TypeId × Value → H} {w : World} {base : Nat} {sp : Nat → Bool} {held : Bool}
/-- cells of the store, seen -/
def Rc (w : World) (cs : List Value) (l : List AV) : Prop := cs.length = l.length ∧ (∀ c ∈ l, c.one = true) ∧ ∀ (j : Nat) v c, cs[j]? = some v → l[j]? = some c → Rep (G0 w) v c
theorem rc_nil : Rc w [] [] := ⟨rfl, by simp, fun j v c h => by simp at h⟩
theorem rc_cons {v : Value} {a : AV} {cs : List Value} {l : List AV} (h1 : Rep (G0 w) v a) (h2 : a.one = true) (h : Rc w cs l) : Rc w (v :: cs) (a :: l) :=
  ⟨by simp [h.1], fun c hc => by
    rcases List.mem_cons.1 hc with rfl | hc
    · exact h2
    · exact h.2.1 c hc, fun j u c hu hc => by
    cases j with
    | zero => simp at hu hc; subst hu hc; exact h1
    | succ j => simp at hu hc; exact h.2.2 j u c hu hc⟩
theorem rc_agg {vs : Array Value} {l : List AV} (h : Rc w vs.toList l) : Rep (G0 w) (.agg vs) (.agg l) :=
  .agg vs l (by simpa using h.1) h.2.1 (fun j v c hv hc => h.2.2 j v c (by simpa using hv) hc)
theorem addr_off (b off j : Nat) : (⟨b, off, none⟩ : Addr).add j = ⟨b, off + j, none⟩ := by unfold Addr.add; split <;> simp_all
theorem opens_slice {t e : TypeId} {β : Type} {f : β → AV} {size : Nat} (ht : Try.prog.underlying t = some (.slice e)) (hc : Try.prog.cellsOf e = size) (hpos : 0 < size) (hen : ∀ b, (f b).cells.length = size)
    (hel : ∀ fuel cs (x : DataW H × List MemPlace), DataW.trod enc Try.prog w base sp held fuel e cs = some x → ∃ b, Rc w cs (f b).cells)
    {fuel : Nat} {cs : List Value} {x : DataW H × List MemPlace} (h : DataW.trod enc Try.prog w base sp held fuel t cs = some x) : ∃ (v : Value) (l : List β), cs = [v] ∧ Rep (G0 w) v (eL f l) := by
  rcases DataW.trod_slice ht h with ⟨rfl, _⟩ | ⟨a, len, cap, elems, rest, n, _, rfl, _, hb, hl, hm, hlen, helem, _⟩
  · exact ⟨_, [], rfl, .slnil none 0⟩
  · rw [hc] at helem
    have hx : ∀ i : Fin len, ∃ p : List Value × β, w.cells? base (a.add (i * size)) size = some p.1 ∧ Rc w p.1 (f p.2).cells := by
      intro i
      have h1 := helem i i.2
      have hi : (i : Nat) < elems.length := by rw [hlen]; exact i.2
      rw [List.getElem?_eq_getElem hi, Option.bind_eq_some_iff] at h1
      obtain ⟨cs', h2, h3⟩ := h1
      obtain ⟨y, hy⟩ := hel _ _ _ h3
      exact ⟨(cs', y), h2, hy⟩
    obtain ⟨g, hg⟩ : ∃ g : Fin len → List Value × β, ∀ i : Fin len, w.cells? base (a.add ((i : Nat) * size)) size = some (g i).1 ∧ Rc w (g i).1 (f (g i).2).cells := ⟨fun i => Classical.choose (hx i), fun i => Classical.choose_spec (hx i)⟩
    rcases Nat.eq_zero_or_pos len with h0 | hn
    · subst h0
      exact ⟨_, [], rfl, .slnil _ _⟩
    · have hspot : a.spot = none := by
        have h1 := World.cells?_some (hg ⟨0, hn⟩).1
        have h2 := h1.2.2 0 hpos
        have h3 : ((a.add (0 * size)).add 0) = a := by simp [Addr.add]
        rw [List.getElem?_eq_getElem (by rw [h1.2.1]; exact hpos)] at h2
        have h4 := World.cell?_spot h2
        simpa [Addr.add] using h4
      obtain ⟨b, off, s⟩ := a
      simp only at hspot
      subst hspot
      refine ⟨_, List.ofFn (fun i => (g i).2), rfl, ?_⟩
      have hlf : ((List.ofFn fun i => (g i).2).map f).length = len := by simp
      have hel2 : ∀ (k : Nat) e, ((List.ofFn fun i => (g i).2).map f)[k]? = some e → ∃ hk : k < len, e = f (g ⟨k, hk⟩).2 := by
        intro k e hk
        have hkl : k < len := by have := (List.getElem?_eq_some_iff.1 hk).1; rwa [hlf] at this
        refine ⟨hkl, ?_⟩
        rw [List.getElem?_map, List.getElem?_ofFn] at hk
        simp [hkl] at hk
        exact hk.symm
      have key : ∀ (k : Nat) e (j : Nat) c, ((List.ofFn fun i => (g i).2).map f)[k]? = some e → e.cells[j]? = some c → ∃ u, w.cell? ⟨b, off + k * size + j, none⟩ = some u ∧ Rep (G0 w) u c := by
        intro k e j c hk hc'
        obtain ⟨hkl, rfl⟩ := hel2 k e hk
        obtain ⟨q1, q2, q3⟩ := (hg ⟨k, hkl⟩).2
        have hcs := World.cells?_some (hg ⟨k, hkl⟩).1
        have hj : j < size := by rw [← hen (g ⟨k, hkl⟩).2]; exact (List.getElem?_eq_some_iff.1 hc').1
        have hj2 : j < (g ⟨k, hkl⟩).1.length := by rw [hcs.2.1]; exact hj
        have h5 := hcs.2.2 j hj
        rw [List.getElem?_eq_getElem hj2] at h5
        rw [addr_off, addr_off] at h5
        exact ⟨(g ⟨k, hkl⟩).1[j], h5, q3 j _ c (List.getElem?_eq_getElem hj2) hc'⟩
      have hR := Rep.sl (G := G0 w) b off cap size ((List.ofFn fun i => (g i).2).map f) (fun k j => (w.cell? ⟨b, off + k * size + j, none⟩).getD undef) (by rw [hlf]; exact hl) (by rw [hlf]; exact Nat.le_trans hl hm) (fun k e hk => by
          obtain ⟨hkl, rfl⟩ := hel2 k e hk
          exact ⟨hen _, (hg ⟨k, hkl⟩).2.2.1⟩) (fun k e j c hk hc' => by
          obtain ⟨u, h6, _⟩ := key k e j c hk hc'
          exact ⟨World.block_lt_of_cell? _ _ h6, by show w.cell? _ = _; rw [h6]; rfl⟩) (fun k e j c hk hc' => by
          obtain ⟨u, h6, h7⟩ := key k e j c hk hc'
          rw [h6]; exact h7)
      rw [hlf] at hR
      exact hR
theorem opens_int {fuel : Nat} {cs : List Value} {x : DataW H × List MemPlace} (h : DataW.trod enc Try.prog w base sp held fuel 3 cs = some x) : ∃ n : Int, Rc w cs (eI n).cells := by
  obtain ⟨n, rfl, _⟩ := DataW.trod_int Try.underlying3 h
  exact ⟨n, rc_cons (.s _) rfl rc_nil⟩
theorem opens_ints {fuel : Nat} {cs : List Value} {x : DataW H × List MemPlace} (h : DataW.trod enc Try.prog w base sp held fuel 25 cs = some x) : ∃ (v : Value) (l : List Int), cs = [v] ∧ Rep (G0 w) v (eL eI l) :=
  opens_slice (size := 1) Try.underlying25 (by kernel_rfl) (by decide) (fun _ => rfl) (fun fuel cs x h => opens_int h) h
theorem opens_intss {fuel : Nat} {cs : List Value} {x : DataW H × List MemPlace} (h : DataW.trod enc Try.prog w base sp held fuel 26 cs = some x) : ∃ (v : Value) (l : List (List Int)), cs = [v] ∧ Rep (G0 w) v (eL (eL eI) l) :=
  opens_slice (size := 1) Try.underlying26 (by kernel_rfl) (by decide) (fun _ => rfl) (fun fuel cs x h => by
    obtain ⟨v, l, rfl, hr⟩ := opens_ints h
    exact ⟨l, rc_cons hr rfl rc_nil⟩) h
variable {b0 : Nat} {r : Reach} {v : Value} {d : DataW H} {p : List MemPlace}
set_option maxRecDepth 100000 in
theorem open_ints (hv : Value.okWide Try.prog w r b0 25 v) (h : DataW.Trod enc Try.prog w base sp held 25 v d p) : ∃ l : List Int, Rep (G0 w) v (eL eI l) := by
  obtain ⟨a, n, c, rfl⟩ := okWide_slice Try.underlying25 hv
  obtain ⟨fuel, hf⟩ := h
  obtain ⟨v', l, ha, hr⟩ := opens_ints hf
  simp [Value.cells] at ha
  subst ha
  exact ⟨l, hr⟩
set_option maxRecDepth 100000 in
theorem open_int (hv : Value.okWide Try.prog w r b0 3 v) (h : DataW.Trod enc Try.prog w base sp held 3 v d p) : ∃ n : Int, Rep (G0 w) v (eI n) := by
  obtain ⟨n, rfl⟩ := okWide_int Try.underlying3 hv
  exact ⟨n, .s _⟩
end
end Aw
end Go.Proofs.Ythdpacbjbdkemaa
end
section
namespace Go.Proofs.Ythdpacbjbdkemaa.Aw
set_option linter.unusedSimpArgs false
set_option linter.unusedVariables false
set_option linter.unusedSectionVars false
open Go Go.RowKit Go.Proofs Go.ChangeShapes Go.WideShapes Go.ChangeAt
section
variable {P : Program} [IsP P]
def littleB (s : Spc) : Bool := decide ((s.st.length ≤ 60 ∨ 2000 < s.st.length ∧ s.st.length < 2005) ∧ s.mv.length ≤ 400) && !s.st.any fun m => decide (20 < m.length)
theorem little1_pf (m : List Int) : Pure P 31 [eL eI m] (eB (decide (20 < m.length))) := by
  refine aw_fn (by rw [IsP.eq (P := P)]; exact Try.func31) rfl rfl rfl rfl rfl (by repeat' (first | exact Lo.s _ | exact Lo.emp | exact Lo.any | exact lo_nil | exact lo_nilE | refine lo_cons ?_ ?_ | refine lo_consE ?_ ?_ | refine lo_map ?_ | refine lo_mapE ?_ | refine Lo.cells ?_ | refine Lo.agg _ ?_ | refine Lo.ref _ ?_ | refine Lo.tup _ ?_ | refine Lo.fn _ _ ?_ | refine Lo.sl _ ?_ | intro _)) (by repeat' (first | exact Lo.s _ | exact Lo.emp | exact Lo.any | exact lo_nil | exact lo_nilE | refine lo_cons ?_ ?_ | refine lo_consE ?_ ?_ | refine lo_map ?_ | refine lo_mapE ?_ | refine Lo.cells ?_ | refine Lo.agg _ ?_ | refine Lo.ref _ ?_ | refine Lo.tup _ ?_ | refine Lo.fn _ _ ?_ | refine Lo.sl _ ?_ | intro _)) (by simp only [argF]; rfl) ?_
  repeat (first | refine aw_seq ?_ | refine ath_n ?_ | refine aw_skip ?_ | refine abl_n ?_ | refine aw_block ?_)
  refine aw_region ?_
  refine ops_op rfl rfl (runs_none rfl) (mv_s (.inr rfl) rfl) ?_
  refine ops_nil ?_
  repeat (first | refine aw_seq ?_ | refine ath_n ?_ | refine aw_skip ?_ | refine abl_n ?_ | refine aw_block ?_)
  all_goals refine aw_region ?_
  all_goals (first | refine ops_op rfl rfl (runs_none rfl) (mv_own (.inl rfl) rfl) ?_ | refine ops_op rfl rfl (runs_none rfl) (mv_sl (.inl rfl) rfl) ?_ | refine ops_op rfl rfl (runs_none rfl) (mv_s (.inl rfl) rfl) ?_ | refine ops_op rfl rfl (runs_none rfl) (mv_emp (.inl rfl) rfl) ?_ | refine ops_op rfl rfl (runs_none rfl) (mv_sub (.inl rfl) rfl) ?_)
  all_goals (first | refine ops_op rfl rfl (runs_none rfl) (does_len_map rfl ts25 rfl) ?_ | refine ops_op rfl rfl (runs_none rfl) (does_len_sl rfl ts25 rfl) ?_ | refine ops_op rfl rfl (runs_none rfl) (does_len_own rfl ts25 rfl) ?_ | refine ops_op rfl rfl (runs_none rfl) (does_len_s rfl ts25 rfl) ?_ | refine ops_op rfl rfl (runs_none rfl) (does_len_emp rfl ts25 rfl) ?_ | refine ops_op rfl rfl (runs_none rfl) (does_len_sub rfl ts25 rfl) ?_)
  all_goals (first | refine ops_opP rfl rfl (runs_none rfl) (does_gtr rfl rfl rfl) (fun h5 => ?_) (fun h5 => ?_) | refine ops_opB rfl rfl (runs_none rfl) (does_gtr rfl rfl rfl) (fun h5 => ?_) (fun h5 => ?_))
  all_goals refine ops_op rfl rfl (runs_none rfl) (mv_s (.inr rfl) rfl) ?_
  all_goals refine ops_nil ?_
  all_goals (repeat (first | refine aw_seq ?_ | refine ath_n ?_ | refine aw_skip ?_ | refine abl_n ?_ | refine aw_block ?_))
  all_goals (refine aw_ret ?_; repeat (first | refine ath_r ?_ | refine abl_r ?_))
  all_goals refine post1 (.inr rfl) rfl (congrArg eB ?_)
  all_goals first
    | exact (decide_eq_true (by omega)).symm
    | exact (decide_eq_false (by omega)).symm
theorem little_pf (s : Spc) : Pure P 9 [eSpc s] (eB (littleB s)) := by
  have hc := containsFIs_pf (P := P) 31 [] (fun m => decide (20 < m.length)) s.st (fun _ => lo_I) (.fn _ _ (by simp)) (fun a _ => little1_pf a)
  have HI : littleB s = (decide ((s.st.length ≤ 60 ∨ 2000 < s.st.length ∧ s.st.length < 2005) ∧ s.mv.length ≤ 400) && !s.st.any fun m => decide (20 < m.length)) := rfl
  generalize s.st.any (fun m => decide (20 < m.length)) = z at hc HI
  refine aw_fn (by rw [IsP.eq (P := P)]; exact Try.func9) rfl rfl rfl rfl rfl (lo_cons (lo_Spc s) lo_nil) (.s _) (by simp only [argF]; rfl) ?_
  repeat (first | refine aw_seq ?_ | refine ath_n ?_ | refine aw_skip ?_ | refine abl_n ?_ | refine aw_block ?_)
  refine aw_region ?_
  refine ops_op rfl rfl (runs_none rfl) (does_box rfl rfl rfl rfl) ?_
  refine aops_weak (wk_froz (id := 0) rfl) (aops_weak (wk_ref (d := 1) rfl rfl rfl) ?_)
  refine ops_op rfl rfl (runs_none rfl) (mv_s (.inr rfl) rfl) ?_
  refine ops_nil ?_
  repeat (first | refine aw_seq ?_ | refine ath_n ?_ | refine aw_skip ?_ | refine abl_n ?_ | refine aw_block ?_)
  all_goals refine aw_region ?_
  all_goals (first | refine ops_op rfl rfl (runs_none rfl) (does_fieldAddr_ptr rfl tf29_0 (by decide) rfl) ?_ | refine ops_op rfl rfl (runs_none rfl) (does_fieldAddr_ref rfl tf29_0 (by decide) rfl) ?_)
  all_goals (first | refine ops_op rfl rfl (runs_none rfl) (does_load_ref rfl ta26 rfl) ?_ | refine ops_op rfl rfl (runs_none rfl) (does_load_ptr rfl ta26 rfl rfl rfl rfl rfl) ?_)
  all_goals (first | refine ops_op rfl rfl (runs_none rfl) (does_len_map rfl ts26 rfl) ?_ | refine ops_op rfl rfl (runs_none rfl) (does_len_sl rfl ts26 rfl) ?_ | refine ops_op rfl rfl (runs_none rfl) (does_len_own rfl ts26 rfl) ?_ | refine ops_op rfl rfl (runs_none rfl) (does_len_s rfl ts26 rfl) ?_ | refine ops_op rfl rfl (runs_none rfl) (does_len_emp rfl ts26 rfl) ?_ | refine ops_op rfl rfl (runs_none rfl) (does_len_sub rfl ts26 rfl) ?_)
  all_goals (first | refine ops_opP rfl rfl (runs_none rfl) (does_leq rfl rfl rfl) (fun h6 => ?_) (fun h6 => ?_) | refine ops_opB rfl rfl (runs_none rfl) (does_leq rfl rfl rfl) (fun h6 => ?_) (fun h6 => ?_))
  all_goals refine ops_op rfl rfl (runs_none rfl) (mv_s (.inl rfl) rfl) ?_
  all_goals (first | refine ops_op rfl rfl (runs_y rfl rfl rfl) (does_fieldAddr_ptr rfl tf29_0 (by decide) rfl) ?_ | refine ops_op rfl rfl (runs_y rfl rfl rfl) (does_fieldAddr_ref rfl tf29_0 (by decide) rfl) ?_ | refine ops_skip rfl rfl (runs_nf rfl rfl rfl) ?_ | refine ops_skip rfl rfl (runs_nu rfl rfl rfl) ?_)
  all_goals (first | refine ops_op rfl rfl (runs_y rfl rfl rfl) (does_load_ref rfl ta26 rfl) ?_ | refine ops_op rfl rfl (runs_y rfl rfl rfl) (does_load_ptr rfl ta26 rfl rfl rfl rfl rfl) ?_ | refine ops_skip rfl rfl (runs_nf rfl rfl rfl) ?_ | refine ops_skip rfl rfl (runs_nu rfl rfl rfl) ?_)
  all_goals (first | refine ops_op rfl rfl (runs_y rfl rfl rfl) (does_len_map rfl ts26 rfl) ?_ | refine ops_op rfl rfl (runs_y rfl rfl rfl) (does_len_sl rfl ts26 rfl) ?_ | refine ops_op rfl rfl (runs_y rfl rfl rfl) (does_len_own rfl ts26 rfl) ?_ | refine ops_op rfl rfl (runs_y rfl rfl rfl) (does_len_s rfl ts26 rfl) ?_ | refine ops_op rfl rfl (runs_y rfl rfl rfl) (does_len_emp rfl ts26 rfl) ?_ | refine ops_op rfl rfl (runs_y rfl rfl rfl) (does_len_sub rfl ts26 rfl) ?_ | refine ops_skip rfl rfl (runs_nf rfl rfl rfl) ?_ | refine ops_skip rfl rfl (runs_nu rfl rfl rfl) ?_)
  all_goals (first | refine ops_opP rfl rfl (runs_y rfl rfl rfl) (does_gtr rfl rfl rfl) (fun h11 => ?_) (fun h11 => ?_) | refine ops_opB rfl rfl (runs_y rfl rfl rfl) (does_gtr rfl rfl rfl) (fun h11 => ?_) (fun h11 => ?_) | refine ops_skip rfl rfl (runs_nf rfl rfl rfl) ?_ | refine ops_skip rfl rfl (runs_nu rfl rfl rfl) ?_)
  all_goals (first | refine ops_op rfl rfl (runs_y rfl rfl rfl) (mv_s (.inl rfl) rfl) ?_ | refine ops_skip rfl rfl (runs_nf rfl rfl rfl) ?_ | refine ops_skip rfl rfl (runs_nu rfl rfl rfl) ?_)
  all_goals (first | refine ops_op rfl rfl (runs_y rfl rfl rfl) (does_fieldAddr_ptr rfl tf29_0 (by decide) rfl) ?_ | refine ops_op rfl rfl (runs_y rfl rfl rfl) (does_fieldAddr_ref rfl tf29_0 (by decide) rfl) ?_ | refine ops_skip rfl rfl (runs_nt rfl rfl rfl) ?_ | refine ops_skip rfl rfl (runs_nu rfl rfl rfl) ?_)
  all_goals (first | refine ops_op rfl rfl (runs_y rfl rfl rfl) (does_load_ref rfl ta26 rfl) ?_ | refine ops_op rfl rfl (runs_y rfl rfl rfl) (does_load_ptr rfl ta26 rfl rfl rfl rfl rfl) ?_ | refine ops_skip rfl rfl (runs_nt rfl rfl rfl) ?_ | refine ops_skip rfl rfl (runs_nu rfl rfl rfl) ?_)
  all_goals (first | refine ops_op rfl rfl (runs_y rfl rfl rfl) (does_len_map rfl ts26 rfl) ?_ | refine ops_op rfl rfl (runs_y rfl rfl rfl) (does_len_sl rfl ts26 rfl) ?_ | refine ops_op rfl rfl (runs_y rfl rfl rfl) (does_len_own rfl ts26 rfl) ?_ | refine ops_op rfl rfl (runs_y rfl rfl rfl) (does_len_s rfl ts26 rfl) ?_ | refine ops_op rfl rfl (runs_y rfl rfl rfl) (does_len_emp rfl ts26 rfl) ?_ | refine ops_op rfl rfl (runs_y rfl rfl rfl) (does_len_sub rfl ts26 rfl) ?_ | refine ops_skip rfl rfl (runs_nt rfl rfl rfl) ?_ | refine ops_skip rfl rfl (runs_nu rfl rfl rfl) ?_)
  all_goals (first | refine ops_opP rfl rfl (runs_y rfl rfl rfl) (does_lss rfl rfl rfl) (fun h16 => ?_) (fun h16 => ?_) | refine ops_opB rfl rfl (runs_y rfl rfl rfl) (does_lss rfl rfl rfl) (fun h16 => ?_) (fun h16 => ?_) | refine ops_skip rfl rfl (runs_nt rfl rfl rfl) ?_ | refine ops_skip rfl rfl (runs_nu rfl rfl rfl) ?_)
  all_goals (first | refine ops_op rfl rfl (runs_y rfl rfl rfl) (pickT_s rfl rfl rfl) ?_ | refine ops_op rfl rfl (runs_y rfl rfl rfl) (pickF_s rfl rfl rfl) ?_ | refine ops_op rfl rfl (runs_y rfl rfl rfl) (does_pickT rfl rfl rfl) ?_ | refine ops_op rfl rfl (runs_y rfl rfl rfl) (does_pickF rfl rfl rfl) ?_ | refine ops_skip rfl rfl (runs_nf rfl rfl rfl) ?_ | refine ops_skip rfl rfl (runs_nu rfl rfl rfl) ?_)
  all_goals (first | refine ops_op rfl rfl (runs_none rfl) (pickT_s rfl rfl rfl) ?_ | refine ops_op rfl rfl (runs_none rfl) (pickF_s rfl rfl rfl) ?_ | refine ops_op rfl rfl (runs_none rfl) (does_pickT rfl rfl rfl) ?_ | refine ops_op rfl rfl (runs_none rfl) (does_pickF rfl rfl rfl) ?_)
  all_goals refine ops_op rfl rfl (runs_none rfl) (mv_s (.inl rfl) rfl) ?_
  all_goals (first | refine ops_op rfl rfl (runs_y rfl rfl rfl) (does_fieldAddr_ptr rfl tf29_1 (by decide) rfl) ?_ | refine ops_op rfl rfl (runs_y rfl rfl rfl) (does_fieldAddr_ref rfl tf29_1 (by decide) rfl) ?_ | refine ops_skip rfl rfl (runs_nt rfl rfl rfl) ?_ | refine ops_skip rfl rfl (runs_nu rfl rfl rfl) ?_)
  all_goals (first | refine ops_op rfl rfl (runs_y rfl rfl rfl) (does_load_ref rfl ta27 rfl) ?_ | refine ops_op rfl rfl (runs_y rfl rfl rfl) (does_load_ptr rfl ta27 rfl rfl rfl rfl rfl) ?_ | refine ops_skip rfl rfl (runs_nt rfl rfl rfl) ?_ | refine ops_skip rfl rfl (runs_nu rfl rfl rfl) ?_)
  all_goals (first | refine ops_op rfl rfl (runs_y rfl rfl rfl) (does_len_map rfl ts27 rfl) ?_ | refine ops_op rfl rfl (runs_y rfl rfl rfl) (does_len_sl rfl ts27 rfl) ?_ | refine ops_op rfl rfl (runs_y rfl rfl rfl) (does_len_own rfl ts27 rfl) ?_ | refine ops_op rfl rfl (runs_y rfl rfl rfl) (does_len_s rfl ts27 rfl) ?_ | refine ops_op rfl rfl (runs_y rfl rfl rfl) (does_len_emp rfl ts27 rfl) ?_ | refine ops_op rfl rfl (runs_y rfl rfl rfl) (does_len_sub rfl ts27 rfl) ?_ | refine ops_skip rfl rfl (runs_nt rfl rfl rfl) ?_ | refine ops_skip rfl rfl (runs_nu rfl rfl rfl) ?_)
  all_goals (first | refine ops_opP rfl rfl (runs_y rfl rfl rfl) (does_leq rfl rfl rfl) (fun h23 => ?_) (fun h23 => ?_) | refine ops_opB rfl rfl (runs_y rfl rfl rfl) (does_leq rfl rfl rfl) (fun h23 => ?_) (fun h23 => ?_) | refine ops_skip rfl rfl (runs_nt rfl rfl rfl) ?_ | refine ops_skip rfl rfl (runs_nu rfl rfl rfl) ?_)
  all_goals (first | refine ops_op rfl rfl (runs_none rfl) (pickT_s rfl rfl rfl) ?_ | refine ops_op rfl rfl (runs_none rfl) (pickF_s rfl rfl rfl) ?_ | refine ops_op rfl rfl (runs_none rfl) (does_pickT rfl rfl rfl) ?_ | refine ops_op rfl rfl (runs_none rfl) (does_pickF rfl rfl rfl) ?_)
  all_goals refine ops_op rfl rfl (runs_none rfl) (mv_s (.inl rfl) rfl) ?_
  all_goals (first | refine ops_op rfl rfl (runs_y rfl rfl rfl) (does_fieldAddr_ptr rfl tf29_0 (by decide) rfl) ?_ | refine ops_op rfl rfl (runs_y rfl rfl rfl) (does_fieldAddr_ref rfl tf29_0 (by decide) rfl) ?_ | refine ops_skip rfl rfl (runs_nt rfl rfl rfl) ?_ | refine ops_skip rfl rfl (runs_nu rfl rfl rfl) ?_)
  all_goals (first | refine ops_op rfl rfl (runs_y rfl rfl rfl) (does_load_ref rfl ta26 rfl) ?_ | refine ops_op rfl rfl (runs_y rfl rfl rfl) (does_load_ptr rfl ta26 rfl rfl rfl rfl rfl) ?_ | refine ops_skip rfl rfl (runs_nt rfl rfl rfl) ?_ | refine ops_skip rfl rfl (runs_nu rfl rfl rfl) ?_)
  all_goals (first | refine ops_op rfl rfl (runs_y rfl rfl rfl) (does_call rfl rfl (hc) (evc_cons rfl (evc_cons rfl evc_nil))) ?_ | refine ops_skip rfl rfl (runs_nt rfl rfl rfl) ?_ | refine ops_skip rfl rfl (runs_nu rfl rfl rfl) ?_)
  all_goals (first | refine ops_op rfl rfl (runs_y rfl rfl rfl) (does_notp rfl rfl) ?_ | refine ops_op rfl rfl (runs_y rfl rfl rfl) (does_not rfl rfl) ?_ | refine ops_skip rfl rfl (runs_nt rfl rfl rfl) ?_ | refine ops_skip rfl rfl (runs_nu rfl rfl rfl) ?_)
  all_goals (first | refine ops_op rfl rfl (runs_none rfl) (pickT_s rfl rfl rfl) ?_ | refine ops_op rfl rfl (runs_none rfl) (pickF_s rfl rfl rfl) ?_ | refine ops_op rfl rfl (runs_none rfl) (does_pickT rfl rfl rfl) ?_ | refine ops_op rfl rfl (runs_none rfl) (does_pickF rfl rfl rfl) ?_)
  all_goals refine ops_op rfl rfl (runs_none rfl) (mv_s (.inr rfl) rfl) ?_
  all_goals refine ops_nil ?_
  all_goals (repeat (first | refine aw_seq ?_ | refine ath_n ?_ | refine aw_skip ?_ | refine abl_n ?_ | refine aw_block ?_))
  all_goals (refine aw_ret ?_; repeat (first | refine ath_r ?_ | refine abl_r ?_))
  all_goals refine post1 (.inr rfl) rfl (congrArg eB ?_)
  all_goals first
    | (rw [HI, decide_eq_true (by omega)]; rfl)
    | (rw [HI, decide_eq_false (by omega)]; rfl)
theorem lawPaths_pf (s : Spc) (m : List Int) (tg : Int) : Pure P 5 [eSpc s, eL eI m, eI tg] (eB true) := by
  have h1 := path_pf (P := P) s tg
  have h2 := rPath_pf (P := P) s tg
  have h4 := little_pf (P := P) s
  have h6 := find_pf (P := P) s m
  have h7 := rFind_pf (P := P) s m
  generalize pathE s tg = r at h1 h2
  have h5 := eqI_pf (P := P) r.1 r.1
  rw [decide_eq_true rfl] at h5
  replace h1 : Pure P 18 [eSpc s, eI tg] (.tup [eL eI r.1, eI r.2]) := h1
  replace h2 : Pure P 19 [eSpc s, eI tg] (.tup [eL eI r.1, eI r.2]) := h2
  refine aw_fn (by rw [IsP.eq (P := P)]; exact Try.func5) rfl rfl rfl rfl rfl (lo_cons (lo_Spc s) (lo_cons lo_I (lo_cons (.s _) lo_nil))) (.s _) (by simp only [argF]; rfl) ?_
  refine aw_bdm (d := 1) rfl (fun hmx => ?_)
  unfold maxLen at hmx
  repeat (first | refine aw_seq ?_ | refine ath_n ?_ | refine aw_skip ?_ | refine abl_n ?_ | refine aw_block ?_)
  refine aw_region ?_
  refine ops_op rfl rfl (runs_none rfl) (does_box rfl rfl rfl rfl) ?_
  refine aops_weak (wk_froz (id := 0) rfl) (aops_weak (wk_ref (d := 3) rfl rfl rfl) ?_)
  refine ops_op rfl rfl (runs_none rfl) (mv_s (.inr rfl) rfl) ?_
  refine ops_nil ?_
  repeat (first | refine aw_seq ?_ | refine ath_n ?_ | refine aw_skip ?_ | refine abl_n ?_ | refine aw_block ?_)
  refine aw_region ?_
  refine ops_op rfl rfl (runs_none rfl) (does_call rfl rfl (awake_pf) evc_nil) ?_
  first | refine ops_op rfl rfl (runs_none rfl) (does_notp rfl rfl) ?_ | refine ops_op rfl rfl (runs_none rfl) (does_not rfl rfl) ?_
  refine ops_nil ?_
  repeat (first | refine aw_seq ?_ | refine ath_n ?_ | refine aw_skip ?_ | refine abl_n ?_ | refine aw_block ?_)
  refine aw_false rfl ?_
  repeat (first | refine aw_seq ?_ | refine ath_n ?_ | refine aw_skip ?_ | refine abl_n ?_ | refine aw_block ?_)
  all_goals refine aw_region ?_
  all_goals (first | refine ops_op rfl rfl (runs_none rfl) (does_load_refw rfl ta29 ti29 rfl rfl) ?_ | refine ops_op rfl rfl (runs_none rfl) (does_load_whole rfl ta29 ti29 rfl rfl rfl rfl rfl) ?_ | refine ops_op rfl rfl (runs_none rfl) (does_load_refs rfl ta29 ti29 rfl (Nat.le_of_ble_eq_true rfl)) ?_ | refine ops_op rfl rfl (runs_none rfl) (does_load_ptrs rfl ta29 ti29 rfl rfl rfl rfl (Nat.le_of_ble_eq_true rfl)) ?_)
  all_goals (first | refine ops_opP rfl rfl (runs_none rfl) (does_call rfl rfl (h4) (evc_cons rfl evc_nil)) (fun h14 => ?_) (fun h14 => ?_) | refine ops_opB rfl rfl (runs_none rfl) (does_call rfl rfl (h4) (evc_cons rfl evc_nil)) (fun h14 => ?_) (fun h14 => ?_))
  all_goals (first | refine ops_op rfl rfl (runs_none rfl) (does_notp rfl rfl) ?_ | refine ops_op rfl rfl (runs_none rfl) (does_not rfl rfl) ?_)
  all_goals refine ops_op rfl rfl (runs_none rfl) (mv_s (.inl rfl) rfl) ?_
  all_goals (first | refine ops_op rfl rfl (runs_y rfl rfl rfl) (mv_own (.inl rfl) rfl) ?_ | refine ops_op rfl rfl (runs_y rfl rfl rfl) (mv_sl (.inl rfl) rfl) ?_ | refine ops_op rfl rfl (runs_y rfl rfl rfl) (mv_s (.inl rfl) rfl) ?_ | refine ops_op rfl rfl (runs_y rfl rfl rfl) (mv_emp (.inl rfl) rfl) ?_ | refine ops_op rfl rfl (runs_y rfl rfl rfl) (mv_sub (.inl rfl) rfl) ?_ | refine ops_skip rfl rfl (runs_nf rfl rfl rfl) ?_ | refine ops_skip rfl rfl (runs_nu rfl rfl rfl) ?_)
  all_goals (first | refine ops_op rfl rfl (runs_y rfl rfl rfl) (does_len_map rfl ts25 rfl) ?_ | refine ops_op rfl rfl (runs_y rfl rfl rfl) (does_len_sl rfl ts25 rfl) ?_ | refine ops_op rfl rfl (runs_y rfl rfl rfl) (does_len_own rfl ts25 rfl) ?_ | refine ops_op rfl rfl (runs_y rfl rfl rfl) (does_len_s rfl ts25 rfl) ?_ | refine ops_op rfl rfl (runs_y rfl rfl rfl) (does_len_emp rfl ts25 rfl) ?_ | refine ops_op rfl rfl (runs_y rfl rfl rfl) (does_len_sub rfl ts25 rfl) ?_ | refine ops_skip rfl rfl (runs_nf rfl rfl rfl) ?_ | refine ops_skip rfl rfl (runs_nu rfl rfl rfl) ?_)
  all_goals (first | refine ops_opP rfl rfl (runs_y rfl rfl rfl) (does_gtr rfl rfl rfl) (fun h19 => ?_) (fun h19 => ?_) | refine ops_opB rfl rfl (runs_y rfl rfl rfl) (does_gtr rfl rfl rfl) (fun h19 => ?_) (fun h19 => ?_) | refine ops_skip rfl rfl (runs_nf rfl rfl rfl) ?_ | refine ops_skip rfl rfl (runs_nu rfl rfl rfl) ?_)
  all_goals (first | refine ops_op rfl rfl (runs_none rfl) (pickT_s rfl rfl rfl) ?_ | refine ops_op rfl rfl (runs_none rfl) (pickF_s rfl rfl rfl) ?_ | refine ops_op rfl rfl (runs_none rfl) (does_pickT rfl rfl rfl) ?_ | refine ops_op rfl rfl (runs_none rfl) (does_pickF rfl rfl rfl) ?_)
  all_goals refine ops_nil ?_
  all_goals (repeat (first | refine aw_seq ?_ | refine ath_n ?_ | refine aw_skip ?_ | refine abl_n ?_ | refine aw_block ?_))
  all_goals (first | refine aw_true rfl ?_ | refine aw_false rfl ?_)
  all_goals (repeat (first | refine aw_seq ?_ | refine ath_n ?_ | refine aw_skip ?_ | refine abl_n ?_ | refine aw_block ?_))
  all_goals first
    | skip
      refine aw_region ?_
      refine ops_op rfl rfl (runs_none rfl) (mv_s (.inr rfl) rfl) ?_
      refine ops_nil ?_
      repeat (first | refine aw_seq ?_ | refine ath_n ?_ | refine aw_skip ?_ | refine abl_n ?_ | refine aw_block ?_)
      (refine aw_ret ?_; repeat (first | refine ath_r ?_ | refine abl_r ?_))
      exact post1 (.inr rfl) rfl rfl
    | skip
  refine aw_region ?_
  first | refine ops_op rfl rfl (runs_none rfl) (does_load_refw rfl ta29 ti29 rfl rfl) ?_ | refine ops_op rfl rfl (runs_none rfl) (does_load_whole rfl ta29 ti29 rfl rfl rfl rfl rfl) ?_ | refine ops_op rfl rfl (runs_none rfl) (does_load_refs rfl ta29 ti29 rfl (Nat.le_of_ble_eq_true rfl)) ?_ | refine ops_op rfl rfl (runs_none rfl) (does_load_ptrs rfl ta29 ti29 rfl rfl rfl rfl (Nat.le_of_ble_eq_true rfl)) ?_
  refine ops_op rfl rfl (runs_none rfl) (mv_s (.inl rfl) rfl) ?_
  refine ops_op rfl rfl (runs_none rfl) (does_call rfl rfl (h1) (evc_cons rfl (evc_cons rfl evc_nil))) ?_
  first | refine ops_op rfl rfl (runs_none rfl) (mv_tup (.inl rfl) rfl) ?_ | refine ops_op rfl rfl (runs_none rfl) (mv_s (.inl rfl) rfl) ?_
  refine ops_op rfl rfl (runs_none rfl) (does_extract rfl rfl rfl) ?_
  refine ops_op rfl rfl (runs_none rfl) (does_extract rfl rfl rfl) ?_
  first | refine ops_op rfl rfl (runs_none rfl) (mv_own (.inr rfl) rfl) ?_ | refine ops_op rfl rfl (runs_none rfl) (mv_sl (.inr rfl) rfl) ?_ | refine ops_op rfl rfl (runs_none rfl) (mv_s (.inr rfl) rfl) ?_ | refine ops_op rfl rfl (runs_none rfl) (mv_emp (.inr rfl) rfl) ?_ | refine ops_op rfl rfl (runs_none rfl) (mv_sub (.inr rfl) rfl) ?_
  refine ops_op rfl rfl (runs_none rfl) (mv_s (.inr rfl) rfl) ?_
  refine ops_nil ?_
  repeat (first | refine aw_seq ?_ | refine ath_n ?_ | refine aw_skip ?_ | refine abl_n ?_ | refine aw_block ?_)
  refine aw_region ?_
  first | refine ops_op rfl rfl (runs_none rfl) (does_load_refw rfl ta29 ti29 rfl rfl) ?_ | refine ops_op rfl rfl (runs_none rfl) (does_load_whole rfl ta29 ti29 rfl rfl rfl rfl rfl) ?_ | refine ops_op rfl rfl (runs_none rfl) (does_load_refs rfl ta29 ti29 rfl (Nat.le_of_ble_eq_true rfl)) ?_ | refine ops_op rfl rfl (runs_none rfl) (does_load_ptrs rfl ta29 ti29 rfl rfl rfl rfl (Nat.le_of_ble_eq_true rfl)) ?_
  refine ops_op rfl rfl (runs_none rfl) (mv_s (.inl rfl) rfl) ?_
  refine ops_op rfl rfl (runs_none rfl) (does_call rfl rfl (h2) (evc_cons rfl (evc_cons rfl evc_nil))) ?_
  first | refine ops_op rfl rfl (runs_none rfl) (mv_tup (.inl rfl) rfl) ?_ | refine ops_op rfl rfl (runs_none rfl) (mv_s (.inl rfl) rfl) ?_
  refine ops_op rfl rfl (runs_none rfl) (does_extract rfl rfl rfl) ?_
  refine ops_op rfl rfl (runs_none rfl) (does_extract rfl rfl rfl) ?_
  first | refine ops_op rfl rfl (runs_none rfl) (mv_own (.inr rfl) rfl) ?_ | refine ops_op rfl rfl (runs_none rfl) (mv_sl (.inr rfl) rfl) ?_ | refine ops_op rfl rfl (runs_none rfl) (mv_s (.inr rfl) rfl) ?_ | refine ops_op rfl rfl (runs_none rfl) (mv_emp (.inr rfl) rfl) ?_ | refine ops_op rfl rfl (runs_none rfl) (mv_sub (.inr rfl) rfl) ?_
  refine ops_op rfl rfl (runs_none rfl) (mv_s (.inr rfl) rfl) ?_
  refine ops_nil ?_
  repeat (first | refine aw_seq ?_ | refine ath_n ?_ | refine aw_skip ?_ | refine abl_n ?_ | refine aw_block ?_)
  refine aw_draw hmix ?_
  refine adraw_quiet (by kernel_rfl) ?_
  first | refine qx_op rfl rfl (runs_none rfl) (does_load_refw rfl ta29 ti29 rfl rfl) ?_ | refine qx_op rfl rfl (runs_none rfl) (does_load_whole rfl ta29 ti29 rfl rfl rfl rfl rfl) ?_ | refine qx_op rfl rfl (runs_none rfl) (does_load_refs rfl ta29 ti29 rfl (Nat.le_of_ble_eq_true rfl)) ?_ | refine qx_op rfl rfl (runs_none rfl) (does_load_ptrs rfl ta29 ti29 rfl rfl rfl rfl (Nat.le_of_ble_eq_true rfl)) ?_
  first | refine qx_op rfl rfl (runs_none rfl) (mv_own (.inl rfl) rfl) ?_ | refine qx_op rfl rfl (runs_none rfl) (mv_sl (.inl rfl) rfl) ?_ | refine qx_op rfl rfl (runs_none rfl) (mv_s (.inl rfl) rfl) ?_ | refine qx_op rfl rfl (runs_none rfl) (mv_emp (.inl rfl) rfl) ?_ | refine qx_op rfl rfl (runs_none rfl) (mv_sub (.inl rfl) rfl) ?_
  refine qx_op rfl rfl (runs_none rfl) (does_call rfl rfl (h6) (evc_cons rfl (evc_cons rfl evc_nil))) ?_
  first | refine qx_op rfl rfl (runs_none rfl) (does_load_refw rfl ta29 ti29 rfl rfl) ?_ | refine qx_op rfl rfl (runs_none rfl) (does_load_whole rfl ta29 ti29 rfl rfl rfl rfl rfl) ?_ | refine qx_op rfl rfl (runs_none rfl) (does_load_refs rfl ta29 ti29 rfl (Nat.le_of_ble_eq_true rfl)) ?_ | refine qx_op rfl rfl (runs_none rfl) (does_load_ptrs rfl ta29 ti29 rfl rfl rfl rfl (Nat.le_of_ble_eq_true rfl)) ?_
  first | refine qx_op rfl rfl (runs_none rfl) (mv_own (.inl rfl) rfl) ?_ | refine qx_op rfl rfl (runs_none rfl) (mv_sl (.inl rfl) rfl) ?_ | refine qx_op rfl rfl (runs_none rfl) (mv_s (.inl rfl) rfl) ?_ | refine qx_op rfl rfl (runs_none rfl) (mv_emp (.inl rfl) rfl) ?_ | refine qx_op rfl rfl (runs_none rfl) (mv_sub (.inl rfl) rfl) ?_
  refine qx_op rfl rfl (runs_none rfl) (does_call rfl rfl (h7) (evc_cons rfl (evc_cons rfl evc_nil))) ?_
  refine qx_op rfl rfl (runs_none rfl) (dec_t rfl (does_eql rfl rfl rfl)) ?_
  refine qx_op rfl rfl (runs_none rfl) (mv_s (.inl rfl) rfl) ?_
  first | refine qx_op rfl rfl (runs_y rfl rfl rfl) (mv_own (.inl rfl) rfl) ?_ | refine qx_op rfl rfl (runs_y rfl rfl rfl) (mv_sl (.inl rfl) rfl) ?_ | refine qx_op rfl rfl (runs_y rfl rfl rfl) (mv_s (.inl rfl) rfl) ?_ | refine qx_op rfl rfl (runs_y rfl rfl rfl) (mv_emp (.inl rfl) rfl) ?_ | refine qx_op rfl rfl (runs_y rfl rfl rfl) (mv_sub (.inl rfl) rfl) ?_ | refine qx_skip rfl rfl (runs_nt rfl rfl rfl) ?_ | refine qx_skip rfl rfl (runs_nu rfl rfl rfl) ?_
  first | refine qx_op rfl rfl (runs_y rfl rfl rfl) (mv_own (.inl rfl) rfl) ?_ | refine qx_op rfl rfl (runs_y rfl rfl rfl) (mv_sl (.inl rfl) rfl) ?_ | refine qx_op rfl rfl (runs_y rfl rfl rfl) (mv_s (.inl rfl) rfl) ?_ | refine qx_op rfl rfl (runs_y rfl rfl rfl) (mv_emp (.inl rfl) rfl) ?_ | refine qx_op rfl rfl (runs_y rfl rfl rfl) (mv_sub (.inl rfl) rfl) ?_ | refine qx_skip rfl rfl (runs_nt rfl rfl rfl) ?_ | refine qx_skip rfl rfl (runs_nu rfl rfl rfl) ?_
  first | refine qx_op rfl rfl (runs_y rfl rfl rfl) (does_call rfl rfl (h5) (evc_cons rfl (evc_cons rfl evc_nil))) ?_ | refine qx_skip rfl rfl (runs_nt rfl rfl rfl) ?_ | refine qx_skip rfl rfl (runs_nu rfl rfl rfl) ?_
  first | refine qx_op rfl rfl (runs_none rfl) (pickT_s rfl rfl rfl) ?_ | refine qx_op rfl rfl (runs_none rfl) (pickF_s rfl rfl rfl) ?_ | refine qx_op rfl rfl (runs_none rfl) (does_pickT rfl rfl rfl) ?_ | refine qx_op rfl rfl (runs_none rfl) (does_pickF rfl rfl rfl) ?_
  refine qx_op rfl rfl (runs_none rfl) (mv_s (.inl rfl) rfl) ?_
  first | refine qx_op rfl rfl (runs_y rfl rfl rfl) (mv_s (.inl rfl) rfl) ?_ | refine qx_skip rfl rfl (runs_nt rfl rfl rfl) ?_ | refine qx_skip rfl rfl (runs_nu rfl rfl rfl) ?_
  first | refine qx_op rfl rfl (runs_y rfl rfl rfl) (mv_s (.inl rfl) rfl) ?_ | refine qx_skip rfl rfl (runs_nt rfl rfl rfl) ?_ | refine qx_skip rfl rfl (runs_nu rfl rfl rfl) ?_
  first | refine qx_op rfl rfl (runs_y rfl rfl rfl) (dec_t rfl (does_eql rfl rfl rfl)) ?_ | refine qx_skip rfl rfl (runs_nt rfl rfl rfl) ?_ | refine qx_skip rfl rfl (runs_nu rfl rfl rfl) ?_
  first | refine qx_op rfl rfl (runs_none rfl) (pickT_s rfl rfl rfl) ?_ | refine qx_op rfl rfl (runs_none rfl) (pickF_s rfl rfl rfl) ?_ | refine qx_op rfl rfl (runs_none rfl) (does_pickT rfl rfl rfl) ?_ | refine qx_op rfl rfl (runs_none rfl) (does_pickF rfl rfl rfl) ?_
  refine qx_op rfl rfl (runs_none rfl) (mv_s (.inr rfl) rfl) ?_
  refine qx_nil ?_
  repeat (first | refine aw_seq ?_ | refine ath_n ?_ | refine aw_skip ?_ | refine abl_n ?_ | refine aw_block ?_)
  (refine aw_ret ?_; repeat (first | refine ath_r ?_ | refine abl_r ?_))
  exact post1 (.inr rfl) rfl rfl
end
section
variable {H : Type} {enc : TypeId × Value → H} {w : World} {base : Nat} {sp : Nat → Bool} {held : Bool}
set_option maxRecDepth 100000 in
theorem opens_mvx {fuel : Nat} {cs : List Value} {x : DataW H × List MemPlace} (h : DataW.trod enc Try.prog w base sp held fuel 56 cs = some x) : ∃ m : Mvx, Rc w cs (eMv m).cells := by
  obtain ⟨xs, n, _, _, hlen, hl, hg⟩ := DataW.trod_struct Try.underlying56 h
  have hc : Try.prog.cellsOf 56 = 3 := by kernel_rfl
  have h1 : Try.prog.cellsOf 3 = 1 := by kernel_rfl
  match cs, hlen.trans hc, xs, hl with
  | [c0, c1, c2], _, [x0, x1, x2], _ =>
    have g0 := hg 0 _ rfl
    have g1 := hg 1 _ rfl
    have g2 := hg 2 _ rfl
    simp [h1] at g0 g1 g2
    obtain ⟨a, e0, _⟩ := DataW.trod_int Try.underlying3 g0
    obtain ⟨b, e1, _⟩ := DataW.trod_int Try.underlying3 g1
    obtain ⟨c, e2, _⟩ := DataW.trod_int Try.underlying3 g2
    injection e0 with e0
    injection e1 with e1
    injection e2 with e2
    subst e0 e1 e2
    exact ⟨⟨a, b, c⟩, rc_cons (.s _) rfl (rc_cons (.s _) rfl (rc_cons (.s _) rfl rc_nil))⟩
theorem opens_mvs {fuel : Nat} {cs : List Value} {x : DataW H × List MemPlace} (h : DataW.trod enc Try.prog w base sp held fuel 27 cs = some x) : ∃ (v : Value) (l : List Mvx), cs = [v] ∧ Rep (G0 w) v (eL eMv l) :=
  opens_slice (size := 3) Try.underlying27 (by kernel_rfl) (by decide) (fun _ => rfl) (fun fuel cs x h => opens_mvx h) h
set_option maxRecDepth 100000 in
theorem opens_space {fuel : Nat} {cs : List Value} {x : DataW H × List MemPlace} (h : DataW.trod enc Try.prog w base sp held fuel 29 cs = some x) : ∃ s : Spc, Rc w cs (eSpc s).cells := by
  obtain ⟨xs, n, _, _, hlen, hl, hg⟩ := DataW.trod_struct Try.underlying29 h
  have hc : Try.prog.cellsOf 29 = 3 := by kernel_rfl
  have h1 : Try.prog.cellsOf 26 = 1 := by kernel_rfl
  have h2 : Try.prog.cellsOf 27 = 1 := by kernel_rfl
  have h3 : Try.prog.cellsOf 4 = 1 := by kernel_rfl
  match cs, hlen.trans hc, xs, hl with
  | [c0, c1, c2], _, [x0, x1, x2], _ =>
    have g0 := hg 0 _ rfl
    have g1 := hg 1 _ rfl
    have g2 := hg 2 _ rfl
    simp [h1, h2, h3] at g0 g1 g2
    obtain ⟨v0, l0, e0, r0⟩ := opens_intss g0
    obtain ⟨v1, l1, e1, r1⟩ := opens_mvs g1
    obtain ⟨b, e2, _⟩ := DataW.trod_bool Try.underlying4 g2
    injection e0 with e0
    injection e1 with e1
    injection e2 with e2
    subst e0 e1 e2
    exact ⟨⟨l0, l1, b⟩, rc_cons r0 rfl (rc_cons r1 rfl (rc_cons (.s _) rfl rc_nil))⟩
variable {b0 : Nat} {r : Reach} {v : Value} {d : DataW H} {p : List MemPlace}
set_option maxRecDepth 100000 in
theorem open_space (hv : Value.okWide Try.prog w r b0 29 v) (h : DataW.Trod enc Try.prog w base sp held 29 v d p) : ∃ q : Spc, Rep (G0 w) v (eSpc q) := by
  obtain ⟨cs, rfl, hsz⟩ := okWide_struct Try.underlying29 hv
  obtain ⟨fuel, hf⟩ := h
  obtain ⟨q, ha⟩ := opens_space hf
  exact ⟨q, rc_agg (vs := cs) ha⟩
end
end Go.Proofs.Ythdpacbjbdkemaa.Aw
end
section
namespace Go.Proofs.Ythdpacbjbdkemaa
open Go.ChangeShapes Go.WideShapes Go.ChangeAt Go.RowKit
set_option maxRecDepth 100000 in
theorem spacePaths_lifted (os : Os) (started : os.Started) (H : Type) (enc : TypeId × Value → H) :
    ReturnsInHanded {} Try.checked os 5 .any (Rows.spacePathsSpec.pre6 enc Try.prog Try.f5 Rows.spacePathsRow.domain false) (Rows.spacePathsSpec.post enc Try.prog Try.f5 false true false false) := by
  refine returnsInHanded_of_change (C := Try.checked) own_knob started (by kernel_rfl) Try.func5
    (ChangeSpec.witness6 (enc := enc) (C := Try.checked) false ⟨#[], #[.agg #[.slice none 0 0, .slice none 0 0, .bool false], .slice none 0 0, .int .i64 0], []⟩ 8 (by kernel_rfl) (by kernel_rfl) (by kernel_rfl) (by kernel_rfl)) ?_
  intro W base args ds gs before hval0 hW hcnd _
  have hval : ∀ (j : Nat) t v, Try.f5.params[j]? = some t → args[j]? = some v → Value.okWide Try.prog W .any base t v := hval0
  have hW' := hW
  obtain ⟨p, q, hA0, hV, rfl, hfz, hnd⟩ := hW
  have hA : DataW.TrodAll enc Try.prog W 0 (fun _ => true) true Try.f5.params.toList args.toList ds p := hA0
  rw [Try.params5] at hA hval
  obtain ⟨v0, v1, v2, d0, d1, d2, p0, p1, p2, rfl, rfl, rfl, h0, h1, h2⟩ := trodAll_three hA
  obtain ⟨rfl, rfl⟩ := trodVars_none hV
  obtain ⟨x0, hx0⟩ := Aw.open_space (hval 0 29 v0 rfl rfl) h0
  obtain ⟨x1, hx1⟩ := Aw.open_ints (hval 1 25 v1 rfl rfl) h1
  obtain ⟨x2, hx2⟩ := Aw.open_int (hval 2 3 v2 rfl rfl) h2
  simp only [List.append_nil] at hW'
  refine (Aw.pure_law (Aw.lawPaths_pf (P := Try.prog) x0 x1 x2) W #[v0, v1, v2] rfl (fun j v x hv hx => ?_)).mono fun e W' ⟨he, hb⟩ => ?_
  · match j, hv, hx with
    | 0, hv, hx => simp at hv hx; subst hv hx; exact hx0
    | 1, hv, hx => simp at hv hx; subst hv hx; exact hx1
    | 2, hv, hx => simp at hv hx; subst hv hx; exact hx2
    | j + 3, hv, hx => simp at hv
  subst he
  have hp : ∀ x ∈ p0 ++ p1 ++ p2, x.block < W.heap.size := fun x hx => hW'.lt x (by simpa using hx)
  have hg := trodAll_mk3 (Below.trod laid_out (by kernel_rfl) (of_decide_eq_true (by kernel_rfl)) h0 hb (fun x hx => hp x (by simp [hx]))) (Below.trod laid_out (by kernel_rfl) (of_decide_eq_true (by kernel_rfl)) h1 hb (fun x hx => hp x (by simp [hx]))) (Below.trod laid_out (by kernel_rfl) (of_decide_eq_true (by kernel_rfl)) h2 hb (fun x hx => hp x (by simp [hx])))
  simp only [← List.append_assoc] at hg
  exact ⟨_, rfl, law_post (t := 4) hW' (by kernel_rfl) Try.underlying4 ⟨rfl, rfl, rfl⟩ rfl hg hb⟩

theorem spacePaths_holds : Rows.SpacePathsSaid :=
  OpenClaim.holds_of_wide 5 Try.f5 rfl rfl rfl rfl rfl rfl rfl ⟨rfl, rfl, rfl, rfl, rfl⟩ rfl rfl rfl rfl rfl (by kernel_rfl) Try.func5 (by kernel_rfl)
    (of_decide_eq_true (by kernel_rfl)) (by unfold Func.isWrapper; first | (rw [if_pos (by decide +kernel)]; kernel_rfl) | (rw [if_neg (by decide +kernel)]; exact ⟨rfl, rfl⟩))
    (fun os started H enc _ => spacePaths_lifted os started H enc)

#print axioms spacePaths_holds

end Go.Proofs.Ythdpacbjbdkemaa
end
