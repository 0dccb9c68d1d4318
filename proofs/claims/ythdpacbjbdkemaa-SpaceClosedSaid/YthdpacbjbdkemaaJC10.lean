/-
  Texts joined: SpN, SpP. Conditions: none.
-/
import Derived.Test.YthdpacbjbdkemaaJC7
import Derived.Test.YthdpacbjbdkemaaJC9
section
namespace Go.Proofs.Ythdpacbjbdkemaa.Aw
set_option linter.unusedSimpArgs false
set_option linter.unusedVariables false
set_option linter.unusedSectionVars false
open Go Go.RowKit Go.Proofs
variable {P : Program} [IsP P]

def wkC (n : Net) (s : Spc) (fin : Int) : List AV := [eI n.places, eL eT n.trans, eI n.source, eI n.sink, eL (eL eI) s.st, eL eMv s.mv, eB s.full, eL (eL eMv) (outsA s.mv s.st.length), eI fin]
theorem lo_wk (n : Net) (s : Spc) (fin : Int) : Lo 0 (.ref (wkC n s fin)) := .ref _ (lo_cons (.s _) (lo_cons (lo_map fun t => lo_T t) (lo_cons (.s _) (lo_cons (.s _) (lo_cons (lo_II _) (lo_cons (lo_Mvs _) (lo_cons (.s _) (lo_cons (lo_MvL _) (lo_cons (.s _) lo_nil)))))))))
set_option maxHeartbeats 8000000 in
theorem close_call (n : Net) (s : Spc) (fin : Int) (hm : MvOk n s) (hN : s.st.length ≤ 2000) (hmv : s.mv.length ≤ 20000) (set : List Bool) (hs : set.length = s.st.length) :
    CallR P 78 [.ref (wkC n s fin), .own 0 1 set.length] [.row 1 (set.map eB)] (.own 0 1 set.length) [.row 1 ((closeE n s.mv set).map eB)] := by
  obtain ⟨N, hNe⟩ : ∃ N, N = set.length := ⟨_, rfl⟩
  rw [← hNe] at hs ⊢
  have hmr : ∀ k, k < s.mv.length → 0 ≤ (gti s.mv k).tt ∧ (gti s.mv k).tt < (N : Int) := fun k hk => by obtain ⟨_, _, h1, h2, _⟩ := hm k hk; omega
  have hlw := lo_wk n s fin
  refine callR_fn (by rw [IsP.eq (P := P)]; exact Try.func78) rfl rfl (Nat.le_of_ble_eq_true rfl) rfl ?_
  simp only [argF]
  refine kw_seq ?_
  all_goals refine kw_region ?_
  all_goals (first | refine kops_op rfl rfl (runs_none rfl) (mv_own (.inr rfl) rfl) ?_ | refine kops_op rfl rfl (runs_none rfl) (mv_sl (.inr rfl) rfl) ?_ | refine kops_op rfl rfl (runs_none rfl) (mv_s (.inr rfl) rfl) ?_ | refine kops_op rfl rfl (runs_none rfl) (mv_emp (.inr rfl) rfl) ?_ | refine kops_op rfl rfl (runs_none rfl) (mv_sub (.inr rfl) rfl) ?_)
  all_goals refine kops_nil ?_
  all_goals (repeat (first | refine kw_seq ?_ | refine ath_n ?_ | refine kw_skip ?_ | refine abl_n ?_ | refine kw_block ?_))
  all_goals refine kw_region ?_
  all_goals (first | refine kops_op rfl rfl (runs_none rfl) (mv_own (.inr rfl) rfl) ?_ | refine kops_op rfl rfl (runs_none rfl) (mv_sl (.inr rfl) rfl) ?_ | refine kops_op rfl rfl (runs_none rfl) (mv_s (.inr rfl) rfl) ?_ | refine kops_op rfl rfl (runs_none rfl) (mv_emp (.inr rfl) rfl) ?_ | refine kops_op rfl rfl (runs_none rfl) (mv_sub (.inr rfl) rfl) ?_)
  all_goals refine kops_nil ?_
  all_goals (repeat (first | refine kw_seq ?_ | refine ath_n ?_ | refine kw_skip ?_ | refine abl_n ?_ | refine kw_block ?_))
  refine kw_weak (kwk_own (d := 5) 1 rfl (.inr rfl)) ?_
  all_goals refine kw_region ?_
  all_goals (first | refine kops_op rfl rfl (runs_none rfl) (mv_own (.inl rfl) rfl) ?_ | refine kops_op rfl rfl (runs_none rfl) (mv_sl (.inl rfl) rfl) ?_ | refine kops_op rfl rfl (runs_none rfl) (mv_s (.inl rfl) rfl) ?_ | refine kops_op rfl rfl (runs_none rfl) (mv_emp (.inl rfl) rfl) ?_ | refine kops_op rfl rfl (runs_none rfl) (mv_sub (.inl rfl) rfl) ?_)
  all_goals (first | refine kops_op rfl rfl (runs_none rfl) (does_len_map rfl ts81 rfl) ?_ | refine kops_op rfl rfl (runs_none rfl) (does_len_sl rfl ts81 rfl) ?_ | refine kops_op rfl rfl (runs_none rfl) (does_len_own rfl ts81 rfl) ?_ | refine kops_op rfl rfl (runs_none rfl) (does_len_s rfl ts81 rfl) ?_ | refine kops_op rfl rfl (runs_none rfl) (does_len_emp rfl ts81 rfl) ?_ | refine kops_op rfl rfl (runs_none rfl) (does_len_sub rfl ts81 rfl) ?_)
  all_goals refine kops_op rfl rfl (runs_none rfl) (mv_s (.inl rfl) rfl) ?_
  all_goals refine kops_nil ?_
  all_goals (repeat (first | refine kw_seq ?_ | refine ath_n ?_ | refine kw_skip ?_ | refine abl_n ?_ | refine kw_block ?_))
  refine kw_loops (S := Nat) (fun k => [(0, .ref (wkC n s fin)), (1, .own 0 1 N), (5, .own 1 1 (setQ set k).length), (10, .own 0 1 N), (11, eI N), (12, eI k)]) (fun k => [.row 1 (set.map eB), .row 1 ((setQ set k).map eI)]) (fun k => k ≤ N) (fun k => N - k) 0 (kwk_sub ⟨rfl, rfl, rfl, rfl, rfl, rfl, trivial⟩) (Nat.zero_le _) (fun k hk => ?_)
  repeat (first | refine kw_seq ?_ | refine ath_n ?_ | refine kw_skip ?_ | refine abl_n ?_ | refine kw_block ?_)
  all_goals refine kw_region ?_
  all_goals (first | refine kops_opP rfl rfl (runs_none rfl) (does_lss rfl rfl rfl) (fun h13 => ?_) (fun h13 => ?_) | refine kops_opB rfl rfl (runs_none rfl) (does_lss rfl rfl rfl) (fun h13 => ?_) (fun h13 => ?_))
  all_goals refine kops_nil ?_
  all_goals (repeat (first | refine kw_seq ?_ | refine ath_n ?_ | refine kw_skip ?_ | refine abl_n ?_ | refine kw_block ?_))
  all_goals (first | refine kw_true rfl ?_ | refine kw_false rfl ?_)
  all_goals (repeat (first | refine kw_seq ?_ | refine ath_n ?_ | refine kw_skip ?_ | refine abl_n ?_ | refine kw_block ?_))
  · have hkt : k < N := by omega
    have hel : (set.map eB)[k]? = some (eB (gti set k)) := ix_map (by omega)
    have hsq := setQ_succ set k
    have hql := setQ_len set k
    have hqm : ((setQ set k).map eI).length = (setQ set k).length := by simp
    generalize gti set k = b at hel hsq
    cases b
    · rw [if_neg (by simp), List.append_nil] at hsq
      all_goals refine kw_region ?_
      all_goals refine kops_op rfl rfl (runs_none rfl) (mv_s (.inl rfl) rfl) ?_
      all_goals (first | refine kops_op rfl rfl (runs_none rfl) (does_index_sl rfl ts81 ti4 rfl rfl rfl hkt rfl) ?_ | refine kops_op rfl rfl (runs_none rfl) (does_index_own rfl ts81 ti4 rfl rfl rfl hkt) ?_ | refine kops_op rfl rfl (runs_none rfl) (does_index_sub rfl ts81 ti4 rfl rfl rfl hkt) ?_)
      all_goals (first | refine kops_op rfl rfl (runs_none rfl) (does_load_ref rfl ta4 rfl) ?_ | refine kops_op rfl rfl (runs_none rfl) (does_load_ptr rfl ta4 rfl rfl rfl hel rfl) ?_)
      all_goals refine kops_op rfl rfl (runs_none rfl) (mv_s (.inr rfl) rfl) ?_
      all_goals refine kops_op rfl rfl (runs_none rfl) (mv_s (.inr rfl) rfl) ?_
      all_goals refine kops_nil ?_
      all_goals (repeat (first | refine kw_seq ?_ | refine ath_n ?_ | refine kw_skip ?_ | refine abl_n ?_ | refine kw_block ?_))
      all_goals refine kw_region ?_
      all_goals refine kops_op rfl rfl (runs_none rfl) (mv_s (.inl rfl) rfl) ?_
      all_goals refine kops_nil ?_
      all_goals (repeat (first | refine kw_seq ?_ | refine ath_n ?_ | refine kw_skip ?_ | refine abl_n ?_ | refine kw_block ?_))
      refine kw_false rfl ?_
      repeat (first | refine kw_seq ?_ | refine ath_n ?_ | refine kw_skip ?_ | refine abl_n ?_ | refine kw_block ?_)
      all_goals refine kw_region ?_
      all_goals refine kops_op rfl rfl (runs_none rfl) (does_add rfl rfl rfl (IntWalk.i64_in _ (by omega))) ?_
      all_goals refine kops_op rfl rfl (runs_none rfl) (mv_s (.inl rfl) rfl) ?_
      all_goals refine kops_nil ?_
      all_goals (repeat (first | refine kw_seq ?_ | refine ath_n ?_ | refine kw_skip ?_ | refine abl_n ?_ | refine kw_block ?_))
      exact ⟨k + 1, by omega, by omega, kwk_st [0, 1] rfl (by decide) ⟨⟨_, rfl, .rowE (rowB_lo _) rfl⟩, ⟨_, rfl, .rowE (rowI_lo _) (by rw [hsq])⟩, trivial⟩ ⟨.lo _ hlw, .own 0 0 1 _ _ rfl rfl, .own 1 1 1 _ _ rfl (by rw [hsq]), .own 0 0 1 _ _ rfl rfl, .lo _ (by repeat' (first | exact Lo.s _ | exact Lo.emp | exact Lo.any | exact lo_nil | exact lo_nilE | refine lo_cons ?_ ?_ | refine lo_consE ?_ ?_ | refine lo_map ?_ | refine lo_mapE ?_ | refine Lo.cells ?_ | refine Lo.agg _ ?_ | refine Lo.ref _ ?_ | refine Lo.tup _ ?_ | refine Lo.fn _ _ ?_ | refine Lo.sl _ ?_ | intro _)), .lo _ (by repeat' (first | exact Lo.s _ | exact Lo.emp | exact Lo.any | exact lo_nil | exact lo_nilE | refine lo_cons ?_ ?_ | refine lo_consE ?_ ?_ | refine lo_map ?_ | refine lo_mapE ?_ | refine Lo.cells ?_ | refine Lo.agg _ ?_ | refine Lo.ref _ ?_ | refine Lo.tup _ ?_ | refine Lo.fn _ _ ?_ | refine Lo.sl _ ?_ | intro _)), trivial⟩⟩
    · rw [if_pos rfl] at hsq
      all_goals refine kw_region ?_
      all_goals refine kops_op rfl rfl (runs_none rfl) (mv_s (.inl rfl) rfl) ?_
      all_goals (first | refine kops_op rfl rfl (runs_none rfl) (does_index_sl rfl ts81 ti4 rfl rfl rfl hkt rfl) ?_ | refine kops_op rfl rfl (runs_none rfl) (does_index_own rfl ts81 ti4 rfl rfl rfl hkt) ?_ | refine kops_op rfl rfl (runs_none rfl) (does_index_sub rfl ts81 ti4 rfl rfl rfl hkt) ?_)
      all_goals (first | refine kops_op rfl rfl (runs_none rfl) (does_load_ref rfl ta4 rfl) ?_ | refine kops_op rfl rfl (runs_none rfl) (does_load_ptr rfl ta4 rfl rfl rfl hel rfl) ?_)
      all_goals refine kops_op rfl rfl (runs_none rfl) (mv_s (.inr rfl) rfl) ?_
      all_goals refine kops_op rfl rfl (runs_none rfl) (mv_s (.inr rfl) rfl) ?_
      all_goals refine kops_nil ?_
      all_goals (repeat (first | refine kw_seq ?_ | refine ath_n ?_ | refine kw_skip ?_ | refine abl_n ?_ | refine kw_block ?_))
      all_goals refine kw_region ?_
      all_goals refine kops_op rfl rfl (runs_none rfl) (mv_s (.inl rfl) rfl) ?_
      all_goals refine kops_nil ?_
      all_goals (repeat (first | refine kw_seq ?_ | refine ath_n ?_ | refine kw_skip ?_ | refine abl_n ?_ | refine kw_block ?_))
      refine kw_true rfl ?_
      repeat (first | refine kw_seq ?_ | refine ath_n ?_ | refine kw_skip ?_ | refine abl_n ?_ | refine kw_block ?_)
      all_goals refine kw_region ?_
      all_goals (first | refine kops_op rfl rfl (runs_none rfl) (mv_own (.inl rfl) rfl) ?_ | refine kops_op rfl rfl (runs_none rfl) (mv_sl (.inl rfl) rfl) ?_ | refine kops_op rfl rfl (runs_none rfl) (mv_s (.inl rfl) rfl) ?_ | refine kops_op rfl rfl (runs_none rfl) (mv_emp (.inl rfl) rfl) ?_ | refine kops_op rfl rfl (runs_none rfl) (mv_sub (.inl rfl) rfl) ?_)
      all_goals refine kops_op rfl rfl (runs_none rfl) (mv_s (.inl rfl) rfl) ?_
      all_goals (first | refine kops_op rfl rfl (runs_none rfl) (lit1_sF rfl ts25 ti3 rfl rfl rfl rfl) ?_ | refine kops_op rfl rfl (runs_none rfl) (lit1_slF rfl ts25 ti3 rfl rfl rfl rfl (by repeat' (first | exact Lo.s _ | exact Lo.emp | exact Lo.any | exact lo_nil | exact lo_nilE | refine lo_cons ?_ ?_ | refine lo_consE ?_ ?_ | refine lo_map ?_ | refine lo_mapE ?_ | refine Lo.cells ?_ | refine Lo.agg _ ?_ | refine Lo.ref _ ?_ | refine Lo.tup _ ?_ | refine Lo.fn _ _ ?_ | refine Lo.sl _ ?_ | intro _))) ?_ | refine kops_op rfl rfl (runs_none rfl) (does_litAF rfl ts25 ti3 rfl rfl (by decide) (by decide) rfl rfl rfl (by repeat' (first | exact Lo.s _ | exact Lo.emp | exact Lo.any | exact lo_nil | exact lo_nilE | refine lo_cons ?_ ?_ | refine lo_consE ?_ ?_ | refine lo_map ?_ | refine lo_mapE ?_ | refine Lo.cells ?_ | refine Lo.agg _ ?_ | refine Lo.ref _ ?_ | refine Lo.tup _ ?_ | refine Lo.fn _ _ ?_ | refine Lo.sl _ ?_ | intro _))) ?_)
      all_goals (first | refine kops_op rfl rfl (runs_none rfl) (does_append rfl ts25 ti3 rfl (by decide) rfl rfl (by first | rfl | (simp; done) | (simp; omega)) rfl (by first | exact .own _ _ _ rfl rfl _ (by first | rfl | simp) | exact .emp | exact .nil | exact .sl _ (by first | simp; done | intro e he; simp at he; obtain ⟨_, _, rfl⟩ := he; rfl)) (by first | omega | (simp; omega) | (unfold maxLen; simp; omega)) (by first | omega | (simp; omega) | (unfold maxLen; simp; omega))) ?_ | refine kops_op rfl rfl (runs_none rfl) (does_append0 rfl ts25 ti3 rfl (by decide) rfl (.inl rfl) rfl (by first | exact .own _ _ _ rfl rfl _ (by first | rfl | simp) | exact .emp | exact .nil | exact .sl _ (by first | simp; done | intro e he; simp at he; obtain ⟨_, _, rfl⟩ := he; rfl)) (by first | omega | (simp; omega) | (unfold maxLen; simp; omega)) (by first | omega | (simp; omega) | (unfold maxLen; simp; omega))) ?_ | refine kops_op rfl rfl (runs_none rfl) (does_append0 rfl ts25 ti3 rfl (by decide) rfl (.inr rfl) rfl (by first | exact .own _ _ _ rfl rfl _ (by first | rfl | simp) | exact .emp | exact .nil | exact .sl _ (by first | simp; done | intro e he; simp at he; obtain ⟨_, _, rfl⟩ := he; rfl)) (by first | omega | (simp; omega) | (unfold maxLen; simp; omega)) (by first | omega | (simp; omega) | (unfold maxLen; simp; omega))) ?_)
      all_goals (first | refine kops_op rfl rfl (runs_none rfl) (mv_own (.inr rfl) rfl) ?_ | refine kops_op rfl rfl (runs_none rfl) (mv_sl (.inr rfl) rfl) ?_ | refine kops_op rfl rfl (runs_none rfl) (mv_s (.inr rfl) rfl) ?_ | refine kops_op rfl rfl (runs_none rfl) (mv_emp (.inr rfl) rfl) ?_ | refine kops_op rfl rfl (runs_none rfl) (mv_sub (.inr rfl) rfl) ?_)
      all_goals refine kops_nil ?_
      all_goals (repeat (first | refine kw_seq ?_ | refine ath_n ?_ | refine kw_skip ?_ | refine abl_n ?_ | refine kw_block ?_))
      all_goals refine kw_region ?_
      all_goals refine kops_op rfl rfl (runs_none rfl) (does_add rfl rfl rfl (IntWalk.i64_in _ (by omega))) ?_
      all_goals refine kops_op rfl rfl (runs_none rfl) (mv_s (.inl rfl) rfl) ?_
      all_goals refine kops_nil ?_
      all_goals (repeat (first | refine kw_seq ?_ | refine ath_n ?_ | refine kw_skip ?_ | refine abl_n ?_ | refine kw_block ?_))
      exact ⟨k + 1, by omega, by omega, kwk_st [0, 2] rfl (by decide) ⟨⟨_, rfl, .rowE (rowB_lo _) rfl⟩, ⟨_, rfl, .rowE (rowI_lo _) (by rw [hsq, List.map_append]; rfl)⟩, trivial⟩ ⟨.lo _ hlw, .own 0 0 1 _ _ rfl rfl, .own 2 1 1 _ _ rfl (by rw [hsq]; simp), .own 0 0 1 _ _ rfl rfl, .lo _ (by repeat' (first | exact Lo.s _ | exact Lo.emp | exact Lo.any | exact lo_nil | exact lo_nilE | refine lo_cons ?_ ?_ | refine lo_consE ?_ ?_ | refine lo_map ?_ | refine lo_mapE ?_ | refine Lo.cells ?_ | refine Lo.agg _ ?_ | refine Lo.ref _ ?_ | refine Lo.tup _ ?_ | refine Lo.fn _ _ ?_ | refine Lo.sl _ ?_ | intro _)), .lo _ (by repeat' (first | exact Lo.s _ | exact Lo.emp | exact Lo.any | exact lo_nil | exact lo_nilE | refine lo_cons ?_ ?_ | refine lo_consE ?_ ?_ | refine lo_map ?_ | refine lo_mapE ?_ | refine Lo.cells ?_ | refine Lo.agg _ ?_ | refine Lo.ref _ ?_ | refine Lo.tup _ ?_ | refine Lo.fn _ _ ?_ | refine Lo.sl _ ?_ | intro _)), trivial⟩⟩
  have e : k = N := by omega
  subst e
  (refine kw_exit ?_; repeat (first | refine ath_x ?_ | refine abl_hit ?_ | refine abl_miss rfl ?_ | refine abl_n ?_ | refine ath_n ?_ | refine kw_seq ?_ | refine kw_skip ?_ | refine kw_block ?_))
  have hCI : CI k (setQ set k, set) := by have := CI.init set; rw [← hNe] at this; exact this
  have hW : closeE n s.mv set = (cfs n s.mv k 0 (setQ set k, set)).2 := by unfold closeE; rw [← hNe]
  obtain ⟨W, hWe⟩ : ∃ W, cfs n s.mv k 0 (setQ set k, set) = W := ⟨_, rfl⟩
  rw [hWe] at hW
  rw [hW]
  by_cases h0 : (setQ set k).length = 0
  · have hq0 := List.eq_nil_of_length_eq_zero h0
    rw [hq0] at hWe ⊢
    rw [cfs_end (by simp)] at hWe
    subst hWe
    refine kw_loops (S := Unit) (fun _ => [(0, .ref (wkC n s fin)), (1, .own 0 1 k), (5, .own 1 1 0)]) (fun _ => [.row 1 (set.map eB), .row 1 []]) (fun _ => True) (fun _ => 0) () (kwk_sub ⟨rfl, rfl, rfl, trivial⟩) trivial (fun _ _ => ?_)
    repeat (first | refine kw_seq ?_ | refine ath_n ?_ | refine kw_skip ?_ | refine abl_n ?_ | refine kw_block ?_)
    all_goals refine kw_region ?_
    all_goals (first | refine kops_op rfl rfl (runs_none rfl) (mv_own (.inl rfl) rfl) ?_ | refine kops_op rfl rfl (runs_none rfl) (mv_sl (.inl rfl) rfl) ?_ | refine kops_op rfl rfl (runs_none rfl) (mv_s (.inl rfl) rfl) ?_ | refine kops_op rfl rfl (runs_none rfl) (mv_emp (.inl rfl) rfl) ?_ | refine kops_op rfl rfl (runs_none rfl) (mv_sub (.inl rfl) rfl) ?_)
    all_goals (first | refine kops_op rfl rfl (runs_none rfl) (does_len_map rfl ts25 rfl) ?_ | refine kops_op rfl rfl (runs_none rfl) (does_len_sl rfl ts25 rfl) ?_ | refine kops_op rfl rfl (runs_none rfl) (does_len_own rfl ts25 rfl) ?_ | refine kops_op rfl rfl (runs_none rfl) (does_len_s rfl ts25 rfl) ?_ | refine kops_op rfl rfl (runs_none rfl) (does_len_emp rfl ts25 rfl) ?_ | refine kops_op rfl rfl (runs_none rfl) (does_len_sub rfl ts25 rfl) ?_)
    all_goals refine kops_op rfl rfl (runs_none rfl) (dec_f (by decide) (does_gtr rfl rfl rfl)) ?_
    all_goals refine kops_nil ?_
    all_goals (repeat (first | refine kw_seq ?_ | refine ath_n ?_ | refine kw_skip ?_ | refine abl_n ?_ | refine kw_block ?_))
    all_goals (first | refine kw_true rfl ?_ | refine kw_false rfl ?_)
    all_goals (repeat (first | refine kw_seq ?_ | refine ath_n ?_ | refine kw_skip ?_ | refine abl_n ?_ | refine kw_block ?_))
    (refine kw_exit ?_; repeat (first | refine ath_x ?_ | refine abl_hit ?_ | refine abl_miss rfl ?_ | refine abl_n ?_ | refine ath_n ?_ | refine kw_seq ?_ | refine kw_skip ?_ | refine kw_block ?_))
    all_goals refine kw_region ?_
    all_goals (first | refine kops_op rfl rfl (runs_none rfl) (mv_own (.inl rfl) rfl) ?_ | refine kops_op rfl rfl (runs_none rfl) (mv_sl (.inl rfl) rfl) ?_ | refine kops_op rfl rfl (runs_none rfl) (mv_s (.inl rfl) rfl) ?_ | refine kops_op rfl rfl (runs_none rfl) (mv_emp (.inl rfl) rfl) ?_ | refine kops_op rfl rfl (runs_none rfl) (mv_sub (.inl rfl) rfl) ?_)
    all_goals (first | refine kops_op rfl rfl (runs_none rfl) (mv_own (.inr rfl) rfl) ?_ | refine kops_op rfl rfl (runs_none rfl) (mv_sl (.inr rfl) rfl) ?_ | refine kops_op rfl rfl (runs_none rfl) (mv_s (.inr rfl) rfl) ?_ | refine kops_op rfl rfl (runs_none rfl) (mv_emp (.inr rfl) rfl) ?_ | refine kops_op rfl rfl (runs_none rfl) (mv_sub (.inr rfl) rfl) ?_)
    all_goals refine kops_nil ?_
    all_goals (repeat (first | refine kw_seq ?_ | refine ath_n ?_ | refine kw_skip ?_ | refine abl_n ?_ | refine kw_block ?_))
    refine kw_weak (F' := [(4, .own 0 1 k)]) (σ' := [.row 1 (set.map eB)]) (kwk_st [0] rfl (by decide) ⟨⟨_, rfl, .rowE (rowB_lo _) rfl⟩, trivial⟩ ⟨.own 0 0 1 _ _ rfl rfl, trivial⟩) ?_
    (refine kw_ret ?_; repeat (first | refine ath_r ?_ | refine abl_r ?_))
    exact ⟨.inr rfl, rfl, rfl⟩
  refine kw_weak (kwk_sub0 (d := 5) rfl (by omega)) ?_
  have hmet0 : ∀ B : List Bool, B.map eB = B.map eB := fun _ => rfl
  refine kw_loops (S := Nat × QS × Nat × List Int) (fun p => [(0, .ref (wkC n s fin)), (1, .own 0 1 k), (5, .sub 1 1 p.2.2.1 (p.2.1.1.length - p.1))]) (fun p => [.row 1 (p.2.1.2.map eB), .row 1 (p.2.2.2.map eI)]) (fun p => CI k p.2.1 ∧ p.1 ≤ p.2.1.1.length ∧ cfs n s.mv (k - p.1) p.1 p.2.1 = W ∧ p.2.2.2.drop p.2.2.1 = p.2.1.1.drop p.1 ∧ p.2.2.1 + (p.2.1.1.length - p.1) = p.2.2.2.length) (fun p => k - p.1) (0, (setQ set k, set), 0, setQ set k)
    (kwk_sub ⟨rfl, rfl, rfl, trivial⟩) ⟨hCI, Nat.zero_le _, hWe, rfl, by simp⟩ (fun p hp => ?_)
  obtain ⟨i, q, o, cs⟩ := p
  obtain ⟨hB, hi, hE, hd, hl⟩ := hp
  replace hB : CI k q := hB
  replace hi : i ≤ q.1.length := hi
  replace hE : cfs n s.mv (k - i) i q = W := hE
  replace hd : cs.drop o = q.1.drop i := hd
  replace hl : o + (q.1.length - i) = cs.length := hl
  have hqn := hB.len
  have hbl := hB.bl
  repeat (first | refine kw_seq ?_ | refine ath_n ?_ | refine kw_skip ?_ | refine abl_n ?_ | refine kw_block ?_)
  all_goals refine kw_region ?_
  all_goals (first | refine kops_op rfl rfl (runs_none rfl) (mv_own (.inl rfl) rfl) ?_ | refine kops_op rfl rfl (runs_none rfl) (mv_sl (.inl rfl) rfl) ?_ | refine kops_op rfl rfl (runs_none rfl) (mv_s (.inl rfl) rfl) ?_ | refine kops_op rfl rfl (runs_none rfl) (mv_emp (.inl rfl) rfl) ?_ | refine kops_op rfl rfl (runs_none rfl) (mv_sub (.inl rfl) rfl) ?_)
  all_goals (first | refine kops_op rfl rfl (runs_none rfl) (does_len_map rfl ts25 rfl) ?_ | refine kops_op rfl rfl (runs_none rfl) (does_len_sl rfl ts25 rfl) ?_ | refine kops_op rfl rfl (runs_none rfl) (does_len_own rfl ts25 rfl) ?_ | refine kops_op rfl rfl (runs_none rfl) (does_len_s rfl ts25 rfl) ?_ | refine kops_op rfl rfl (runs_none rfl) (does_len_emp rfl ts25 rfl) ?_ | refine kops_op rfl rfl (runs_none rfl) (does_len_sub rfl ts25 rfl) ?_)
  all_goals (first | refine kops_opP rfl rfl (runs_none rfl) (does_gtr rfl rfl rfl) (fun h25 => ?_) (fun h25 => ?_) | refine kops_opB rfl rfl (runs_none rfl) (does_gtr rfl rfl rfl) (fun h25 => ?_) (fun h25 => ?_))
  all_goals refine kops_nil ?_
  all_goals (repeat (first | refine kw_seq ?_ | refine ath_n ?_ | refine kw_skip ?_ | refine abl_n ?_ | refine kw_block ?_))
  all_goals (first | refine kw_true rfl ?_ | refine kw_false rfl ?_)
  all_goals (repeat (first | refine kw_seq ?_ | refine ath_n ?_ | refine kw_skip ?_ | refine abl_n ?_ | refine kw_block ?_))
  all_goals dsimp only at h25
  rotate_left 1
  · have e : i = q.1.length := by omega
    rw [cfs_end (by omega)] at hE
    subst hE
    (refine kw_exit ?_; repeat (first | refine ath_x ?_ | refine abl_hit ?_ | refine abl_miss rfl ?_ | refine abl_n ?_ | refine ath_n ?_ | refine kw_seq ?_ | refine kw_skip ?_ | refine kw_block ?_))
    all_goals refine kw_region ?_
    all_goals (first | refine kops_op rfl rfl (runs_none rfl) (mv_own (.inl rfl) rfl) ?_ | refine kops_op rfl rfl (runs_none rfl) (mv_sl (.inl rfl) rfl) ?_ | refine kops_op rfl rfl (runs_none rfl) (mv_s (.inl rfl) rfl) ?_ | refine kops_op rfl rfl (runs_none rfl) (mv_emp (.inl rfl) rfl) ?_ | refine kops_op rfl rfl (runs_none rfl) (mv_sub (.inl rfl) rfl) ?_)
    all_goals (first | refine kops_op rfl rfl (runs_none rfl) (mv_own (.inr rfl) rfl) ?_ | refine kops_op rfl rfl (runs_none rfl) (mv_sl (.inr rfl) rfl) ?_ | refine kops_op rfl rfl (runs_none rfl) (mv_s (.inr rfl) rfl) ?_ | refine kops_op rfl rfl (runs_none rfl) (mv_emp (.inr rfl) rfl) ?_ | refine kops_op rfl rfl (runs_none rfl) (mv_sub (.inr rfl) rfl) ?_)
    all_goals refine kops_nil ?_
    all_goals (repeat (first | refine kw_seq ?_ | refine ath_n ?_ | refine kw_skip ?_ | refine abl_n ?_ | refine kw_block ?_))
    refine kw_weak (F' := [(4, .own 0 1 k)]) (σ' := [.row 1 (q.2.map eB)]) (kwk_st [0] rfl (by decide) ⟨⟨_, rfl, .rowE (rowB_lo _) rfl⟩, trivial⟩ ⟨.own 0 0 1 _ _ rfl rfl, trivial⟩) ?_
    (refine kw_ret ?_; repeat (first | refine ath_r ?_ | refine abl_r ?_))
    exact ⟨.inr rfl, rfl, rfl⟩
  have hlt : i < q.1.length := by omega
  obtain ⟨u, hu⟩ : ∃ u : Nat, gti q.1 i = u := ⟨(gti q.1 i).toNat, by have := hB.at_ hlt; omega⟩
  have hun : u < s.st.length := by have := hB.at_ hlt; omega
  have hq0 : (cs.map eI)[o + 0]? = some (eI u) := by
    have : (cs.drop o)[0]? = some (u : Int) := by rw [hd, List.getElem?_drop, Nat.add_zero, gti_get hlt, hu]
    rw [List.getElem?_drop] at this
    rw [List.getElem?_map, this]; rfl
  rw [show k - i = (k - (i + 1)) + 1 by omega, show cfs n s.mv ((k - (i + 1)) + 1) i q = if i < q.1.length then cfs n s.mv (k - (i + 1)) (i + 1) (crow n s.mv q (ixs s.mv (gti q.1 i) s.mv.length)) else q from rfl, if_pos hlt, hu] at hE
  have hXm := fun k (hk : k ∈ ixs s.mv u s.mv.length) => ixs_mem hk
  have hXl := ixs_len s.mv u s.mv.length
  have h33 : 0 < q.1.length - i := by omega
  all_goals refine kw_draw hmix ?_
  all_goals refine kdraw_ex ?_
  all_goals (first | refine ex_free rfl rfl (runs_none rfl) (fun _ => (mv_ptr (.inl rfl) rfl)) ?_ | refine ex_free rfl rfl (runs_none rfl) (fun _ => (mv_ref (.inl rfl) rfl)) ?_ | refine ex_free rfl rfl (runs_none rfl) (fun _ => (mv_s (.inl rfl) rfl)) ?_)
  all_goals (first | refine ex_free rfl rfl (runs_none rfl) (fun _ => (does_nil_ptr rfl rfl)) ?_ | refine ex_free rfl rfl (runs_none rfl) (fun _ => (does_nil_ref rfl rfl)) ?_ | refine ex_free rfl rfl (runs_none rfl) (fun _ => (does_nil_fn rfl rfl)) ?_)
  all_goals (first | refine ex_free rfl rfl (runs_none rfl) (fun _ => (does_fieldAddr_ptr rfl tf99_2 (by decide) rfl)) ?_ | refine ex_free rfl rfl (runs_none rfl) (fun _ => (does_fieldAddr_ref rfl tf99_2 (by decide) rfl)) ?_)
  all_goals (first | refine ex_free rfl rfl (runs_none rfl) (fun _ => (does_load_ref rfl ta80 rfl)) ?_ | refine ex_look rfl rfl (runs_none rfl) (look_ptr rfl ta80 rfl rfl rfl rfl rfl) ?_)
  all_goals (first | refine ex_free rfl rfl (runs_none rfl) (fun _ => (mv_own (.inl rfl) rfl)) ?_ | refine ex_free rfl rfl (runs_none rfl) (fun _ => (mv_sl (.inl rfl) rfl)) ?_ | refine ex_free rfl rfl (runs_none rfl) (fun _ => (mv_s (.inl rfl) rfl)) ?_ | refine ex_free rfl rfl (runs_none rfl) (fun _ => (mv_emp (.inl rfl) rfl)) ?_ | refine ex_free rfl rfl (runs_none rfl) (fun _ => (mv_sub (.inl rfl) rfl)) ?_)
  all_goals (first | refine ex_free rfl rfl (runs_none rfl) (fun _ => (does_index_sl rfl ts25 ti3 rfl rfl rfl h33 rfl)) ?_ | refine ex_free rfl rfl (runs_none rfl) (fun _ => (does_index_own rfl ts25 ti3 rfl rfl rfl h33)) ?_ | refine ex_free rfl rfl (runs_none rfl) (fun _ => (does_index_sub rfl ts25 ti3 rfl rfl rfl h33)) ?_)
  all_goals (first | refine ex_free rfl rfl (runs_none rfl) (fun _ => (does_load_ref rfl ta3 rfl)) ?_ | refine ex_look rfl rfl (runs_none rfl) (look_ptr rfl ta3 rfl rfl rfl hq0 rfl) ?_)
  all_goals (first | refine ex_free rfl rfl (runs_none rfl) (fun _ => (does_index_sl rfl ts80 ti27 rfl rfl rfl (outsA_get hun) rfl)) ?_ | refine ex_free rfl rfl (runs_none rfl) (fun _ => (does_index_own rfl ts80 ti27 rfl rfl rfl (outsA_get hun))) ?_ | refine ex_free rfl rfl (runs_none rfl) (fun _ => (does_index_sub rfl ts80 ti27 rfl rfl rfl (outsA_get hun))) ?_)
  all_goals (first | refine ex_free rfl rfl (runs_none rfl) (fun _ => (does_load_ref rfl ta27 rfl)) ?_ | refine ex_look rfl rfl (runs_none rfl) (look_ptr rfl ta27 rfl rfl rfl rfl rfl) ?_)
  all_goals (first | refine ex_free rfl rfl (runs_none rfl) (fun _ => (does_len_map rfl ts27 rfl)) ?_ | refine ex_free rfl rfl (runs_none rfl) (fun _ => (does_len_sl rfl ts27 rfl)) ?_ | refine ex_free rfl rfl (runs_none rfl) (fun _ => (does_len_own rfl ts27 rfl)) ?_ | refine ex_free rfl rfl (runs_none rfl) (fun _ => (does_len_s rfl ts27 rfl)) ?_ | refine ex_free rfl rfl (runs_none rfl) (fun _ => (does_len_emp rfl ts27 rfl)) ?_ | refine ex_free rfl rfl (runs_none rfl) (fun _ => (does_len_sub rfl ts27 rfl)) ?_)
  all_goals refine ex_free rfl rfl (runs_none rfl) (fun _ => (mv_s (.inl rfl) rfl)) ?_
  all_goals refine ex_nil (by kernel_rfl) ?_
  all_goals (repeat (first | refine kw_seq ?_ | refine ath_n ?_ | refine kw_skip ?_ | refine abl_n ?_ | refine kw_block ?_))
  have hLX : outsL s.mv u s.mv.length = (ixs s.mv u s.mv.length).map (gti s.mv) := rfl
  rw [hLX]
  generalize ixs s.mv u s.mv.length = X at hE hXm hXl
  clear hLX hq0
  refine kw_loops (S := Nat × QS × Nat × List Int) (fun p => [(0, .ref (wkC n s fin)), (1, .own 0 1 k), (5, .sub 1 1 p.2.2.1 (p.2.1.1.length - i)), (36, eL eMv (X.map (gti s.mv))), (37, eI (X.map (gti s.mv)).length), (38, eI p.1)]) (fun p => [.row 1 (p.2.1.2.map eB), .row 1 (p.2.2.2.map eI)]) (fun p => CI k p.2.1 ∧ i < p.2.1.1.length ∧ cfs n s.mv (k - (i + 1)) (i + 1) (crow n s.mv p.2.1 (X.drop p.1)) = W ∧ p.2.2.2.drop p.2.2.1 = p.2.1.1.drop i ∧ p.2.2.1 + (p.2.1.1.length - i) = p.2.2.2.length ∧ p.1 ≤ X.length) (fun p => X.length - p.1) (0, q, o, cs)
    (kwk_sub ⟨rfl, rfl, rfl, rfl, rfl, rfl, trivial⟩) ⟨hB, hlt, hE, hd, hl, Nat.zero_le _⟩ (fun p hp => ?_)
  clear hE hd hl hB hqn hbl hu hlt
  obtain ⟨j, q, o, cs⟩ := p
  obtain ⟨hB, hlt, hE, hd, hl, hj⟩ := hp
  replace hB : CI k q := hB
  replace hlt : i < q.1.length := hlt
  replace hE : cfs n s.mv (k - (i + 1)) (i + 1) (crow n s.mv q (X.drop j)) = W := hE
  replace hd : cs.drop o = q.1.drop i := hd
  replace hl : o + (q.1.length - i) = cs.length := hl
  replace hj : j ≤ X.length := hj
  have hqn := hB.len
  have hbl := hB.bl
  have hLl : (X.map (gti s.mv)).length = X.length := by simp
  repeat (first | refine kw_seq ?_ | refine ath_n ?_ | refine kw_skip ?_ | refine abl_n ?_ | refine kw_block ?_)
  all_goals refine kw_region ?_
  all_goals (first | refine kops_opP rfl rfl (runs_none rfl) (does_lss rfl rfl rfl) (fun h39 => ?_) (fun h39 => ?_) | refine kops_opB rfl rfl (runs_none rfl) (does_lss rfl rfl rfl) (fun h39 => ?_) (fun h39 => ?_))
  all_goals refine kops_nil ?_
  all_goals (repeat (first | refine kw_seq ?_ | refine ath_n ?_ | refine kw_skip ?_ | refine abl_n ?_ | refine kw_block ?_))
  all_goals (first | refine kw_true rfl ?_ | refine kw_false rfl ?_)
  all_goals (repeat (first | refine kw_seq ?_ | refine ath_n ?_ | refine kw_skip ?_ | refine abl_n ?_ | refine kw_block ?_))
  all_goals dsimp only at h39
  rotate_left 1
  · have e : j = X.length := by omega
    subst e
    rw [List.drop_length] at hE
    (refine kw_exit ?_; repeat (first | refine ath_x ?_ | refine abl_hit ?_ | refine abl_miss rfl ?_ | refine abl_n ?_ | refine ath_n ?_ | refine kw_seq ?_ | refine kw_skip ?_ | refine kw_block ?_))
    have h73 : 0 < q.1.length - i := by omega
    have h73b : 1 ≤ q.1.length - i := h73
    all_goals refine kw_region ?_
    all_goals (first | refine kops_op rfl rfl (runs_none rfl) (mv_own (.inl rfl) rfl) ?_ | refine kops_op rfl rfl (runs_none rfl) (mv_sl (.inl rfl) rfl) ?_ | refine kops_op rfl rfl (runs_none rfl) (mv_s (.inl rfl) rfl) ?_ | refine kops_op rfl rfl (runs_none rfl) (mv_emp (.inl rfl) rfl) ?_ | refine kops_op rfl rfl (runs_none rfl) (mv_sub (.inl rfl) rfl) ?_)
    all_goals refine kops_op rfl rfl (runs_none rfl) (does_slice_sub rfl ts25 ti3 rfl rfl h73 rfl rfl h73b) ?_
    all_goals (first | refine kops_op rfl rfl (runs_none rfl) (mv_own (.inr rfl) rfl) ?_ | refine kops_op rfl rfl (runs_none rfl) (mv_sl (.inr rfl) rfl) ?_ | refine kops_op rfl rfl (runs_none rfl) (mv_s (.inr rfl) rfl) ?_ | refine kops_op rfl rfl (runs_none rfl) (mv_emp (.inr rfl) rfl) ?_ | refine kops_op rfl rfl (runs_none rfl) (mv_sub (.inr rfl) rfl) ?_)
    all_goals refine kops_nil ?_
    all_goals (repeat (first | refine kw_seq ?_ | refine ath_n ?_ | refine kw_skip ?_ | refine abl_n ?_ | refine kw_block ?_))
    exact ⟨(i + 1, q, o + 1, cs), ⟨hB, hlt, hE, by show cs.drop (o + 1) = q.1.drop (i + 1); rw [← List.drop_drop, hd, List.drop_drop], by show o + 1 + (q.1.length - (i + 1)) = cs.length; omega⟩, by show k - (i + 1) < k - i; omega, kwk_st [0, 1] rfl (by decide) ⟨⟨_, rfl, .rowE (rowB_lo _) rfl⟩, ⟨_, rfl, .rowE (rowI_lo _) rfl⟩, trivial⟩ ⟨.lo _ hlw, .own 0 0 1 _ _ rfl rfl, .sub 1 1 1 _ _ _ _ rfl rfl (show q.1.length - i - 1 = q.1.length - (i + 1) by omega), trivial⟩⟩
  have hjt : j < X.length := by omega
  have hXk : X.drop j = gti X j :: X.drop (j + 1) := drop_gti hjt
  have hix : ((X.map (gti s.mv)).map eMv)[j]? = some (eMv (gti s.mv (gti X j))) := by rw [List.getElem?_map, List.getElem?_map, gti_get hjt]; rfl
  obtain ⟨hkN, hkf⟩ := hXm _ (gti_mem hjt)
  rw [hXk, show crow n s.mv q (gti X j :: X.drop (j + 1)) = crow n s.mv (cstep n s.mv q (gti X j)) (X.drop (j + 1)) from rfl] at hE
  obtain ⟨_, _, ht0, ht1, hy0, hy1⟩ := hm _ hkN
  have hst := hB.step (n := n) (hmr _ hkN)
  obtain ⟨hB2, tl, hX2⟩ := hst
  have hg2 : i < (cstep n s.mv q (gti X j)).1.length := by rw [hX2]; simp; omega
  have hstep : cstep n s.mv q (gti X j) = if labM n (gti s.mv (gti X j)) = noB ∧ gti q.2 (gti s.mv (gti X j)).tt.toNat = false then (q.1 ++ [(gti s.mv (gti X j)).tt], q.2.set (gti s.mv (gti X j)).tt.toNat true) else q := rfl
  generalize cstep n s.mv q (gti X j) = q1 at hE hB2 hg2 hstep
  clear hX2
  generalize gti X j = kk at *
  generalize gti s.mv kk = m at *
  obtain ⟨w, hw⟩ : ∃ w : Nat, m.tt = (w : Int) := ⟨m.tt.toNat, by omega⟩
  have hwn : w < k := by omega
  obtain ⟨y, hy⟩ : ∃ y : Nat, m.sym = (y : Int) := ⟨m.sym.toNat, by omega⟩
  have hyn : y < n.trans.length := by omega
  have hixt : (n.trans.map eT)[y]? = some (eT (gti n.trans y)) := ix_map hyn
  have hlab : labM n m = (gti n.trans y).label := by unfold labM; rw [hy, Int.toNat_natCast]
  rw [hlab, hw, Int.toNat_natCast] at hstep
  have hel : (q.2.map eB)[w]? = some (eB (gti q.2 w)) := ix_map (by omega)
  have hlm : Lo 0 (.ref (eMv m).cells) := .ref _ (lo_Mv m).cells
  generalize gti n.trans y = t at *
  all_goals refine kw_region ?_
  all_goals (first | refine kops_op rfl rfl (runs_none rfl) (does_index_sl rfl ts27 ti56 rfl rfl rfl hix rfl) ?_ | refine kops_op rfl rfl (runs_none rfl) (does_index_own rfl ts27 ti56 rfl rfl rfl hix) ?_ | refine kops_op rfl rfl (runs_none rfl) (does_index_sub rfl ts27 ti56 rfl rfl rfl hix) ?_)
  all_goals (first | refine kops_op rfl rfl (runs_none rfl) (does_load_refw rfl ta56 ti56 rfl rfl) ?_ | refine kops_op rfl rfl (runs_none rfl) (does_load_whole rfl ta56 ti56 rfl rfl rfl rfl rfl) ?_ | refine kops_op rfl rfl (runs_none rfl) (does_load_refs rfl ta56 ti56 rfl (Nat.le_of_ble_eq_true rfl)) ?_ | refine kops_op rfl rfl (runs_none rfl) (does_load_ptrs rfl ta56 ti56 rfl rfl rfl rfl (Nat.le_of_ble_eq_true rfl)) ?_)
  all_goals refine kops_op rfl rfl (runs_none rfl) (does_alloc rfl ti56 rfl rfl) ?_
  all_goals refine kops_eff rfl (runs_none rfl) (does_store rfl ti56 rfl rfl rfl rfl rfl rfl (by decide) (by decide)) ?_
  all_goals refine kops_nil ?_
  all_goals (repeat (first | refine kw_seq ?_ | refine ath_n ?_ | refine kw_skip ?_ | refine abl_n ?_ | refine kw_block ?_))
  refine kw_weak (kwk_froz (id := 2) rfl) ?_
  refine kw_weak (kwk_ref (d := 9) rfl rfl rfl) ?_
  by_cases hsl : t.label = noB
  · generalize hgb : gti q.2 w = b2 at hel hstep
    cases b2 with
    | true =>
      rw [if_neg (by simp)] at hstep
      subst hstep
      all_goals refine kw_draw hmix ?_
      all_goals refine kdraw_ex ?_
      all_goals (first | refine ex_free rfl rfl (runs_none rfl) (fun _ => (mv_ptr (.inl rfl) rfl)) ?_ | refine ex_free rfl rfl (runs_none rfl) (fun _ => (mv_ref (.inl rfl) rfl)) ?_ | refine ex_free rfl rfl (runs_none rfl) (fun _ => (mv_s (.inl rfl) rfl)) ?_)
      all_goals (first | refine ex_free rfl rfl (runs_none rfl) (fun _ => (does_nil_ptr rfl rfl)) ?_ | refine ex_free rfl rfl (runs_none rfl) (fun _ => (does_nil_ref rfl rfl)) ?_ | refine ex_free rfl rfl (runs_none rfl) (fun _ => (does_nil_fn rfl rfl)) ?_)
      all_goals (first | refine ex_free rfl rfl (runs_none rfl) (fun _ => (does_fieldAddr_ptr rfl tf99_0 (by decide) rfl)) ?_ | refine ex_free rfl rfl (runs_none rfl) (fun _ => (does_fieldAddr_ref rfl tf99_0 (by decide) rfl)) ?_)
      all_goals (first | refine ex_free rfl rfl (runs_none rfl) (fun _ => (does_fieldAddr_ptr rfl tf24_1 (by decide) rfl)) ?_ | refine ex_free rfl rfl (runs_none rfl) (fun _ => (does_fieldAddr_ref rfl tf24_1 (by decide) rfl)) ?_)
      all_goals (first | refine ex_free rfl rfl (runs_none rfl) (fun _ => (does_load_ref rfl ta22 rfl)) ?_ | refine ex_look rfl rfl (runs_none rfl) (look_ptr rfl ta22 rfl rfl rfl rfl rfl) ?_)
      all_goals (first | refine ex_free rfl rfl (runs_none rfl) (fun _ => (does_fieldAddr_ptr rfl tf56_2 (by decide) rfl)) ?_ | refine ex_free rfl rfl (runs_none rfl) (fun _ => (does_fieldAddr_ref rfl tf56_2 (by decide) rfl)) ?_)
      all_goals (first | refine ex_free rfl rfl (runs_none rfl) (fun _ => (does_load_ref rfl ta3 rfl)) ?_ | refine ex_look rfl rfl (runs_none rfl) (look_ptr rfl ta3 rfl rfl rfl rfl rfl) ?_)
      all_goals (first | refine ex_free rfl rfl (runs_none rfl) (fun _ => (does_index_sl rfl ts22 ti59 rfl rfl hy hixt rfl)) ?_ | refine ex_free rfl rfl (runs_none rfl) (fun _ => (does_index_own rfl ts22 ti59 rfl rfl hy hixt)) ?_ | refine ex_free rfl rfl (runs_none rfl) (fun _ => (does_index_sub rfl ts22 ti59 rfl rfl hy hixt)) ?_)
      all_goals (first | refine ex_free rfl rfl (runs_none rfl) (fun _ => (does_fieldAddr_ptr rfl tf59_0 (by decide) rfl)) ?_ | refine ex_free rfl rfl (runs_none rfl) (fun _ => (does_fieldAddr_ref rfl tf59_0 (by decide) rfl)) ?_)
      all_goals (first | refine ex_free rfl rfl (runs_none rfl) (fun _ => (does_load_ref rfl ta9 rfl)) ?_ | refine ex_look rfl rfl (runs_none rfl) (look_ptr rfl ta9 rfl rfl rfl rfl rfl) ?_)
      all_goals refine ex_free rfl rfl (runs_none rfl) (fun _ => (dec_t hsl (does_eqs rfl rfl rfl))) ?_
      all_goals refine ex_free rfl rfl (runs_none rfl) (fun _ => (mv_s (.inl rfl) rfl)) ?_
      all_goals (first | refine ex_free rfl rfl (runs_y rfl rfl rfl) (fun _ => (mv_own (.inl rfl) rfl)) ?_ | refine ex_free rfl rfl (runs_y rfl rfl rfl) (fun _ => (mv_sl (.inl rfl) rfl)) ?_ | refine ex_free rfl rfl (runs_y rfl rfl rfl) (fun _ => (mv_s (.inl rfl) rfl)) ?_ | refine ex_free rfl rfl (runs_y rfl rfl rfl) (fun _ => (mv_emp (.inl rfl) rfl)) ?_ | refine ex_free rfl rfl (runs_y rfl rfl rfl) (fun _ => (mv_sub (.inl rfl) rfl)) ?_ | refine ex_skip rfl rfl (runs_nt rfl rfl rfl) ?_ | refine ex_skip rfl rfl (runs_nu rfl rfl rfl) ?_)
      all_goals (first | refine ex_free rfl rfl (runs_y rfl rfl rfl) (fun _ => (does_fieldAddr_ptr rfl tf56_1 (by decide) rfl)) ?_ | refine ex_free rfl rfl (runs_y rfl rfl rfl) (fun _ => (does_fieldAddr_ref rfl tf56_1 (by decide) rfl)) ?_ | refine ex_skip rfl rfl (runs_nt rfl rfl rfl) ?_ | refine ex_skip rfl rfl (runs_nu rfl rfl rfl) ?_)
      all_goals (first | refine ex_free rfl rfl (runs_y rfl rfl rfl) (fun _ => (does_load_ref rfl ta3 rfl)) ?_ | refine ex_look rfl rfl (runs_y rfl rfl rfl) (look_ptr rfl ta3 rfl rfl rfl rfl rfl) ?_ | refine ex_skip rfl rfl (runs_nt rfl rfl rfl) ?_ | refine ex_skip rfl rfl (runs_nu rfl rfl rfl) ?_)
      all_goals (first | refine ex_free rfl rfl (runs_y rfl rfl rfl) (fun _ => (does_index_sl rfl ts81 ti4 rfl rfl hw hwn rfl)) ?_ | refine ex_free rfl rfl (runs_y rfl rfl rfl) (fun _ => (does_index_own rfl ts81 ti4 rfl rfl hw hwn)) ?_ | refine ex_free rfl rfl (runs_y rfl rfl rfl) (fun _ => (does_index_sub rfl ts81 ti4 rfl rfl hw hwn)) ?_ | refine ex_skip rfl rfl (runs_nt rfl rfl rfl) ?_ | refine ex_skip rfl rfl (runs_nu rfl rfl rfl) ?_)
      all_goals (first | refine ex_free rfl rfl (runs_y rfl rfl rfl) (fun _ => (does_load_ref rfl ta4 rfl)) ?_ | refine ex_look rfl rfl (runs_y rfl rfl rfl) (look_ptr rfl ta4 rfl rfl rfl hel rfl) ?_ | refine ex_skip rfl rfl (runs_nt rfl rfl rfl) ?_ | refine ex_skip rfl rfl (runs_nu rfl rfl rfl) ?_)
      all_goals (first | refine ex_free rfl rfl (runs_y rfl rfl rfl) (fun _ => (does_notp rfl rfl)) ?_ | refine ex_free rfl rfl (runs_y rfl rfl rfl) (fun _ => (does_not rfl rfl)) ?_ | refine ex_skip rfl rfl (runs_nt rfl rfl rfl) ?_ | refine ex_skip rfl rfl (runs_nu rfl rfl rfl) ?_)
      all_goals (first | refine ex_free rfl rfl (runs_none rfl) (fun _ => (pickT_s rfl rfl rfl)) ?_ | refine ex_free rfl rfl (runs_none rfl) (fun _ => (pickF_s rfl rfl rfl)) ?_ | refine ex_free rfl rfl (runs_none rfl) (fun _ => (does_pickT rfl rfl rfl)) ?_ | refine ex_free rfl rfl (runs_none rfl) (fun _ => (does_pickF rfl rfl rfl)) ?_)
      all_goals refine ex_nil (by kernel_rfl) ?_
      all_goals (repeat (first | refine kw_seq ?_ | refine ath_n ?_ | refine kw_skip ?_ | refine abl_n ?_ | refine kw_block ?_))
      refine kw_false rfl ?_
      repeat (first | refine kw_seq ?_ | refine ath_n ?_ | refine kw_skip ?_ | refine abl_n ?_ | refine kw_block ?_)
      all_goals refine kw_region ?_
      all_goals refine kops_op rfl rfl (runs_none rfl) (does_add rfl rfl rfl (IntWalk.i64_in _ (by omega))) ?_
      all_goals refine kops_op rfl rfl (runs_none rfl) (mv_s (.inl rfl) rfl) ?_
      all_goals refine kops_nil ?_
      all_goals (repeat (first | refine kw_seq ?_ | refine ath_n ?_ | refine kw_skip ?_ | refine abl_n ?_ | refine kw_block ?_))
      exact ⟨(j + 1, q1, o, cs), ⟨hB2, hlt, hE, hd, hl, by show j + 1 ≤ X.length; omega⟩, by show X.length - (j + 1) < X.length - j; omega, kwk_st [0, 1] rfl (by decide) ⟨⟨_, rfl, .rowE (rowB_lo _) rfl⟩, ⟨_, rfl, .rowE (rowI_lo _) rfl⟩, trivial⟩ ⟨.lo _ hlw, .own 0 0 1 _ _ rfl rfl, .sub 1 1 1 _ _ _ _ rfl rfl rfl, .lo _ (lo_Mvs _), .lo _ (by repeat' (first | exact Lo.s _ | exact Lo.emp | exact Lo.any | exact lo_nil | exact lo_nilE | refine lo_cons ?_ ?_ | refine lo_consE ?_ ?_ | refine lo_map ?_ | refine lo_mapE ?_ | refine Lo.cells ?_ | refine Lo.agg _ ?_ | refine Lo.ref _ ?_ | refine Lo.tup _ ?_ | refine Lo.fn _ _ ?_ | refine Lo.sl _ ?_ | intro _)), .lo _ (by repeat' (first | exact Lo.s _ | exact Lo.emp | exact Lo.any | exact lo_nil | exact lo_nilE | refine lo_cons ?_ ?_ | refine lo_consE ?_ ?_ | refine lo_map ?_ | refine lo_mapE ?_ | refine Lo.cells ?_ | refine Lo.agg _ ?_ | refine Lo.ref _ ?_ | refine Lo.tup _ ?_ | refine Lo.fn _ _ ?_ | refine Lo.sl _ ?_ | intro _)), trivial⟩⟩
    | false =>
      rw [if_pos ⟨hsl, rfl⟩] at hstep
      subst hstep
      have hlm2 : o + (q.1.length - i) = (cs.map eI).length := by rw [List.length_map]; exact hl
      have h104 : 0 < q.1.length - i := by omega
      have hmet : (q.2.set w true).map eB = (q.2.map eB).set w (eB true) := List.map_set
      have hql : (q.1 ++ [(w : Int)]).length - i = q.1.length - i + 1 := by simp; omega
      all_goals refine kw_draw hmix ?_
      all_goals refine kdraw_ex ?_
      all_goals (first | refine ex_free rfl rfl (runs_none rfl) (fun _ => (mv_ptr (.inl rfl) rfl)) ?_ | refine ex_free rfl rfl (runs_none rfl) (fun _ => (mv_ref (.inl rfl) rfl)) ?_ | refine ex_free rfl rfl (runs_none rfl) (fun _ => (mv_s (.inl rfl) rfl)) ?_)
      all_goals (first | refine ex_free rfl rfl (runs_none rfl) (fun _ => (does_nil_ptr rfl rfl)) ?_ | refine ex_free rfl rfl (runs_none rfl) (fun _ => (does_nil_ref rfl rfl)) ?_ | refine ex_free rfl rfl (runs_none rfl) (fun _ => (does_nil_fn rfl rfl)) ?_)
      all_goals (first | refine ex_free rfl rfl (runs_none rfl) (fun _ => (does_fieldAddr_ptr rfl tf99_0 (by decide) rfl)) ?_ | refine ex_free rfl rfl (runs_none rfl) (fun _ => (does_fieldAddr_ref rfl tf99_0 (by decide) rfl)) ?_)
      all_goals (first | refine ex_free rfl rfl (runs_none rfl) (fun _ => (does_fieldAddr_ptr rfl tf24_1 (by decide) rfl)) ?_ | refine ex_free rfl rfl (runs_none rfl) (fun _ => (does_fieldAddr_ref rfl tf24_1 (by decide) rfl)) ?_)
      all_goals (first | refine ex_free rfl rfl (runs_none rfl) (fun _ => (does_load_ref rfl ta22 rfl)) ?_ | refine ex_look rfl rfl (runs_none rfl) (look_ptr rfl ta22 rfl rfl rfl rfl rfl) ?_)
      all_goals (first | refine ex_free rfl rfl (runs_none rfl) (fun _ => (does_fieldAddr_ptr rfl tf56_2 (by decide) rfl)) ?_ | refine ex_free rfl rfl (runs_none rfl) (fun _ => (does_fieldAddr_ref rfl tf56_2 (by decide) rfl)) ?_)
      all_goals (first | refine ex_free rfl rfl (runs_none rfl) (fun _ => (does_load_ref rfl ta3 rfl)) ?_ | refine ex_look rfl rfl (runs_none rfl) (look_ptr rfl ta3 rfl rfl rfl rfl rfl) ?_)
      all_goals (first | refine ex_free rfl rfl (runs_none rfl) (fun _ => (does_index_sl rfl ts22 ti59 rfl rfl hy hixt rfl)) ?_ | refine ex_free rfl rfl (runs_none rfl) (fun _ => (does_index_own rfl ts22 ti59 rfl rfl hy hixt)) ?_ | refine ex_free rfl rfl (runs_none rfl) (fun _ => (does_index_sub rfl ts22 ti59 rfl rfl hy hixt)) ?_)
      all_goals (first | refine ex_free rfl rfl (runs_none rfl) (fun _ => (does_fieldAddr_ptr rfl tf59_0 (by decide) rfl)) ?_ | refine ex_free rfl rfl (runs_none rfl) (fun _ => (does_fieldAddr_ref rfl tf59_0 (by decide) rfl)) ?_)
      all_goals (first | refine ex_free rfl rfl (runs_none rfl) (fun _ => (does_load_ref rfl ta9 rfl)) ?_ | refine ex_look rfl rfl (runs_none rfl) (look_ptr rfl ta9 rfl rfl rfl rfl rfl) ?_)
      all_goals refine ex_free rfl rfl (runs_none rfl) (fun _ => (dec_t hsl (does_eqs rfl rfl rfl))) ?_
      all_goals refine ex_free rfl rfl (runs_none rfl) (fun _ => (mv_s (.inl rfl) rfl)) ?_
      all_goals (first | refine ex_free rfl rfl (runs_y rfl rfl rfl) (fun _ => (mv_own (.inl rfl) rfl)) ?_ | refine ex_free rfl rfl (runs_y rfl rfl rfl) (fun _ => (mv_sl (.inl rfl) rfl)) ?_ | refine ex_free rfl rfl (runs_y rfl rfl rfl) (fun _ => (mv_s (.inl rfl) rfl)) ?_ | refine ex_free rfl rfl (runs_y rfl rfl rfl) (fun _ => (mv_emp (.inl rfl) rfl)) ?_ | refine ex_free rfl rfl (runs_y rfl rfl rfl) (fun _ => (mv_sub (.inl rfl) rfl)) ?_ | refine ex_skip rfl rfl (runs_nt rfl rfl rfl) ?_ | refine ex_skip rfl rfl (runs_nu rfl rfl rfl) ?_)
      all_goals (first | refine ex_free rfl rfl (runs_y rfl rfl rfl) (fun _ => (does_fieldAddr_ptr rfl tf56_1 (by decide) rfl)) ?_ | refine ex_free rfl rfl (runs_y rfl rfl rfl) (fun _ => (does_fieldAddr_ref rfl tf56_1 (by decide) rfl)) ?_ | refine ex_skip rfl rfl (runs_nt rfl rfl rfl) ?_ | refine ex_skip rfl rfl (runs_nu rfl rfl rfl) ?_)
      all_goals (first | refine ex_free rfl rfl (runs_y rfl rfl rfl) (fun _ => (does_load_ref rfl ta3 rfl)) ?_ | refine ex_look rfl rfl (runs_y rfl rfl rfl) (look_ptr rfl ta3 rfl rfl rfl rfl rfl) ?_ | refine ex_skip rfl rfl (runs_nt rfl rfl rfl) ?_ | refine ex_skip rfl rfl (runs_nu rfl rfl rfl) ?_)
      all_goals (first | refine ex_free rfl rfl (runs_y rfl rfl rfl) (fun _ => (does_index_sl rfl ts81 ti4 rfl rfl hw hwn rfl)) ?_ | refine ex_free rfl rfl (runs_y rfl rfl rfl) (fun _ => (does_index_own rfl ts81 ti4 rfl rfl hw hwn)) ?_ | refine ex_free rfl rfl (runs_y rfl rfl rfl) (fun _ => (does_index_sub rfl ts81 ti4 rfl rfl hw hwn)) ?_ | refine ex_skip rfl rfl (runs_nt rfl rfl rfl) ?_ | refine ex_skip rfl rfl (runs_nu rfl rfl rfl) ?_)
      all_goals (first | refine ex_free rfl rfl (runs_y rfl rfl rfl) (fun _ => (does_load_ref rfl ta4 rfl)) ?_ | refine ex_look rfl rfl (runs_y rfl rfl rfl) (look_ptr rfl ta4 rfl rfl rfl hel rfl) ?_ | refine ex_skip rfl rfl (runs_nt rfl rfl rfl) ?_ | refine ex_skip rfl rfl (runs_nu rfl rfl rfl) ?_)
      all_goals (first | refine ex_free rfl rfl (runs_y rfl rfl rfl) (fun _ => (does_notp rfl rfl)) ?_ | refine ex_free rfl rfl (runs_y rfl rfl rfl) (fun _ => (does_not rfl rfl)) ?_ | refine ex_skip rfl rfl (runs_nt rfl rfl rfl) ?_ | refine ex_skip rfl rfl (runs_nu rfl rfl rfl) ?_)
      all_goals (first | refine ex_free rfl rfl (runs_none rfl) (fun _ => (pickT_s rfl rfl rfl)) ?_ | refine ex_free rfl rfl (runs_none rfl) (fun _ => (pickF_s rfl rfl rfl)) ?_ | refine ex_free rfl rfl (runs_none rfl) (fun _ => (does_pickT rfl rfl rfl)) ?_ | refine ex_free rfl rfl (runs_none rfl) (fun _ => (does_pickF rfl rfl rfl)) ?_)
      all_goals refine ex_nil (by kernel_rfl) ?_
      all_goals (repeat (first | refine kw_seq ?_ | refine ath_n ?_ | refine kw_skip ?_ | refine abl_n ?_ | refine kw_block ?_))
      refine kw_true rfl ?_
      repeat (first | refine kw_seq ?_ | refine ath_n ?_ | refine kw_skip ?_ | refine abl_n ?_ | refine kw_block ?_)
      all_goals refine kw_region ?_
      all_goals (first | refine kops_op rfl rfl (runs_none rfl) (mv_own (.inl rfl) rfl) ?_ | refine kops_op rfl rfl (runs_none rfl) (mv_sl (.inl rfl) rfl) ?_ | refine kops_op rfl rfl (runs_none rfl) (mv_s (.inl rfl) rfl) ?_ | refine kops_op rfl rfl (runs_none rfl) (mv_emp (.inl rfl) rfl) ?_ | refine kops_op rfl rfl (runs_none rfl) (mv_sub (.inl rfl) rfl) ?_)
      all_goals (first | refine kops_op rfl rfl (runs_none rfl) (does_fieldAddr_ptr rfl tf56_1 (by decide) rfl) ?_ | refine kops_op rfl rfl (runs_none rfl) (does_fieldAddr_ref rfl tf56_1 (by decide) rfl) ?_)
      all_goals (first | refine kops_op rfl rfl (runs_none rfl) (does_load_ref rfl ta3 rfl) ?_ | refine kops_op rfl rfl (runs_none rfl) (does_load_ptr rfl ta3 rfl rfl rfl rfl rfl) ?_)
      all_goals (first | refine kops_op rfl rfl (runs_none rfl) (does_index_sl rfl ts81 ti4 rfl rfl hw hwn rfl) ?_ | refine kops_op rfl rfl (runs_none rfl) (does_index_own rfl ts81 ti4 rfl rfl hw hwn) ?_ | refine kops_op rfl rfl (runs_none rfl) (does_index_sub rfl ts81 ti4 rfl rfl hw hwn) ?_)
      all_goals refine kops_eff rfl (runs_none rfl) (does_store rfl ti4 rfl rfl rfl hel rfl rfl (by decide) (by decide)) ?_
      all_goals refine kops_nil ?_
      all_goals (repeat (first | refine kw_seq ?_ | refine ath_n ?_ | refine kw_skip ?_ | refine abl_n ?_ | refine kw_block ?_))
      all_goals refine kw_region ?_
      all_goals (first | refine kops_op rfl rfl (runs_none rfl) (mv_own (.inl rfl) rfl) ?_ | refine kops_op rfl rfl (runs_none rfl) (mv_sl (.inl rfl) rfl) ?_ | refine kops_op rfl rfl (runs_none rfl) (mv_s (.inl rfl) rfl) ?_ | refine kops_op rfl rfl (runs_none rfl) (mv_emp (.inl rfl) rfl) ?_ | refine kops_op rfl rfl (runs_none rfl) (mv_sub (.inl rfl) rfl) ?_)
      all_goals (first | refine kops_op rfl rfl (runs_none rfl) (does_fieldAddr_ptr rfl tf56_1 (by decide) rfl) ?_ | refine kops_op rfl rfl (runs_none rfl) (does_fieldAddr_ref rfl tf56_1 (by decide) rfl) ?_)
      all_goals (first | refine kops_op rfl rfl (runs_none rfl) (does_load_ref rfl ta3 rfl) ?_ | refine kops_op rfl rfl (runs_none rfl) (does_load_ptr rfl ta3 rfl rfl rfl rfl rfl) ?_)
      all_goals (first | refine kops_op rfl rfl (runs_none rfl) (lit1_sF rfl ts25 ti3 rfl rfl rfl rfl) ?_ | refine kops_op rfl rfl (runs_none rfl) (lit1_slF rfl ts25 ti3 rfl rfl rfl rfl (by repeat' (first | exact Lo.s _ | exact Lo.emp | exact Lo.any | exact lo_nil | exact lo_nilE | refine lo_cons ?_ ?_ | refine lo_consE ?_ ?_ | refine lo_map ?_ | refine lo_mapE ?_ | refine Lo.cells ?_ | refine Lo.agg _ ?_ | refine Lo.ref _ ?_ | refine Lo.tup _ ?_ | refine Lo.fn _ _ ?_ | refine Lo.sl _ ?_ | intro _))) ?_ | refine kops_op rfl rfl (runs_none rfl) (does_litAF rfl ts25 ti3 rfl rfl (by decide) (by decide) rfl rfl rfl (by repeat' (first | exact Lo.s _ | exact Lo.emp | exact Lo.any | exact lo_nil | exact lo_nilE | refine lo_cons ?_ ?_ | refine lo_consE ?_ ?_ | refine lo_map ?_ | refine lo_mapE ?_ | refine Lo.cells ?_ | refine Lo.agg _ ?_ | refine Lo.ref _ ?_ | refine Lo.tup _ ?_ | refine Lo.fn _ _ ?_ | refine Lo.sl _ ?_ | intro _))) ?_)
      all_goals (refine kops_opR rfl rfl (runs_none rfl) (does_append_sub rfl ts25 ti3 rfl (by decide) rfl rfl hlm2 (by omega) rfl (by first | exact .own _ _ _ rfl rfl _ (by first | rfl | simp) | exact .emp | exact .nil | exact .sl _ (by first | simp; done | intro e he; simp at he; obtain ⟨_, _, rfl⟩ := he; rfl)) (by first | omega | (simp; omega) | (unfold maxLen; simp; omega)) (by first | omega | (simp; omega) | (unfold maxLen; simp; omega))) (fun _ _ hR => ?_); obtain ⟨q2, cs2, hq2, rfl, rfl⟩ := hR)
      all_goals (first | refine kops_op rfl rfl (runs_none rfl) (mv_own (.inr rfl) rfl) ?_ | refine kops_op rfl rfl (runs_none rfl) (mv_sl (.inr rfl) rfl) ?_ | refine kops_op rfl rfl (runs_none rfl) (mv_s (.inr rfl) rfl) ?_ | refine kops_op rfl rfl (runs_none rfl) (mv_emp (.inr rfl) rfl) ?_ | refine kops_op rfl rfl (runs_none rfl) (mv_sub (.inr rfl) rfl) ?_)
      all_goals refine kops_nil ?_
      all_goals (repeat (first | refine kw_seq ?_ | refine ath_n ?_ | refine kw_skip ?_ | refine abl_n ?_ | refine kw_block ?_))
      rcases hq2 with ⟨rfl, rfl⟩ | ⟨rfl, rfl⟩
      all_goals (all_goals refine kw_region ?_)
      all_goals (all_goals refine kops_op rfl rfl (runs_none rfl) (does_add rfl rfl rfl (IntWalk.i64_in _ (by omega))) ?_)
      all_goals (all_goals refine kops_op rfl rfl (runs_none rfl) (mv_s (.inl rfl) rfl) ?_)
      all_goals (all_goals refine kops_nil ?_)
      all_goals (all_goals (repeat (first | refine kw_seq ?_ | refine ath_n ?_ | refine kw_skip ?_ | refine abl_n ?_ | refine kw_block ?_)))
      · exact ⟨(j + 1, (q.1 ++ [(w : Int)], q.2.set w true), q2, cs ++ [(w : Int)]), ⟨hB2, hg2, hE, by show (cs ++ [(w : Int)]).drop q2 = (q.1 ++ [(w : Int)]).drop i; rw [List.drop_append_of_le_length (by omega), List.drop_append_of_le_length (by omega), hd], by show q2 + ((q.1 ++ [(w : Int)]).length - i) = (cs ++ [(w : Int)]).length; rw [hql, List.length_append]; simp; omega, by show j + 1 ≤ X.length; omega⟩, by show X.length - (j + 1) < X.length - j; omega, kwk_st [0, 3] rfl (by decide) ⟨⟨_, rfl, .rowE (rowB_lo _) hmet.symm⟩, ⟨_, rfl, .rowE (rowI_lo _) (by rw [List.map_append, ← hw]; rfl)⟩, trivial⟩ ⟨.lo _ hlw, .own 0 0 1 _ _ rfl rfl, .sub 3 1 1 _ _ _ _ rfl rfl hql.symm, .lo _ (lo_Mvs _), .lo _ (by repeat' (first | exact Lo.s _ | exact Lo.emp | exact Lo.any | exact lo_nil | exact lo_nilE | refine lo_cons ?_ ?_ | refine lo_consE ?_ ?_ | refine lo_map ?_ | refine lo_mapE ?_ | refine Lo.cells ?_ | refine Lo.agg _ ?_ | refine Lo.ref _ ?_ | refine Lo.tup _ ?_ | refine Lo.fn _ _ ?_ | refine Lo.sl _ ?_ | intro _)), .lo _ (by repeat' (first | exact Lo.s _ | exact Lo.emp | exact Lo.any | exact lo_nil | exact lo_nilE | refine lo_cons ?_ ?_ | refine lo_consE ?_ ?_ | refine lo_map ?_ | refine lo_mapE ?_ | refine Lo.cells ?_ | refine Lo.agg _ ?_ | refine Lo.ref _ ?_ | refine Lo.tup _ ?_ | refine Lo.fn _ _ ?_ | refine Lo.sl _ ?_ | intro _)), trivial⟩⟩
      · exact ⟨(j + 1, (q.1 ++ [(w : Int)], q.2.set w true), 0, cs.drop o ++ [(w : Int)]), ⟨hB2, hg2, hE, by show (cs.drop o ++ [(w : Int)]).drop 0 = (q.1 ++ [(w : Int)]).drop i; rw [List.drop_zero, List.drop_append_of_le_length (by omega), hd], by show 0 + ((q.1 ++ [(w : Int)]).length - i) = (cs.drop o ++ [(w : Int)]).length; rw [hql, hd]; simp, by show j + 1 ≤ X.length; omega⟩, by show X.length - (j + 1) < X.length - j; omega, kwk_st [0, 3] rfl (by decide) ⟨⟨_, rfl, .rowE (rowB_lo _) hmet.symm⟩, ⟨_, rfl, .rowE (rowI_lo _) (by rw [List.map_append, List.map_drop, ← hw]; rfl)⟩, trivial⟩ ⟨.lo _ hlw, .own 0 0 1 _ _ rfl rfl, .sub 3 1 1 _ _ _ _ rfl rfl hql.symm, .lo _ (lo_Mvs _), .lo _ (by repeat' (first | exact Lo.s _ | exact Lo.emp | exact Lo.any | exact lo_nil | exact lo_nilE | refine lo_cons ?_ ?_ | refine lo_consE ?_ ?_ | refine lo_map ?_ | refine lo_mapE ?_ | refine Lo.cells ?_ | refine Lo.agg _ ?_ | refine Lo.ref _ ?_ | refine Lo.tup _ ?_ | refine Lo.fn _ _ ?_ | refine Lo.sl _ ?_ | intro _)), .lo _ (by repeat' (first | exact Lo.s _ | exact Lo.emp | exact Lo.any | exact lo_nil | exact lo_nilE | refine lo_cons ?_ ?_ | refine lo_consE ?_ ?_ | refine lo_map ?_ | refine lo_mapE ?_ | refine Lo.cells ?_ | refine Lo.agg _ ?_ | refine Lo.ref _ ?_ | refine Lo.tup _ ?_ | refine Lo.fn _ _ ?_ | refine Lo.sl _ ?_ | intro _)), trivial⟩⟩
  · rw [if_neg (fun h => hsl h.1)] at hstep
    subst hstep
    all_goals refine kw_draw hmix ?_
    all_goals refine kdraw_ex ?_
    all_goals (first | refine ex_free rfl rfl (runs_none rfl) (fun _ => (mv_ptr (.inl rfl) rfl)) ?_ | refine ex_free rfl rfl (runs_none rfl) (fun _ => (mv_ref (.inl rfl) rfl)) ?_ | refine ex_free rfl rfl (runs_none rfl) (fun _ => (mv_s (.inl rfl) rfl)) ?_)
    all_goals (first | refine ex_free rfl rfl (runs_none rfl) (fun _ => (does_nil_ptr rfl rfl)) ?_ | refine ex_free rfl rfl (runs_none rfl) (fun _ => (does_nil_ref rfl rfl)) ?_ | refine ex_free rfl rfl (runs_none rfl) (fun _ => (does_nil_fn rfl rfl)) ?_)
    all_goals (first | refine ex_free rfl rfl (runs_none rfl) (fun _ => (does_fieldAddr_ptr rfl tf99_0 (by decide) rfl)) ?_ | refine ex_free rfl rfl (runs_none rfl) (fun _ => (does_fieldAddr_ref rfl tf99_0 (by decide) rfl)) ?_)
    all_goals (first | refine ex_free rfl rfl (runs_none rfl) (fun _ => (does_fieldAddr_ptr rfl tf24_1 (by decide) rfl)) ?_ | refine ex_free rfl rfl (runs_none rfl) (fun _ => (does_fieldAddr_ref rfl tf24_1 (by decide) rfl)) ?_)
    all_goals (first | refine ex_free rfl rfl (runs_none rfl) (fun _ => (does_load_ref rfl ta22 rfl)) ?_ | refine ex_look rfl rfl (runs_none rfl) (look_ptr rfl ta22 rfl rfl rfl rfl rfl) ?_)
    all_goals (first | refine ex_free rfl rfl (runs_none rfl) (fun _ => (does_fieldAddr_ptr rfl tf56_2 (by decide) rfl)) ?_ | refine ex_free rfl rfl (runs_none rfl) (fun _ => (does_fieldAddr_ref rfl tf56_2 (by decide) rfl)) ?_)
    all_goals (first | refine ex_free rfl rfl (runs_none rfl) (fun _ => (does_load_ref rfl ta3 rfl)) ?_ | refine ex_look rfl rfl (runs_none rfl) (look_ptr rfl ta3 rfl rfl rfl rfl rfl) ?_)
    all_goals (first | refine ex_free rfl rfl (runs_none rfl) (fun _ => (does_index_sl rfl ts22 ti59 rfl rfl hy hixt rfl)) ?_ | refine ex_free rfl rfl (runs_none rfl) (fun _ => (does_index_own rfl ts22 ti59 rfl rfl hy hixt)) ?_ | refine ex_free rfl rfl (runs_none rfl) (fun _ => (does_index_sub rfl ts22 ti59 rfl rfl hy hixt)) ?_)
    all_goals (first | refine ex_free rfl rfl (runs_none rfl) (fun _ => (does_fieldAddr_ptr rfl tf59_0 (by decide) rfl)) ?_ | refine ex_free rfl rfl (runs_none rfl) (fun _ => (does_fieldAddr_ref rfl tf59_0 (by decide) rfl)) ?_)
    all_goals (first | refine ex_free rfl rfl (runs_none rfl) (fun _ => (does_load_ref rfl ta9 rfl)) ?_ | refine ex_look rfl rfl (runs_none rfl) (look_ptr rfl ta9 rfl rfl rfl rfl rfl) ?_)
    all_goals refine ex_free rfl rfl (runs_none rfl) (fun _ => (dec_f hsl (does_eqs rfl rfl rfl))) ?_
    all_goals refine ex_free rfl rfl (runs_none rfl) (fun _ => (mv_s (.inl rfl) rfl)) ?_
    all_goals (first | refine ex_free rfl rfl (runs_y rfl rfl rfl) (fun _ => (mv_own (.inl rfl) rfl)) ?_ | refine ex_free rfl rfl (runs_y rfl rfl rfl) (fun _ => (mv_sl (.inl rfl) rfl)) ?_ | refine ex_free rfl rfl (runs_y rfl rfl rfl) (fun _ => (mv_s (.inl rfl) rfl)) ?_ | refine ex_free rfl rfl (runs_y rfl rfl rfl) (fun _ => (mv_emp (.inl rfl) rfl)) ?_ | refine ex_free rfl rfl (runs_y rfl rfl rfl) (fun _ => (mv_sub (.inl rfl) rfl)) ?_ | refine ex_skip rfl rfl (runs_nt rfl rfl rfl) ?_ | refine ex_skip rfl rfl (runs_nu rfl rfl rfl) ?_)
    all_goals (first | refine ex_free rfl rfl (runs_y rfl rfl rfl) (fun _ => (does_fieldAddr_ptr rfl tf56_1 (by decide) rfl)) ?_ | refine ex_free rfl rfl (runs_y rfl rfl rfl) (fun _ => (does_fieldAddr_ref rfl tf56_1 (by decide) rfl)) ?_ | refine ex_skip rfl rfl (runs_nt rfl rfl rfl) ?_ | refine ex_skip rfl rfl (runs_nu rfl rfl rfl) ?_)
    all_goals (first | refine ex_free rfl rfl (runs_y rfl rfl rfl) (fun _ => (does_load_ref rfl ta3 rfl)) ?_ | refine ex_look rfl rfl (runs_y rfl rfl rfl) (look_ptr rfl ta3 rfl rfl rfl rfl rfl) ?_ | refine ex_skip rfl rfl (runs_nt rfl rfl rfl) ?_ | refine ex_skip rfl rfl (runs_nu rfl rfl rfl) ?_)
    all_goals (first | refine ex_free rfl rfl (runs_y rfl rfl rfl) (fun _ => (does_index_sl rfl ts81 ti4 rfl rfl rfl (ix_map (by omega)) rfl)) ?_ | refine ex_free rfl rfl (runs_y rfl rfl rfl) (fun _ => (does_index_own rfl ts81 ti4 rfl rfl rfl (by omega))) ?_ | refine ex_free rfl rfl (runs_y rfl rfl rfl) (fun _ => (does_index_sub rfl ts81 ti4 rfl rfl rfl (by omega))) ?_ | refine ex_skip rfl rfl (runs_nt rfl rfl rfl) ?_ | refine ex_skip rfl rfl (runs_nu rfl rfl rfl) ?_)
    all_goals (first | refine ex_free rfl rfl (runs_y rfl rfl rfl) (fun _ => (does_load_ref rfl ta4 rfl)) ?_ | refine ex_look rfl rfl (runs_y rfl rfl rfl) (look_ptr rfl ta4 rfl rfl rfl rfl rfl) ?_ | refine ex_skip rfl rfl (runs_nt rfl rfl rfl) ?_ | refine ex_skip rfl rfl (runs_nu rfl rfl rfl) ?_)
    all_goals (first | refine ex_free rfl rfl (runs_y rfl rfl rfl) (fun _ => (does_notp rfl rfl)) ?_ | refine ex_free rfl rfl (runs_y rfl rfl rfl) (fun _ => (does_not rfl rfl)) ?_ | refine ex_skip rfl rfl (runs_nt rfl rfl rfl) ?_ | refine ex_skip rfl rfl (runs_nu rfl rfl rfl) ?_)
    all_goals (first | refine ex_free rfl rfl (runs_none rfl) (fun _ => (pickT_s rfl rfl rfl)) ?_ | refine ex_free rfl rfl (runs_none rfl) (fun _ => (pickF_s rfl rfl rfl)) ?_ | refine ex_free rfl rfl (runs_none rfl) (fun _ => (does_pickT rfl rfl rfl)) ?_ | refine ex_free rfl rfl (runs_none rfl) (fun _ => (does_pickF rfl rfl rfl)) ?_)
    all_goals refine ex_nil (by kernel_rfl) ?_
    all_goals (repeat (first | refine kw_seq ?_ | refine ath_n ?_ | refine kw_skip ?_ | refine abl_n ?_ | refine kw_block ?_))
    refine kw_false rfl ?_
    repeat (first | refine kw_seq ?_ | refine ath_n ?_ | refine kw_skip ?_ | refine abl_n ?_ | refine kw_block ?_)
    all_goals refine kw_region ?_
    all_goals refine kops_op rfl rfl (runs_none rfl) (does_add rfl rfl rfl (IntWalk.i64_in _ (by omega))) ?_
    all_goals refine kops_op rfl rfl (runs_none rfl) (mv_s (.inl rfl) rfl) ?_
    all_goals refine kops_nil ?_
    all_goals (repeat (first | refine kw_seq ?_ | refine ath_n ?_ | refine kw_skip ?_ | refine abl_n ?_ | refine kw_block ?_))
    exact ⟨(j + 1, q1, o, cs), ⟨hB2, hlt, hE, hd, hl, by show j + 1 ≤ X.length; omega⟩, by show X.length - (j + 1) < X.length - j; omega, kwk_st [0, 1] rfl (by decide) ⟨⟨_, rfl, .rowE (rowB_lo _) rfl⟩, ⟨_, rfl, .rowE (rowI_lo _) rfl⟩, trivial⟩ ⟨.lo _ hlw, .own 0 0 1 _ _ rfl rfl, .sub 1 1 1 _ _ _ _ rfl rfl rfl, .lo _ (lo_Mvs _), .lo _ (by repeat' (first | exact Lo.s _ | exact Lo.emp | exact Lo.any | exact lo_nil | exact lo_nilE | refine lo_cons ?_ ?_ | refine lo_consE ?_ ?_ | refine lo_map ?_ | refine lo_mapE ?_ | refine Lo.cells ?_ | refine Lo.agg _ ?_ | refine Lo.ref _ ?_ | refine Lo.tup _ ?_ | refine Lo.fn _ _ ?_ | refine Lo.sl _ ?_ | intro _)), .lo _ (by repeat' (first | exact Lo.s _ | exact Lo.emp | exact Lo.any | exact lo_nil | exact lo_nilE | refine lo_cons ?_ ?_ | refine lo_consE ?_ ?_ | refine lo_map ?_ | refine lo_mapE ?_ | refine Lo.cells ?_ | refine Lo.agg _ ?_ | refine Lo.ref _ ?_ | refine Lo.tup _ ?_ | refine Lo.fn _ _ ?_ | refine Lo.sl _ ?_ | intro _)), trivial⟩⟩
theorem falseL_set (N : Nat) (h : 0 < N) : ((List.replicate N false).set 0 true).map eB = (List.replicate N (AV.s (.bool false))).set 0 (AV.s (.bool true)) := by
  rw [List.map_set, List.map_replicate]; rfl
theorem start_pf (n : Net) (s : Spc) (fin : Int) (hm : MvOk n s) (hN : s.st.length ≤ 2000) (hN1 : 1 ≤ s.st.length) (hmv : s.mv.length ≤ 20000) : Pure P 57 [.ref (wkC n s fin)] (eL eB (startE n s)) := by
  have hlw := lo_wk n s fin
  have hl0 : ((List.replicate s.st.length false).set 0 true).length = s.st.length := by simp
  have hc := close_call (P := P) n s fin hm hN hmv _ hl0
  have hlen : startE n s = closeE n s.mv ((List.replicate s.st.length false).set 0 true) := rfl
  have hcl : (startE n s).length = s.st.length := closeE_len (fun k hk => by obtain ⟨_, _, h1, h2, _⟩ := hm k hk; omega) hl0
  rw [← hlen, hl0, falseL_set _ hN1] at hc
  generalize startE n s = R at hc hcl ⊢
  have h0 : (List.replicate s.st.length (AV.s (.bool false)))[0]? = some (AV.s (.bool false)) := by rw [List.getElem?_replicate, if_pos (by omega)]
  refine aw_fn (by rw [IsP.eq (P := P)]; exact Try.func57) rfl rfl rfl rfl rfl (lo_cons hlw lo_nil) (lo_map fun _ => .s _) (by simp only [argF]; rfl) ?_
  repeat (first | refine aw_seq ?_ | refine ath_n ?_ | refine aw_skip ?_ | refine abl_n ?_ | refine aw_block ?_)
  refine aw_region ?_
  first | refine ops_op rfl rfl (runs_none rfl) (mv_own (.inr rfl) rfl) ?_ | refine ops_op rfl rfl (runs_none rfl) (mv_sl (.inr rfl) rfl) ?_ | refine ops_op rfl rfl (runs_none rfl) (mv_s (.inr rfl) rfl) ?_ | refine ops_op rfl rfl (runs_none rfl) (mv_emp (.inr rfl) rfl) ?_ | refine ops_op rfl rfl (runs_none rfl) (mv_sub (.inr rfl) rfl) ?_
  refine ops_nil ?_
  repeat (first | refine aw_seq ?_ | refine ath_n ?_ | refine aw_skip ?_ | refine abl_n ?_ | refine aw_block ?_)
  refine aw_region ?_
  first | refine ops_op rfl rfl (runs_none rfl) (mv_ptr (.inl rfl) rfl) ?_ | refine ops_op rfl rfl (runs_none rfl) (mv_ref (.inl rfl) rfl) ?_ | refine ops_op rfl rfl (runs_none rfl) (mv_s (.inl rfl) rfl) ?_
  first | refine ops_op rfl rfl (runs_none rfl) (does_nil_ptr rfl rfl) ?_ | refine ops_op rfl rfl (runs_none rfl) (does_nil_ref rfl rfl) ?_ | refine ops_op rfl rfl (runs_none rfl) (does_nil_fn rfl rfl) ?_
  first | refine ops_op rfl rfl (runs_none rfl) (does_fieldAddr_ptr rfl tf99_1 (by decide) rfl) ?_ | refine ops_op rfl rfl (runs_none rfl) (does_fieldAddr_ref rfl tf99_1 (by decide) rfl) ?_
  first | refine ops_op rfl rfl (runs_none rfl) (does_fieldAddr_ptr rfl tf29_0 (by decide) rfl) ?_ | refine ops_op rfl rfl (runs_none rfl) (does_fieldAddr_ref rfl tf29_0 (by decide) rfl) ?_
  first | refine ops_op rfl rfl (runs_none rfl) (does_load_ref rfl ta26 rfl) ?_ | refine ops_op rfl rfl (runs_none rfl) (does_load_ptr rfl ta26 rfl rfl rfl rfl rfl) ?_
  first | refine ops_op rfl rfl (runs_none rfl) (does_len_map rfl ts26 rfl) ?_ | refine ops_op rfl rfl (runs_none rfl) (does_len_sl rfl ts26 rfl) ?_ | refine ops_op rfl rfl (runs_none rfl) (does_len_own rfl ts26 rfl) ?_ | refine ops_op rfl rfl (runs_none rfl) (does_len_s rfl ts26 rfl) ?_ | refine ops_op rfl rfl (runs_none rfl) (does_len_emp rfl ts26 rfl) ?_ | refine ops_op rfl rfl (runs_none rfl) (does_len_sub rfl ts26 rfl) ?_
  refine ops_op rfl rfl (runs_none rfl) (does_make rfl ts81 ti4 rfl rfl (by decide) rfl rfl rfl rfl (by omega) (by omega) (by omega)) ?_
  first | refine ops_op rfl rfl (runs_none rfl) (mv_own (.inr rfl) rfl) ?_ | refine ops_op rfl rfl (runs_none rfl) (mv_sl (.inr rfl) rfl) ?_ | refine ops_op rfl rfl (runs_none rfl) (mv_s (.inr rfl) rfl) ?_ | refine ops_op rfl rfl (runs_none rfl) (mv_emp (.inr rfl) rfl) ?_ | refine ops_op rfl rfl (runs_none rfl) (mv_sub (.inr rfl) rfl) ?_
  refine ops_nil ?_
  repeat (first | refine aw_seq ?_ | refine ath_n ?_ | refine aw_skip ?_ | refine abl_n ?_ | refine aw_block ?_)
  refine aw_bdm (d := 8) rfl (fun _ => ?_)
  refine aw_region ?_
  first | refine ops_op rfl rfl (runs_none rfl) (mv_own (.inl rfl) rfl) ?_ | refine ops_op rfl rfl (runs_none rfl) (mv_sl (.inl rfl) rfl) ?_ | refine ops_op rfl rfl (runs_none rfl) (mv_s (.inl rfl) rfl) ?_ | refine ops_op rfl rfl (runs_none rfl) (mv_emp (.inl rfl) rfl) ?_ | refine ops_op rfl rfl (runs_none rfl) (mv_sub (.inl rfl) rfl) ?_
  first | refine ops_op rfl rfl (runs_none rfl) (does_index_sl rfl ts81 ti4 rfl rfl rfl hN1 rfl) ?_ | refine ops_op rfl rfl (runs_none rfl) (does_index_own rfl ts81 ti4 rfl rfl rfl hN1) ?_ | refine ops_op rfl rfl (runs_none rfl) (does_index_sub rfl ts81 ti4 rfl rfl rfl hN1) ?_
  refine ops_eff rfl (runs_none rfl) (does_store rfl ti4 rfl rfl rfl h0 rfl rfl (by decide) (by decide)) ?_
  refine ops_nil ?_
  repeat (first | refine aw_seq ?_ | refine ath_n ?_ | refine aw_skip ?_ | refine abl_n ?_ | refine aw_block ?_)
  all_goals refine aw_region ?_
  all_goals (first | refine ops_op rfl rfl (runs_none rfl) (mv_ptr (.inl rfl) rfl) ?_ | refine ops_op rfl rfl (runs_none rfl) (mv_ref (.inl rfl) rfl) ?_ | refine ops_op rfl rfl (runs_none rfl) (mv_s (.inl rfl) rfl) ?_)
  all_goals (first | refine ops_op rfl rfl (runs_none rfl) (mv_own (.inl rfl) rfl) ?_ | refine ops_op rfl rfl (runs_none rfl) (mv_sl (.inl rfl) rfl) ?_ | refine ops_op rfl rfl (runs_none rfl) (mv_s (.inl rfl) rfl) ?_ | refine ops_op rfl rfl (runs_none rfl) (mv_emp (.inl rfl) rfl) ?_ | refine ops_op rfl rfl (runs_none rfl) (mv_sub (.inl rfl) rfl) ?_)
  all_goals refine ops_callR rfl rfl (runs_none rfl) rfl rfl hc rfl (by repeat (first | exact hF_nil | refine hF_cons (by first | exact lo_up hlw | exact .own _ _ _ (by decide) | exact .s _ | exact .ptr _ _ _ _ (by decide) | exact lo_up (by repeat' (first | exact Lo.s _ | exact Lo.emp | exact Lo.any | exact lo_nil | exact lo_nilE | refine lo_cons ?_ ?_ | refine lo_consE ?_ ?_ | refine lo_map ?_ | refine lo_mapE ?_ | refine Lo.cells ?_ | refine Lo.agg _ ?_ | refine Lo.ref _ ?_ | refine Lo.tup _ ?_ | refine Lo.fn _ _ ?_ | refine Lo.sl _ ?_ | intro _))) ?_)) ?_
  all_goals (first | refine ops_op rfl rfl (runs_none rfl) (mv_own (.inr rfl) rfl) ?_ | refine ops_op rfl rfl (runs_none rfl) (mv_sl (.inr rfl) rfl) ?_ | refine ops_op rfl rfl (runs_none rfl) (mv_s (.inr rfl) rfl) ?_ | refine ops_op rfl rfl (runs_none rfl) (mv_emp (.inr rfl) rfl) ?_ | refine ops_op rfl rfl (runs_none rfl) (mv_sub (.inr rfl) rfl) ?_)
  all_goals refine ops_nil ?_
  all_goals (repeat (first | refine aw_seq ?_ | refine ath_n ?_ | refine aw_skip ?_ | refine abl_n ?_ | refine aw_block ?_))
  (refine aw_ret ?_; repeat (first | refine ath_r ?_ | refine abl_r ?_))
  exact post1f (.inr rfl) rfl (.own _ _ _ _ _ rfl rfl (by rw [List.length_map, hcl]))
set_option maxHeartbeats 4000000 in
theorem step_pf (n : Net) (s : Spc) (fin : Int) (hm : MvOk n s) (hN : s.st.length ≤ 2000) (hmv : s.mv.length ≤ 20000) (set : List Bool) (hs : set.length = s.st.length) (act : ByteArray) : Pure P 58 [.ref (wkC n s fin), eL eB set, eS act] (eL eB (stepE n s.mv act set)) := by
  have hlw := lo_wk n s fin
  have hmr : ∀ k, k < s.mv.length → 0 ≤ (gti s.mv k).tt ∧ (gti s.mv k).tt < (s.st.length : Int) := fun k hk => by obtain ⟨_, _, h1, h2, _⟩ := hm k hk; omega
  have hl0 : (nextE n s.mv act set set.length).length = s.st.length := by rw [nextE_len, hs]
  have hc := close_call (P := P) n s fin hm hN hmv _ hl0
  have hlen : stepE n s.mv act set = closeE n s.mv (nextE n s.mv act set set.length) := rfl
  have hcl : (stepE n s.mv act set).length = s.st.length := closeE_len hmr hl0
  rw [← hlen, hl0] at hc
  generalize stepE n s.mv act set = R at hc hcl ⊢
  obtain ⟨N, hNe⟩ : ∃ N, N = s.st.length := ⟨_, rfl⟩
  rw [← hNe] at hs hcl hc hl0
  have hlB : Lo 0 (eL eB set) := lo_map fun _ => .s _
  refine aw_fn (by rw [IsP.eq (P := P)]; exact Try.func58) rfl rfl rfl rfl rfl (lo_cons hlw (lo_cons (lo_map fun _ => .s _) (lo_cons (.s _) lo_nil))) (lo_map fun _ => .s _) (by simp only [argF]; rfl) ?_
  repeat (first | refine aw_seq ?_ | refine ath_n ?_ | refine aw_skip ?_ | refine abl_n ?_ | refine aw_block ?_)
  refine aw_region ?_
  first | refine ops_op rfl rfl (runs_none rfl) (mv_own (.inr rfl) rfl) ?_ | refine ops_op rfl rfl (runs_none rfl) (mv_sl (.inr rfl) rfl) ?_ | refine ops_op rfl rfl (runs_none rfl) (mv_s (.inr rfl) rfl) ?_ | refine ops_op rfl rfl (runs_none rfl) (mv_emp (.inr rfl) rfl) ?_ | refine ops_op rfl rfl (runs_none rfl) (mv_sub (.inr rfl) rfl) ?_
  refine ops_nil ?_
  repeat (first | refine aw_seq ?_ | refine ath_n ?_ | refine aw_skip ?_ | refine abl_n ?_ | refine aw_block ?_)
  refine aw_region ?_
  first | refine ops_op rfl rfl (runs_none rfl) (mv_own (.inl rfl) rfl) ?_ | refine ops_op rfl rfl (runs_none rfl) (mv_sl (.inl rfl) rfl) ?_ | refine ops_op rfl rfl (runs_none rfl) (mv_s (.inl rfl) rfl) ?_ | refine ops_op rfl rfl (runs_none rfl) (mv_emp (.inl rfl) rfl) ?_ | refine ops_op rfl rfl (runs_none rfl) (mv_sub (.inl rfl) rfl) ?_
  first | refine ops_op rfl rfl (runs_none rfl) (does_len_map rfl ts81 rfl) ?_ | refine ops_op rfl rfl (runs_none rfl) (does_len_sl rfl ts81 rfl) ?_ | refine ops_op rfl rfl (runs_none rfl) (does_len_own rfl ts81 rfl) ?_ | refine ops_op rfl rfl (runs_none rfl) (does_len_s rfl ts81 rfl) ?_ | refine ops_op rfl rfl (runs_none rfl) (does_len_emp rfl ts81 rfl) ?_ | refine ops_op rfl rfl (runs_none rfl) (does_len_sub rfl ts81 rfl) ?_
  refine ops_op rfl rfl (runs_none rfl) (does_make rfl ts81 ti4 rfl rfl (by decide) rfl rfl rfl rfl (by omega) (by omega) (by omega)) ?_
  first | refine ops_op rfl rfl (runs_none rfl) (mv_own (.inr rfl) rfl) ?_ | refine ops_op rfl rfl (runs_none rfl) (mv_sl (.inr rfl) rfl) ?_ | refine ops_op rfl rfl (runs_none rfl) (mv_s (.inr rfl) rfl) ?_ | refine ops_op rfl rfl (runs_none rfl) (mv_emp (.inr rfl) rfl) ?_ | refine ops_op rfl rfl (runs_none rfl) (mv_sub (.inr rfl) rfl) ?_
  refine ops_nil ?_
  repeat (first | refine aw_seq ?_ | refine ath_n ?_ | refine aw_skip ?_ | refine abl_n ?_ | refine aw_block ?_)
  refine aw_region ?_
  first | refine ops_op rfl rfl (runs_none rfl) (mv_own (.inl rfl) rfl) ?_ | refine ops_op rfl rfl (runs_none rfl) (mv_sl (.inl rfl) rfl) ?_ | refine ops_op rfl rfl (runs_none rfl) (mv_s (.inl rfl) rfl) ?_ | refine ops_op rfl rfl (runs_none rfl) (mv_emp (.inl rfl) rfl) ?_ | refine ops_op rfl rfl (runs_none rfl) (mv_sub (.inl rfl) rfl) ?_
  first | refine ops_op rfl rfl (runs_none rfl) (does_len_map rfl ts81 rfl) ?_ | refine ops_op rfl rfl (runs_none rfl) (does_len_sl rfl ts81 rfl) ?_ | refine ops_op rfl rfl (runs_none rfl) (does_len_own rfl ts81 rfl) ?_ | refine ops_op rfl rfl (runs_none rfl) (does_len_s rfl ts81 rfl) ?_ | refine ops_op rfl rfl (runs_none rfl) (does_len_emp rfl ts81 rfl) ?_ | refine ops_op rfl rfl (runs_none rfl) (does_len_sub rfl ts81 rfl) ?_
  refine ops_op rfl rfl (runs_none rfl) (mv_s (.inl rfl) rfl) ?_
  refine ops_nil ?_
  repeat (first | refine aw_seq ?_ | refine ath_n ?_ | refine aw_skip ?_ | refine abl_n ?_ | refine aw_block ?_)
  rw [hs]
  refine aw_loops (S := Nat) (fun k => [(0, .ref (wkC n s fin)), (2, eS act), (7, .own 0 1 N), (15, eL eB set), (16, eI N), (17, eI k)]) (fun k => [.row 1 ((nextE n s.mv act set k).map eB)]) (fun k => k ≤ N) (fun k => N - k) 0
    (wk_st [0] (by decide) ⟨⟨_, rfl, .rowE (rowB_lo _) (by unfold nextE; rw [List.map_replicate, hs]; rfl)⟩, trivial⟩ ⟨.lo _ hlw, .lo _ (by repeat' (first | exact Lo.s _ | exact Lo.emp | exact Lo.any | exact lo_nil | exact lo_nilE | refine lo_cons ?_ ?_ | refine lo_consE ?_ ?_ | refine lo_map ?_ | refine lo_mapE ?_ | refine Lo.cells ?_ | refine Lo.agg _ ?_ | refine Lo.ref _ ?_ | refine Lo.tup _ ?_ | refine Lo.fn _ _ ?_ | refine Lo.sl _ ?_ | intro _)), .own 0 0 1 _ _ rfl rfl, .lo _ hlB, .lo _ (by repeat' (first | exact Lo.s _ | exact Lo.emp | exact Lo.any | exact lo_nil | exact lo_nilE | refine lo_cons ?_ ?_ | refine lo_consE ?_ ?_ | refine lo_map ?_ | refine lo_mapE ?_ | refine Lo.cells ?_ | refine Lo.agg _ ?_ | refine Lo.ref _ ?_ | refine Lo.tup _ ?_ | refine Lo.fn _ _ ?_ | refine Lo.sl _ ?_ | intro _)), .lo _ (by repeat' (first | exact Lo.s _ | exact Lo.emp | exact Lo.any | exact lo_nil | exact lo_nilE | refine lo_cons ?_ ?_ | refine lo_consE ?_ ?_ | refine lo_map ?_ | refine lo_mapE ?_ | refine Lo.cells ?_ | refine Lo.agg _ ?_ | refine Lo.ref _ ?_ | refine Lo.tup _ ?_ | refine Lo.fn _ _ ?_ | refine Lo.sl _ ?_ | intro _)), trivial⟩) (Nat.zero_le _) (fun k hk => ?_)
  repeat (first | refine aw_seq ?_ | refine ath_n ?_ | refine aw_skip ?_ | refine abl_n ?_ | refine aw_block ?_)
  all_goals refine aw_region ?_
  all_goals (first | refine ops_opP rfl rfl (runs_none rfl) (does_lss rfl rfl rfl) (fun h18 => ?_) (fun h18 => ?_) | refine ops_opB rfl rfl (runs_none rfl) (does_lss rfl rfl rfl) (fun h18 => ?_) (fun h18 => ?_))
  all_goals refine ops_nil ?_
  all_goals (repeat (first | refine aw_seq ?_ | refine ath_n ?_ | refine aw_skip ?_ | refine abl_n ?_ | refine aw_block ?_))
  all_goals (first | refine aw_true rfl ?_ | refine aw_false rfl ?_)
  all_goals (repeat (first | refine aw_seq ?_ | refine ath_n ?_ | refine aw_skip ?_ | refine abl_n ?_ | refine aw_block ?_))
  · have hkt : k < N := by omega
    have hel : (set.map eB)[k]? = some (eB (gti set k)) := ix_map (by omega)
    have hnx : nextE n s.mv act set (k + 1) = if gti set k = true then hitE n s.mv act (ixs s.mv k s.mv.length) (nextE n s.mv act set k) else nextE n s.mv act set k := rfl
    have hnl := nextE_len n s.mv act set k
    rw [hs] at hnl
    generalize gti set k = b at hel hnx
    refine aw_region ?_
    refine ops_op rfl rfl (runs_none rfl) (mv_s (.inl rfl) rfl) ?_
    first | refine ops_op rfl rfl (runs_none rfl) (does_index_sl rfl ts81 ti4 rfl rfl rfl hel rfl) ?_ | refine ops_op rfl rfl (runs_none rfl) (does_index_own rfl ts81 ti4 rfl rfl rfl hel) ?_ | refine ops_op rfl rfl (runs_none rfl) (does_index_sub rfl ts81 ti4 rfl rfl rfl hel) ?_
    first | refine ops_op rfl rfl (runs_none rfl) (does_load_ref rfl ta4 rfl) ?_ | refine ops_op rfl rfl (runs_none rfl) (does_load_ptr rfl ta4 rfl rfl rfl rfl rfl) ?_
    refine ops_op rfl rfl (runs_none rfl) (mv_s (.inr rfl) rfl) ?_
    refine ops_op rfl rfl (runs_none rfl) (mv_s (.inr rfl) rfl) ?_
    refine ops_nil ?_
    repeat (first | refine aw_seq ?_ | refine ath_n ?_ | refine aw_skip ?_ | refine abl_n ?_ | refine aw_block ?_)
    refine aw_region ?_
    refine ops_op rfl rfl (runs_none rfl) (mv_s (.inl rfl) rfl) ?_
    first | refine ops_op rfl rfl (runs_none rfl) (does_notp rfl rfl) ?_ | refine ops_op rfl rfl (runs_none rfl) (does_not rfl rfl) ?_
    refine ops_nil ?_
    repeat (first | refine aw_seq ?_ | refine ath_n ?_ | refine aw_skip ?_ | refine abl_n ?_ | refine aw_block ?_)
    cases b
    · rw [if_neg (by simp)] at hnx
      refine aw_true rfl ?_
      repeat (first | refine aw_seq ?_ | refine ath_n ?_ | refine aw_skip ?_ | refine abl_n ?_ | refine aw_block ?_)
      (refine aw_exit ?_; repeat (first | refine ath_x ?_ | refine abl_hit ?_ | refine abl_miss rfl ?_ | refine abl_n ?_ | refine ath_n ?_ | refine aw_seq ?_ | refine aw_skip ?_ | refine aw_block ?_))
      refine aw_region ?_
      refine ops_op rfl rfl (runs_none rfl) (does_add rfl rfl rfl (IntWalk.i64_in _ (by omega))) ?_
      refine ops_op rfl rfl (runs_none rfl) (mv_s (.inl rfl) rfl) ?_
      refine ops_nil ?_
      repeat (first | refine aw_seq ?_ | refine ath_n ?_ | refine aw_skip ?_ | refine abl_n ?_ | refine aw_block ?_)
      exact ⟨k + 1, by omega, by omega, wk_st [0] (by decide) ⟨⟨_, rfl, .rowE (rowB_lo _) (by rw [hnx])⟩, trivial⟩ ⟨.lo _ hlw, .lo _ (by repeat' (first | exact Lo.s _ | exact Lo.emp | exact Lo.any | exact lo_nil | exact lo_nilE | refine lo_cons ?_ ?_ | refine lo_consE ?_ ?_ | refine lo_map ?_ | refine lo_mapE ?_ | refine Lo.cells ?_ | refine Lo.agg _ ?_ | refine Lo.ref _ ?_ | refine Lo.tup _ ?_ | refine Lo.fn _ _ ?_ | refine Lo.sl _ ?_ | intro _)), .own 0 0 1 _ _ rfl rfl, .lo _ hlB, .lo _ (by repeat' (first | exact Lo.s _ | exact Lo.emp | exact Lo.any | exact lo_nil | exact lo_nilE | refine lo_cons ?_ ?_ | refine lo_consE ?_ ?_ | refine lo_map ?_ | refine lo_mapE ?_ | refine Lo.cells ?_ | refine Lo.agg _ ?_ | refine Lo.ref _ ?_ | refine Lo.tup _ ?_ | refine Lo.fn _ _ ?_ | refine Lo.sl _ ?_ | intro _)), .lo _ (by repeat' (first | exact Lo.s _ | exact Lo.emp | exact Lo.any | exact lo_nil | exact lo_nilE | refine lo_cons ?_ ?_ | refine lo_consE ?_ ?_ | refine lo_map ?_ | refine lo_mapE ?_ | refine Lo.cells ?_ | refine Lo.agg _ ?_ | refine Lo.ref _ ?_ | refine Lo.tup _ ?_ | refine Lo.fn _ _ ?_ | refine Lo.sl _ ?_ | intro _)), trivial⟩⟩
    rw [if_pos rfl] at hnx
    refine aw_false rfl ?_
    repeat (first | refine aw_seq ?_ | refine ath_n ?_ | refine aw_skip ?_ | refine abl_n ?_ | refine aw_block ?_)
    have hkN : k < s.st.length := by omega
    have hXm := fun q (hq : q ∈ ixs s.mv k s.mv.length) => ixs_mem hq
    have hXl := ixs_len s.mv k s.mv.length
    refine aw_region ?_
    first | refine ops_op rfl rfl (runs_none rfl) (mv_ptr (.inl rfl) rfl) ?_ | refine ops_op rfl rfl (runs_none rfl) (mv_ref (.inl rfl) rfl) ?_ | refine ops_op rfl rfl (runs_none rfl) (mv_s (.inl rfl) rfl) ?_
    first | refine ops_op rfl rfl (runs_none rfl) (does_nil_ptr rfl rfl) ?_ | refine ops_op rfl rfl (runs_none rfl) (does_nil_ref rfl rfl) ?_ | refine ops_op rfl rfl (runs_none rfl) (does_nil_fn rfl rfl) ?_
    first | refine ops_op rfl rfl (runs_none rfl) (does_fieldAddr_ptr rfl tf99_2 (by decide) rfl) ?_ | refine ops_op rfl rfl (runs_none rfl) (does_fieldAddr_ref rfl tf99_2 (by decide) rfl) ?_
    first | refine ops_op rfl rfl (runs_none rfl) (does_load_ref rfl ta80 rfl) ?_ | refine ops_op rfl rfl (runs_none rfl) (does_load_ptr rfl ta80 rfl rfl rfl rfl rfl) ?_
    refine ops_op rfl rfl (runs_none rfl) (mv_s (.inl rfl) rfl) ?_
    first | refine ops_op rfl rfl (runs_none rfl) (does_index_sl rfl ts80 ti27 rfl rfl rfl (outsA_get hkN) rfl) ?_ | refine ops_op rfl rfl (runs_none rfl) (does_index_own rfl ts80 ti27 rfl rfl rfl (outsA_get hkN)) ?_ | refine ops_op rfl rfl (runs_none rfl) (does_index_sub rfl ts80 ti27 rfl rfl rfl (outsA_get hkN)) ?_
    first | refine ops_op rfl rfl (runs_none rfl) (does_load_ref rfl ta27 rfl) ?_ | refine ops_op rfl rfl (runs_none rfl) (does_load_ptr rfl ta27 rfl rfl rfl rfl rfl) ?_
    first | refine ops_op rfl rfl (runs_none rfl) (does_len_map rfl ts27 rfl) ?_ | refine ops_op rfl rfl (runs_none rfl) (does_len_sl rfl ts27 rfl) ?_ | refine ops_op rfl rfl (runs_none rfl) (does_len_own rfl ts27 rfl) ?_ | refine ops_op rfl rfl (runs_none rfl) (does_len_s rfl ts27 rfl) ?_ | refine ops_op rfl rfl (runs_none rfl) (does_len_emp rfl ts27 rfl) ?_ | refine ops_op rfl rfl (runs_none rfl) (does_len_sub rfl ts27 rfl) ?_
    refine ops_op rfl rfl (runs_none rfl) (mv_s (.inl rfl) rfl) ?_
    refine ops_nil ?_
    repeat (first | refine aw_seq ?_ | refine ath_n ?_ | refine aw_skip ?_ | refine abl_n ?_ | refine aw_block ?_)
    have hLX : outsL s.mv k s.mv.length = (ixs s.mv k s.mv.length).map (gti s.mv) := rfl
    rw [hLX]
    generalize ixs s.mv k s.mv.length = X at hnx hXm hXl
    clear hLX
    obtain ⟨W, hWe⟩ : ∃ W, nextE n s.mv act set (k + 1) = W := ⟨_, rfl⟩
    rw [hWe] at hnx
    refine aw_loops (S := Nat × List Bool) (fun p => [(0, .ref (wkC n s fin)), (2, eS act), (7, .own 0 1 N), (15, eL eB set), (16, eI N), (17, eI k), (30, eL eMv (X.map (gti s.mv))), (31, eI (X.map (gti s.mv)).length), (32, eI p.1)]) (fun p => [.row 1 (p.2.map eB)]) (fun p => p.1 ≤ X.length ∧ p.2.length = N ∧ W = hitE n s.mv act (X.drop p.1) p.2) (fun p => X.length - p.1) (0, nextE n s.mv act set k)
      (wk_sub _ ⟨rfl, rfl, rfl, rfl, rfl, rfl, rfl, rfl, rfl, trivial⟩) ⟨Nat.zero_le _, hnl, hnx⟩ (fun p hp => ?_)
    clear hnx hnl
    obtain ⟨j, nx⟩ := p
    obtain ⟨hj, hnl, hE⟩ := hp
    replace hj : j ≤ X.length := hj
    replace hnl : nx.length = N := hnl
    replace hE : W = hitE n s.mv act (X.drop j) nx := hE
    have hLl : (X.map (gti s.mv)).length = X.length := by simp
    repeat (first | refine aw_seq ?_ | refine ath_n ?_ | refine aw_skip ?_ | refine abl_n ?_ | refine aw_block ?_)
    all_goals refine aw_region ?_
    all_goals (first | refine ops_opP rfl rfl (runs_none rfl) (does_lss rfl rfl rfl) (fun h33 => ?_) (fun h33 => ?_) | refine ops_opB rfl rfl (runs_none rfl) (does_lss rfl rfl rfl) (fun h33 => ?_) (fun h33 => ?_))
    all_goals refine ops_nil ?_
    all_goals (repeat (first | refine aw_seq ?_ | refine ath_n ?_ | refine aw_skip ?_ | refine abl_n ?_ | refine aw_block ?_))
    all_goals (first | refine aw_true rfl ?_ | refine aw_false rfl ?_)
    all_goals (repeat (first | refine aw_seq ?_ | refine ath_n ?_ | refine aw_skip ?_ | refine abl_n ?_ | refine aw_block ?_))
    all_goals dsimp only at h33
    rotate_left 1
    · have e : j = X.length := by omega
      subst e
      rw [List.drop_length] at hE
      replace hE : W = nx := hE
      (refine aw_exit ?_; repeat (first | refine ath_x ?_ | refine abl_hit ?_ | refine abl_miss rfl ?_ | refine abl_n ?_ | refine ath_n ?_ | refine aw_seq ?_ | refine aw_skip ?_ | refine aw_block ?_))
      refine aw_region ?_
      refine ops_op rfl rfl (runs_none rfl) (does_add rfl rfl rfl (IntWalk.i64_in _ (by omega))) ?_
      refine ops_op rfl rfl (runs_none rfl) (mv_s (.inl rfl) rfl) ?_
      refine ops_nil ?_
      repeat (first | refine aw_seq ?_ | refine ath_n ?_ | refine aw_skip ?_ | refine abl_n ?_ | refine aw_block ?_)
      exact ⟨k + 1, by omega, by omega, wk_st [0] (by decide) ⟨⟨_, rfl, .rowE (rowB_lo _) (by rw [hWe, hE])⟩, trivial⟩ ⟨.lo _ hlw, .lo _ (by repeat' (first | exact Lo.s _ | exact Lo.emp | exact Lo.any | exact lo_nil | exact lo_nilE | refine lo_cons ?_ ?_ | refine lo_consE ?_ ?_ | refine lo_map ?_ | refine lo_mapE ?_ | refine Lo.cells ?_ | refine Lo.agg _ ?_ | refine Lo.ref _ ?_ | refine Lo.tup _ ?_ | refine Lo.fn _ _ ?_ | refine Lo.sl _ ?_ | intro _)), .own 0 0 1 _ _ rfl rfl, .lo _ hlB, .lo _ (by repeat' (first | exact Lo.s _ | exact Lo.emp | exact Lo.any | exact lo_nil | exact lo_nilE | refine lo_cons ?_ ?_ | refine lo_consE ?_ ?_ | refine lo_map ?_ | refine lo_mapE ?_ | refine Lo.cells ?_ | refine Lo.agg _ ?_ | refine Lo.ref _ ?_ | refine Lo.tup _ ?_ | refine Lo.fn _ _ ?_ | refine Lo.sl _ ?_ | intro _)), .lo _ (by repeat' (first | exact Lo.s _ | exact Lo.emp | exact Lo.any | exact lo_nil | exact lo_nilE | refine lo_cons ?_ ?_ | refine lo_consE ?_ ?_ | refine lo_map ?_ | refine lo_mapE ?_ | refine Lo.cells ?_ | refine Lo.agg _ ?_ | refine Lo.ref _ ?_ | refine Lo.tup _ ?_ | refine Lo.fn _ _ ?_ | refine Lo.sl _ ?_ | intro _)), trivial⟩⟩
    have hjt : j < X.length := by omega
    have hix : ((X.map (gti s.mv)).map eMv)[j]? = some (eMv (gti s.mv (gti X j))) := by rw [List.getElem?_map, List.getElem?_map, gti_get hjt]; rfl
    obtain ⟨hkN2, hkf⟩ := hXm _ (gti_mem hjt)
    rw [drop_gti hjt, show hitE n s.mv act (gti X j :: X.drop (j + 1)) nx = hitE n s.mv act (X.drop (j + 1)) (if labM n (gti s.mv (gti X j)) = act then nx.set (gti s.mv (gti X j)).tt.toNat true else nx) from rfl] at hE
    obtain ⟨_, _, ht0, ht1, hy0, hy1⟩ := hm _ hkN2
    generalize gti X j = kk at *
    generalize gti s.mv kk = m at *
    obtain ⟨w, hw⟩ : ∃ w : Nat, m.tt = (w : Int) := ⟨m.tt.toNat, by omega⟩
    have hwn : w < N := by omega
    obtain ⟨y, hy⟩ : ∃ y : Nat, m.sym = (y : Int) := ⟨m.sym.toNat, by omega⟩
    have hixt : (n.trans.map eT)[y]? = some (eT (gti n.trans y)) := ix_map (by omega)
    have hlab : labM n m = (gti n.trans y).label := by unfold labM; rw [hy, Int.toNat_natCast]
    rw [hlab, hw, Int.toNat_natCast] at hE
    have hel2 : (nx.map eB)[w]? = some (eB (gti nx w)) := ix_map (by omega)
    have hlm : Lo 0 (.ref (eMv m).cells) := .ref _ (lo_Mv m).cells
    generalize gti n.trans y = t at *
    refine aw_region ?_
    first | refine ops_op rfl rfl (runs_none rfl) (does_index_sl rfl ts27 ti56 rfl rfl rfl hix rfl) ?_ | refine ops_op rfl rfl (runs_none rfl) (does_index_own rfl ts27 ti56 rfl rfl rfl hix) ?_ | refine ops_op rfl rfl (runs_none rfl) (does_index_sub rfl ts27 ti56 rfl rfl rfl hix) ?_
    first | refine ops_op rfl rfl (runs_none rfl) (does_load_refw rfl ta56 ti56 rfl rfl) ?_ | refine ops_op rfl rfl (runs_none rfl) (does_load_whole rfl ta56 ti56 rfl rfl rfl rfl rfl) ?_ | refine ops_op rfl rfl (runs_none rfl) (does_load_refs rfl ta56 ti56 rfl (Nat.le_of_ble_eq_true rfl)) ?_ | refine ops_op rfl rfl (runs_none rfl) (does_load_ptrs rfl ta56 ti56 rfl rfl rfl rfl (Nat.le_of_ble_eq_true rfl)) ?_
    refine ops_op rfl rfl (runs_none rfl) (does_alloc rfl ti56 rfl rfl) ?_
    refine ops_eff rfl (runs_none rfl) (does_store rfl ti56 rfl rfl rfl rfl rfl rfl (by decide) (by decide)) ?_
    refine ops_nil ?_
    repeat (first | refine aw_seq ?_ | refine ath_n ?_ | refine aw_skip ?_ | refine abl_n ?_ | refine aw_block ?_)
    refine aw_weak (wk_froz (id := 1) rfl) ?_
    refine aw_weak (wk_ref (d := 11) rfl rfl rfl) ?_
    by_cases hsl : t.label = act
    · rw [if_pos hsl] at hE
      have hset : (nx.set w true).map eB = (nx.map eB).set w (eB true) := List.map_set
      refine aw_draw hmix ?_
      refine adraw_quiet (by kernel_rfl) ?_
      first | refine qx_op rfl rfl (runs_none rfl) (mv_ptr (.inl rfl) rfl) ?_ | refine qx_op rfl rfl (runs_none rfl) (mv_ref (.inl rfl) rfl) ?_ | refine qx_op rfl rfl (runs_none rfl) (mv_s (.inl rfl) rfl) ?_
      first | refine qx_op rfl rfl (runs_none rfl) (does_nil_ptr rfl rfl) ?_ | refine qx_op rfl rfl (runs_none rfl) (does_nil_ref rfl rfl) ?_ | refine qx_op rfl rfl (runs_none rfl) (does_nil_fn rfl rfl) ?_
      first | refine qx_op rfl rfl (runs_none rfl) (does_fieldAddr_ptr rfl tf99_0 (by decide) rfl) ?_ | refine qx_op rfl rfl (runs_none rfl) (does_fieldAddr_ref rfl tf99_0 (by decide) rfl) ?_
      first | refine qx_op rfl rfl (runs_none rfl) (does_fieldAddr_ptr rfl tf24_1 (by decide) rfl) ?_ | refine qx_op rfl rfl (runs_none rfl) (does_fieldAddr_ref rfl tf24_1 (by decide) rfl) ?_
      first | refine qx_op rfl rfl (runs_none rfl) (does_load_ref rfl ta22 rfl) ?_ | refine qx_op rfl rfl (runs_none rfl) (does_load_ptr rfl ta22 rfl rfl rfl rfl rfl) ?_
      first | refine qx_op rfl rfl (runs_none rfl) (does_fieldAddr_ptr rfl tf56_2 (by decide) rfl) ?_ | refine qx_op rfl rfl (runs_none rfl) (does_fieldAddr_ref rfl tf56_2 (by decide) rfl) ?_
      first | refine qx_op rfl rfl (runs_none rfl) (does_load_ref rfl ta3 rfl) ?_ | refine qx_op rfl rfl (runs_none rfl) (does_load_ptr rfl ta3 rfl rfl rfl rfl rfl) ?_
      first | refine qx_op rfl rfl (runs_none rfl) (does_index_sl rfl ts22 ti59 rfl rfl hy hixt rfl) ?_ | refine qx_op rfl rfl (runs_none rfl) (does_index_own rfl ts22 ti59 rfl rfl hy hixt) ?_ | refine qx_op rfl rfl (runs_none rfl) (does_index_sub rfl ts22 ti59 rfl rfl hy hixt) ?_
      first | refine qx_op rfl rfl (runs_none rfl) (does_fieldAddr_ptr rfl tf59_0 (by decide) rfl) ?_ | refine qx_op rfl rfl (runs_none rfl) (does_fieldAddr_ref rfl tf59_0 (by decide) rfl) ?_
      first | refine qx_op rfl rfl (runs_none rfl) (does_load_ref rfl ta9 rfl) ?_ | refine qx_op rfl rfl (runs_none rfl) (does_load_ptr rfl ta9 rfl rfl rfl rfl rfl) ?_
      refine qx_op rfl rfl (runs_none rfl) (mv_s (.inl rfl) rfl) ?_
      refine qx_op rfl rfl (runs_none rfl) (dec_t hsl (does_eqs rfl rfl rfl)) ?_
      refine qx_nil ?_
      repeat (first | refine aw_seq ?_ | refine ath_n ?_ | refine aw_skip ?_ | refine abl_n ?_ | refine aw_block ?_)
      refine aw_true rfl ?_
      repeat (first | refine aw_seq ?_ | refine ath_n ?_ | refine aw_skip ?_ | refine abl_n ?_ | refine aw_block ?_)
      refine aw_region ?_
      first | refine ops_op rfl rfl (runs_none rfl) (mv_own (.inl rfl) rfl) ?_ | refine ops_op rfl rfl (runs_none rfl) (mv_sl (.inl rfl) rfl) ?_ | refine ops_op rfl rfl (runs_none rfl) (mv_s (.inl rfl) rfl) ?_ | refine ops_op rfl rfl (runs_none rfl) (mv_emp (.inl rfl) rfl) ?_ | refine ops_op rfl rfl (runs_none rfl) (mv_sub (.inl rfl) rfl) ?_
      first | refine ops_op rfl rfl (runs_none rfl) (does_fieldAddr_ptr rfl tf56_1 (by decide) rfl) ?_ | refine ops_op rfl rfl (runs_none rfl) (does_fieldAddr_ref rfl tf56_1 (by decide) rfl) ?_
      first | refine ops_op rfl rfl (runs_none rfl) (does_load_ref rfl ta3 rfl) ?_ | refine ops_op rfl rfl (runs_none rfl) (does_load_ptr rfl ta3 rfl rfl rfl rfl rfl) ?_
      first | refine ops_op rfl rfl (runs_none rfl) (does_index_sl rfl ts81 ti4 rfl rfl hw hwn rfl) ?_ | refine ops_op rfl rfl (runs_none rfl) (does_index_own rfl ts81 ti4 rfl rfl hw hwn) ?_ | refine ops_op rfl rfl (runs_none rfl) (does_index_sub rfl ts81 ti4 rfl rfl hw hwn) ?_
      refine ops_eff rfl (runs_none rfl) (does_store rfl ti4 rfl rfl rfl hel2 rfl rfl (by decide) (by decide)) ?_
      refine ops_nil ?_
      repeat (first | refine aw_seq ?_ | refine ath_n ?_ | refine aw_skip ?_ | refine abl_n ?_ | refine aw_block ?_)
      refine aw_region ?_
      refine ops_op rfl rfl (runs_none rfl) (does_add rfl rfl rfl (IntWalk.i64_in _ (by omega))) ?_
      refine ops_op rfl rfl (runs_none rfl) (mv_s (.inl rfl) rfl) ?_
      refine ops_nil ?_
      repeat (first | refine aw_seq ?_ | refine ath_n ?_ | refine aw_skip ?_ | refine abl_n ?_ | refine aw_block ?_)
      exact ⟨(j + 1, nx.set w true), ⟨by show j + 1 ≤ X.length; omega, by simp [hnl], hE⟩, by show X.length - (j + 1) < X.length - j; omega, wk_st [0] (by decide) ⟨⟨_, rfl, .rowE (rowB_lo _) hset.symm⟩, trivial⟩ ⟨.lo _ hlw, .lo _ (by repeat' (first | exact Lo.s _ | exact Lo.emp | exact Lo.any | exact lo_nil | exact lo_nilE | refine lo_cons ?_ ?_ | refine lo_consE ?_ ?_ | refine lo_map ?_ | refine lo_mapE ?_ | refine Lo.cells ?_ | refine Lo.agg _ ?_ | refine Lo.ref _ ?_ | refine Lo.tup _ ?_ | refine Lo.fn _ _ ?_ | refine Lo.sl _ ?_ | intro _)), .own 0 0 1 _ _ rfl rfl, .lo _ hlB, .lo _ (by repeat' (first | exact Lo.s _ | exact Lo.emp | exact Lo.any | exact lo_nil | exact lo_nilE | refine lo_cons ?_ ?_ | refine lo_consE ?_ ?_ | refine lo_map ?_ | refine lo_mapE ?_ | refine Lo.cells ?_ | refine Lo.agg _ ?_ | refine Lo.ref _ ?_ | refine Lo.tup _ ?_ | refine Lo.fn _ _ ?_ | refine Lo.sl _ ?_ | intro _)), .lo _ (by repeat' (first | exact Lo.s _ | exact Lo.emp | exact Lo.any | exact lo_nil | exact lo_nilE | refine lo_cons ?_ ?_ | refine lo_consE ?_ ?_ | refine lo_map ?_ | refine lo_mapE ?_ | refine Lo.cells ?_ | refine Lo.agg _ ?_ | refine Lo.ref _ ?_ | refine Lo.tup _ ?_ | refine Lo.fn _ _ ?_ | refine Lo.sl _ ?_ | intro _)), .lo _ (lo_Mvs _), .lo _ (by repeat' (first | exact Lo.s _ | exact Lo.emp | exact Lo.any | exact lo_nil | exact lo_nilE | refine lo_cons ?_ ?_ | refine lo_consE ?_ ?_ | refine lo_map ?_ | refine lo_mapE ?_ | refine Lo.cells ?_ | refine Lo.agg _ ?_ | refine Lo.ref _ ?_ | refine Lo.tup _ ?_ | refine Lo.fn _ _ ?_ | refine Lo.sl _ ?_ | intro _)), .lo _ (by repeat' (first | exact Lo.s _ | exact Lo.emp | exact Lo.any | exact lo_nil | exact lo_nilE | refine lo_cons ?_ ?_ | refine lo_consE ?_ ?_ | refine lo_map ?_ | refine lo_mapE ?_ | refine Lo.cells ?_ | refine Lo.agg _ ?_ | refine Lo.ref _ ?_ | refine Lo.tup _ ?_ | refine Lo.fn _ _ ?_ | refine Lo.sl _ ?_ | intro _)), trivial⟩⟩
    · rw [if_neg hsl] at hE
      refine aw_draw hmix ?_
      refine adraw_quiet (by kernel_rfl) ?_
      first | refine qx_op rfl rfl (runs_none rfl) (mv_ptr (.inl rfl) rfl) ?_ | refine qx_op rfl rfl (runs_none rfl) (mv_ref (.inl rfl) rfl) ?_ | refine qx_op rfl rfl (runs_none rfl) (mv_s (.inl rfl) rfl) ?_
      first | refine qx_op rfl rfl (runs_none rfl) (does_nil_ptr rfl rfl) ?_ | refine qx_op rfl rfl (runs_none rfl) (does_nil_ref rfl rfl) ?_ | refine qx_op rfl rfl (runs_none rfl) (does_nil_fn rfl rfl) ?_
      first | refine qx_op rfl rfl (runs_none rfl) (does_fieldAddr_ptr rfl tf99_0 (by decide) rfl) ?_ | refine qx_op rfl rfl (runs_none rfl) (does_fieldAddr_ref rfl tf99_0 (by decide) rfl) ?_
      first | refine qx_op rfl rfl (runs_none rfl) (does_fieldAddr_ptr rfl tf24_1 (by decide) rfl) ?_ | refine qx_op rfl rfl (runs_none rfl) (does_fieldAddr_ref rfl tf24_1 (by decide) rfl) ?_
      first | refine qx_op rfl rfl (runs_none rfl) (does_load_ref rfl ta22 rfl) ?_ | refine qx_op rfl rfl (runs_none rfl) (does_load_ptr rfl ta22 rfl rfl rfl rfl rfl) ?_
      first | refine qx_op rfl rfl (runs_none rfl) (does_fieldAddr_ptr rfl tf56_2 (by decide) rfl) ?_ | refine qx_op rfl rfl (runs_none rfl) (does_fieldAddr_ref rfl tf56_2 (by decide) rfl) ?_
      first | refine qx_op rfl rfl (runs_none rfl) (does_load_ref rfl ta3 rfl) ?_ | refine qx_op rfl rfl (runs_none rfl) (does_load_ptr rfl ta3 rfl rfl rfl rfl rfl) ?_
      first | refine qx_op rfl rfl (runs_none rfl) (does_index_sl rfl ts22 ti59 rfl rfl hy hixt rfl) ?_ | refine qx_op rfl rfl (runs_none rfl) (does_index_own rfl ts22 ti59 rfl rfl hy hixt) ?_ | refine qx_op rfl rfl (runs_none rfl) (does_index_sub rfl ts22 ti59 rfl rfl hy hixt) ?_
      first | refine qx_op rfl rfl (runs_none rfl) (does_fieldAddr_ptr rfl tf59_0 (by decide) rfl) ?_ | refine qx_op rfl rfl (runs_none rfl) (does_fieldAddr_ref rfl tf59_0 (by decide) rfl) ?_
      first | refine qx_op rfl rfl (runs_none rfl) (does_load_ref rfl ta9 rfl) ?_ | refine qx_op rfl rfl (runs_none rfl) (does_load_ptr rfl ta9 rfl rfl rfl rfl rfl) ?_
      refine qx_op rfl rfl (runs_none rfl) (mv_s (.inl rfl) rfl) ?_
      refine qx_op rfl rfl (runs_none rfl) (dec_f hsl (does_eqs rfl rfl rfl)) ?_
      refine qx_nil ?_
      repeat (first | refine aw_seq ?_ | refine ath_n ?_ | refine aw_skip ?_ | refine abl_n ?_ | refine aw_block ?_)
      refine aw_false rfl ?_
      repeat (first | refine aw_seq ?_ | refine ath_n ?_ | refine aw_skip ?_ | refine abl_n ?_ | refine aw_block ?_)
      refine aw_region ?_
      refine ops_op rfl rfl (runs_none rfl) (does_add rfl rfl rfl (IntWalk.i64_in _ (by omega))) ?_
      refine ops_op rfl rfl (runs_none rfl) (mv_s (.inl rfl) rfl) ?_
      refine ops_nil ?_
      repeat (first | refine aw_seq ?_ | refine ath_n ?_ | refine aw_skip ?_ | refine abl_n ?_ | refine aw_block ?_)
      exact ⟨(j + 1, nx), ⟨by show j + 1 ≤ X.length; omega, hnl, hE⟩, by show X.length - (j + 1) < X.length - j; omega, wk_st [0] (by decide) ⟨⟨_, rfl, .rowE (rowB_lo _) rfl⟩, trivial⟩ ⟨.lo _ hlw, .lo _ (by repeat' (first | exact Lo.s _ | exact Lo.emp | exact Lo.any | exact lo_nil | exact lo_nilE | refine lo_cons ?_ ?_ | refine lo_consE ?_ ?_ | refine lo_map ?_ | refine lo_mapE ?_ | refine Lo.cells ?_ | refine Lo.agg _ ?_ | refine Lo.ref _ ?_ | refine Lo.tup _ ?_ | refine Lo.fn _ _ ?_ | refine Lo.sl _ ?_ | intro _)), .own 0 0 1 _ _ rfl rfl, .lo _ hlB, .lo _ (by repeat' (first | exact Lo.s _ | exact Lo.emp | exact Lo.any | exact lo_nil | exact lo_nilE | refine lo_cons ?_ ?_ | refine lo_consE ?_ ?_ | refine lo_map ?_ | refine lo_mapE ?_ | refine Lo.cells ?_ | refine Lo.agg _ ?_ | refine Lo.ref _ ?_ | refine Lo.tup _ ?_ | refine Lo.fn _ _ ?_ | refine Lo.sl _ ?_ | intro _)), .lo _ (by repeat' (first | exact Lo.s _ | exact Lo.emp | exact Lo.any | exact lo_nil | exact lo_nilE | refine lo_cons ?_ ?_ | refine lo_consE ?_ ?_ | refine lo_map ?_ | refine lo_mapE ?_ | refine Lo.cells ?_ | refine Lo.agg _ ?_ | refine Lo.ref _ ?_ | refine Lo.tup _ ?_ | refine Lo.fn _ _ ?_ | refine Lo.sl _ ?_ | intro _)), .lo _ (lo_Mvs _), .lo _ (by repeat' (first | exact Lo.s _ | exact Lo.emp | exact Lo.any | exact lo_nil | exact lo_nilE | refine lo_cons ?_ ?_ | refine lo_consE ?_ ?_ | refine lo_map ?_ | refine lo_mapE ?_ | refine Lo.cells ?_ | refine Lo.agg _ ?_ | refine Lo.ref _ ?_ | refine Lo.tup _ ?_ | refine Lo.fn _ _ ?_ | refine Lo.sl _ ?_ | intro _)), .lo _ (by repeat' (first | exact Lo.s _ | exact Lo.emp | exact Lo.any | exact lo_nil | exact lo_nilE | refine lo_cons ?_ ?_ | refine lo_consE ?_ ?_ | refine lo_map ?_ | refine lo_mapE ?_ | refine Lo.cells ?_ | refine Lo.agg _ ?_ | refine Lo.ref _ ?_ | refine Lo.tup _ ?_ | refine Lo.fn _ _ ?_ | refine Lo.sl _ ?_ | intro _)), trivial⟩⟩
  · have e : k = N := by omega
    subst e
    (refine aw_exit ?_; repeat (first | refine ath_x ?_ | refine abl_hit ?_ | refine abl_miss rfl ?_ | refine abl_n ?_ | refine ath_n ?_ | refine aw_seq ?_ | refine aw_skip ?_ | refine aw_block ?_))
    rw [hs] at hc
    refine aw_weak (F' := [(0, .ref (wkC n s fin)), (7, .own 0 1 k)]) (σ' := [.row 1 ((nextE n s.mv act set k).map eB)]) (wk_st [0] (by decide) ⟨⟨_, rfl, .rowE (rowB_lo _) rfl⟩, trivial⟩ ⟨.lo _ hlw, .own 0 0 1 _ _ rfl rfl, trivial⟩) ?_
    all_goals refine aw_region ?_
    all_goals (first | refine ops_op rfl rfl (runs_none rfl) (mv_ptr (.inl rfl) rfl) ?_ | refine ops_op rfl rfl (runs_none rfl) (mv_ref (.inl rfl) rfl) ?_ | refine ops_op rfl rfl (runs_none rfl) (mv_s (.inl rfl) rfl) ?_)
    all_goals (first | refine ops_op rfl rfl (runs_none rfl) (mv_own (.inl rfl) rfl) ?_ | refine ops_op rfl rfl (runs_none rfl) (mv_sl (.inl rfl) rfl) ?_ | refine ops_op rfl rfl (runs_none rfl) (mv_s (.inl rfl) rfl) ?_ | refine ops_op rfl rfl (runs_none rfl) (mv_emp (.inl rfl) rfl) ?_ | refine ops_op rfl rfl (runs_none rfl) (mv_sub (.inl rfl) rfl) ?_)
    all_goals refine ops_callR rfl rfl (runs_none rfl) rfl rfl hc rfl (by repeat (first | exact hF_nil | refine hF_cons (by first | exact lo_up hlw | exact .own _ _ _ (by decide) | exact .s _) ?_)) ?_
    all_goals (first | refine ops_op rfl rfl (runs_none rfl) (mv_own (.inr rfl) rfl) ?_ | refine ops_op rfl rfl (runs_none rfl) (mv_sl (.inr rfl) rfl) ?_ | refine ops_op rfl rfl (runs_none rfl) (mv_s (.inr rfl) rfl) ?_ | refine ops_op rfl rfl (runs_none rfl) (mv_emp (.inr rfl) rfl) ?_ | refine ops_op rfl rfl (runs_none rfl) (mv_sub (.inr rfl) rfl) ?_)
    all_goals refine ops_nil ?_
    all_goals (repeat (first | refine aw_seq ?_ | refine ath_n ?_ | refine aw_skip ?_ | refine abl_n ?_ | refine aw_block ?_))
    (refine aw_ret ?_; repeat (first | refine ath_r ?_ | refine abl_r ?_))
    exact post1f (.inr rfl) rfl (.own _ _ _ _ _ rfl rfl (by rw [List.length_map, hcl]))
end Go.Proofs.Ythdpacbjbdkemaa.Aw
end
section
namespace Go.Proofs.Ythdpacbjbdkemaa.Aw
set_option linter.unusedSimpArgs false
set_option linter.unusedVariables false
set_option linter.unusedSectionVars false
open Go Go.RowKit Go.Proofs
variable {P : Program} [IsP P]

def wkO (n : Net) (s : Spc) : AV := .agg [eI n.places, eL eT n.trans, eI n.source, eI n.sink, eL (eL eI) s.st, eL eMv s.mv, eB s.full, .own 1 1 s.st.length, eI (-1)]
def wkF (n : Net) (s : Spc) : AV := .agg [eI n.places, eL eT n.trans, eI n.source, eI n.sink, eL (eL eI) s.st, eL eMv s.mv, eB s.full, eL (eL eMv) (outsA s.mv s.st.length), eI (-1)]
theorem wkO_ren (n : Net) (s : Spc) {K i : Nat} (h1 : 1 < K) (h2 : 1 ≠ i) : ∀ a ∈ [Ob.row 9 [wkO n s]], ObR2 (mv K i) a a := by
  intro a ha
  simp at ha; subst ha
  exact .of _ _ (obRn_agg (.cons (.lo _ (.s _)) (.cons (.lo _ (lo_map fun t => lo_T t)) (.cons (.lo _ (.s _)) (.cons (.lo _ (.s _)) (.cons (.lo _ (lo_II _)) (.cons (.lo _ (lo_Mvs _)) (.cons (.lo _ (.s _)) (.cons (.own _ _ _ _ _ (mv_ne h1 h2) rfl) (.cons (.lo _ (.s _)) .nil))))))))))
theorem wkO_lo (n : Net) (s : Spc) : ∀ ob ∈ [Ob.row 9 [wkO n s]], ∀ k, 2 ≤ k → LoOb k ob := by
  intro ob hob k hk
  simp at hob; subst hob
  intro e he c hc
  simp at he; subst he
  simp only [wkO, AV.cells, List.mem_cons, List.not_mem_nil, or_false] at hc
  rcases hc with rfl | rfl | rfl | rfl | rfl | rfl | rfl | rfl | rfl
  · exact .s _
  · exact lo_up (lo_map fun t => lo_T t)
  · exact .s _
  · exact .s _
  · exact lo_up (lo_II _)
  · exact lo_up (lo_Mvs _)
  · exact .s _
  · exact .own _ _ _ (by omega)
  · exact .s _
def finE (n : Net) (s : Spc) : Int := findI s.st (oneE n n.sink).1
set_option maxHeartbeats 8000000 in
theorem walk_pf (n : Net) (s : Spc) (hv : validB n = true) (hm : MvOk n s) (hN : s.st.length ≤ 2000) (hmv : s.mv.length ≤ 20000) : Pure P 54 [eN n, eSpc s] (.ref (wkC n s (finE n s))) := by
  have hfin := final_pf (P := P) n
  have hfe : (oneE n n.sink).2 = 0 := by unfold oneE; rw [if_pos hv]
  have hff : finE n s = findI s.st (oneE n n.sink).1 := rfl
  have hlF := lo_wk n s (finE n s)
  generalize finE n s = fin at hff hlF ⊢
  generalize oneE n n.sink = o at hfin hfe hff
  have hfind := find_pf (P := P) s o.1
  rw [← hff] at hfind
  have hls : Lo 0 (.ref (eSpc s).cells) := .ref _ (lo_Spc s).cells
  have hln : Lo 0 (.ref (eN n).cells) := .ref _ (lo_N n).cells
  refine aw_fn (by rw [IsP.eq (P := P)]; exact Try.func54) rfl rfl rfl rfl rfl (lo_cons (lo_N n) (lo_cons (lo_Spc s) lo_nil)) hlF (by simp only [argF]; rfl) ?_
  repeat (first | refine aw_seq ?_ | refine ath_n ?_ | refine aw_skip ?_ | refine abl_n ?_ | refine aw_block ?_)
  refine aw_region ?_
  refine ops_op rfl rfl (runs_none rfl) (does_box rfl rfl rfl rfl) ?_
  refine aops_weak (wk_froz (id := 0) rfl) (aops_weak (wk_ref (d := 2) rfl rfl rfl) ?_)
  refine ops_op rfl rfl (runs_none rfl) (does_box rfl rfl rfl rfl) ?_
  refine aops_weak (wk_froz (id := 1) rfl) (aops_weak (wk_ref (d := 3) rfl rfl rfl) ?_)
  first | refine ops_op rfl rfl (runs_none rfl) (mv_ptr (.inr rfl) rfl) ?_ | refine ops_op rfl rfl (runs_none rfl) (mv_ref (.inr rfl) rfl) ?_ | refine ops_op rfl rfl (runs_none rfl) (mv_s (.inr rfl) rfl) ?_
  refine ops_nil ?_
  repeat (first | refine aw_seq ?_ | refine ath_n ?_ | refine aw_skip ?_ | refine abl_n ?_ | refine aw_block ?_)
  all_goals refine aw_draw hmix ?_
  all_goals refine adraw_ex ?_
  all_goals (first | refine ex_free rfl rfl (runs_none rfl) (fun _ => (does_load_refw rfl ta24 ti24 rfl rfl)) ?_ | refine ex_look rfl rfl (runs_none rfl) (look_whole rfl ta24 ti24 rfl rfl rfl rfl rfl) ?_ | refine ex_free rfl rfl (runs_none rfl) (fun _ => (does_load_refs rfl ta24 ti24 rfl (Nat.le_of_ble_eq_true rfl))) ?_ | refine ex_look rfl rfl (runs_none rfl) (look_ptrs rfl ta24 ti24 rfl rfl rfl rfl (Nat.le_of_ble_eq_true rfl)) ?_)
  all_goals (first | refine ex_free rfl rfl (runs_none rfl) (fun _ => (does_load_refw rfl ta29 ti29 rfl rfl)) ?_ | refine ex_look rfl rfl (runs_none rfl) (look_whole rfl ta29 ti29 rfl rfl rfl rfl rfl) ?_ | refine ex_free rfl rfl (runs_none rfl) (fun _ => (does_load_refs rfl ta29 ti29 rfl (Nat.le_of_ble_eq_true rfl))) ?_ | refine ex_look rfl rfl (runs_none rfl) (look_ptrs rfl ta29 ti29 rfl rfl rfl rfl (Nat.le_of_ble_eq_true rfl)) ?_)
  all_goals (first | refine ex_free rfl rfl (runs_none rfl) (fun _ => (does_fieldAddr_ptr rfl tf29_0 (by decide) rfl)) ?_ | refine ex_free rfl rfl (runs_none rfl) (fun _ => (does_fieldAddr_ref rfl tf29_0 (by decide) rfl)) ?_)
  all_goals (first | refine ex_free rfl rfl (runs_none rfl) (fun _ => (does_load_ref rfl ta26 rfl)) ?_ | refine ex_look rfl rfl (runs_none rfl) (look_ptr rfl ta26 rfl rfl rfl rfl rfl) ?_)
  all_goals (first | refine ex_free rfl rfl (runs_none rfl) (fun _ => (does_len_map rfl ts26 rfl)) ?_ | refine ex_free rfl rfl (runs_none rfl) (fun _ => (does_len_sl rfl ts26 rfl)) ?_ | refine ex_free rfl rfl (runs_none rfl) (fun _ => (does_len_own rfl ts26 rfl)) ?_ | refine ex_free rfl rfl (runs_none rfl) (fun _ => (does_len_s rfl ts26 rfl)) ?_ | refine ex_free rfl rfl (runs_none rfl) (fun _ => (does_len_emp rfl ts26 rfl)) ?_ | refine ex_free rfl rfl (runs_none rfl) (fun _ => (does_len_sub rfl ts26 rfl)) ?_)
  all_goals refine ex_eff rfl rfl (runs_none rfl) (does_make rfl ts80 ti27 rfl rfl (by decide) rfl rfl rfl rfl (by omega) (by omega) (by omega)) (fun _ h => app_other h) ?_
  all_goals refine ex_free rfl rfl (runs_none rfl) (fun _ => (does_build rfl ti99 tp99 rfl rfl)) ?_
  all_goals refine ex_eff rfl rfl (runs_none rfl) (does_box rfl rfl rfl rfl) (fun _ h => app_other h) ?_
  all_goals (first | refine ex_free rfl rfl (runs_none rfl) (fun _ => (mv_ptr (.inr rfl) rfl)) ?_ | refine ex_free rfl rfl (runs_none rfl) (fun _ => (mv_ref (.inr rfl) rfl)) ?_ | refine ex_free rfl rfl (runs_none rfl) (fun _ => (mv_s (.inr rfl) rfl)) ?_)
  all_goals refine ex_nil (by kernel_rfl) ?_
  all_goals (repeat (first | refine aw_seq ?_ | refine ath_n ?_ | refine aw_skip ?_ | refine abl_n ?_ | refine aw_block ?_))
  refine aw_weak (F' := [(2, .ref (eN n).cells), (3, .ref (eSpc s).cells), (5, .ptr 0 9 0 0)]) (σ' := [.row 9 [wkO n s], .row 1 (List.replicate s.st.length (.s (.slice none 0 0)))]) (wk_st [3, 2] (by decide) ⟨⟨_, rfl, obRn_agg (.cons (.lo _ (.s _)) (.cons (.lo _ (lo_map fun t => lo_T t)) (.cons (.lo _ (.s _)) (.cons (.lo _ (.s _)) (.cons (.lo _ (lo_II _)) (.cons (.lo _ (lo_Mvs _)) (.cons (.lo _ (.s _)) (.cons (.own _ _ _ _ _ rfl rfl) (.cons (.lo _ (.s _)) .nil)))))))))⟩, ⟨_, rfl, .rowE (lo_nils _) rfl⟩, trivial⟩ ⟨.lo _ hln, .lo _ hls, .ptr 3 0 9 0 0 rfl, trivial⟩) ?_
  refine aw_weak (wk_nils (id := 1) (sz := 1) (sz2 := 3) (n := s.st.length) rfl) ?_
  have hst0 : stoN [.row 9 [wkO n s]] 3 (rowsO s.mv s.st.length 0) = [.row 9 [wkO n s], .row 1 (ownR 2 3 (List.replicate s.st.length []))] ++ obsR 3 (List.replicate s.st.length []) := by rw [rowsO_0]; rfl
  obtain ⟨N, hNe⟩ : ∃ N, N = s.st.length := ⟨_, rfl⟩
  refine aw_region ?_
  first | refine ops_op rfl rfl (runs_none rfl) (does_fieldAddr_ptr rfl tf29_1 (by decide) rfl) ?_ | refine ops_op rfl rfl (runs_none rfl) (does_fieldAddr_ref rfl tf29_1 (by decide) rfl) ?_
  first | refine ops_op rfl rfl (runs_none rfl) (does_load_ref rfl ta27 rfl) ?_ | refine ops_op rfl rfl (runs_none rfl) (does_load_ptr rfl ta27 rfl rfl rfl rfl rfl) ?_
  first | refine ops_op rfl rfl (runs_none rfl) (does_len_map rfl ts27 rfl) ?_ | refine ops_op rfl rfl (runs_none rfl) (does_len_sl rfl ts27 rfl) ?_ | refine ops_op rfl rfl (runs_none rfl) (does_len_own rfl ts27 rfl) ?_ | refine ops_op rfl rfl (runs_none rfl) (does_len_s rfl ts27 rfl) ?_ | refine ops_op rfl rfl (runs_none rfl) (does_len_emp rfl ts27 rfl) ?_ | refine ops_op rfl rfl (runs_none rfl) (does_len_sub rfl ts27 rfl) ?_
  refine ops_op rfl rfl (runs_none rfl) (mv_s (.inl rfl) rfl) ?_
  refine ops_nil ?_
  repeat (first | refine aw_seq ?_ | refine ath_n ?_ | refine aw_skip ?_ | refine abl_n ?_ | refine aw_block ?_)
  refine aw_loops (S := Nat) (fun i => [(2, .ref (eN n).cells), (3, .ref (eSpc s).cells), (5, .ptr 0 9 0 0), (19, eL eMv s.mv), (20, eI s.mv.length), (21, eI i)]) (fun i => stoN [.row 9 [wkO n s]] 3 (rowsO s.mv s.st.length i)) (fun i => i ≤ s.mv.length) (fun i => s.mv.length - i) 0 (by rw [hst0]; exact wk_sub _ ⟨rfl, rfl, rfl, rfl, rfl, rfl, trivial⟩) (Nat.zero_le _) (fun i hi => ?_)
  repeat (first | refine aw_seq ?_ | refine ath_n ?_ | refine aw_skip ?_ | refine abl_n ?_ | refine aw_block ?_)
  all_goals refine aw_region ?_
  all_goals (first | refine ops_opP rfl rfl (runs_none rfl) (does_lss rfl rfl rfl) (fun h22 => ?_) (fun h22 => ?_) | refine ops_opB rfl rfl (runs_none rfl) (does_lss rfl rfl rfl) (fun h22 => ?_) (fun h22 => ?_))
  all_goals refine ops_nil ?_
  all_goals (repeat (first | refine aw_seq ?_ | refine ath_n ?_ | refine aw_skip ?_ | refine abl_n ?_ | refine aw_block ?_))
  all_goals (first | refine aw_true rfl ?_ | refine aw_false rfl ?_)
  all_goals (repeat (first | refine aw_seq ?_ | refine ath_n ?_ | refine aw_skip ?_ | refine abl_n ?_ | refine aw_block ?_))
  · have hlt : i < s.mv.length := by omega
    have hix : (s.mv.map eMv)[i]? = some (eMv (gti s.mv i)) := ix_map hlt
    obtain ⟨r1, r2, r3, r4, _, _⟩ := hm i hlt
    have hK : (stoN [.row 9 [wkO n s]] 3 (rowsO s.mv s.st.length i)).length = s.st.length + 2 := by rw [stoN_len, rowsO_len]; rfl
    obtain ⟨v, hv⟩ : ∃ v : Nat, (gti s.mv i).fr = v := ⟨(gti s.mv i).fr.toNat, by omega⟩
    have hvn : v < s.st.length := by omega
    have hrow := rowsO_get (mvs := s.mv) (i := i) hvn
    have hol := outsL_len s.mv (v : Int) i
    have hol2 : ((outsL s.mv (v : Int) i).map eMv).length = (outsL s.mv (v : Int) i).length := by simp
    have hstep := rowsO_step hvn hv
    have hren := stoN_ren (A := [.row 9 [wkO n s]]) (sz := 3) (x := eMv (gti s.mv i)) (K := (stoN [.row 9 [wkO n s]] 3 (rowsO s.mv s.st.length i)).length) (wkO_ren n s (by rw [hK]; omega) (by simp)) hrow (by rw [stoN_len]) (rowsO_lo _ _ _) (lo_Mv _).cells
    rw [← hstep] at hren
    have hlm : Lo 0 (.ref (eMv (gti s.mv i)).cells) := .ref _ (lo_Mv _).cells
    have hlo := stoN_loOb (A := [.row 9 [wkO n s]]) (sz := 3) (fun ob h => wkO_lo n s ob h 2 (Nat.le_refl _)) (rowsO_lo s.mv s.st.length i) (wkO_lo n s)
    generalize gti s.mv i = m at *
    all_goals refine aw_region ?_
    all_goals (first | refine ops_op rfl rfl (runs_none rfl) (does_index_sl rfl ts27 ti56 rfl rfl rfl hix rfl) ?_ | refine ops_op rfl rfl (runs_none rfl) (does_index_own rfl ts27 ti56 rfl rfl rfl hix) ?_ | refine ops_op rfl rfl (runs_none rfl) (does_index_sub rfl ts27 ti56 rfl rfl rfl hix) ?_)
    all_goals (first | refine ops_op rfl rfl (runs_none rfl) (does_load_refw rfl ta56 ti56 rfl rfl) ?_ | refine ops_op rfl rfl (runs_none rfl) (does_load_whole rfl ta56 ti56 rfl rfl rfl rfl rfl) ?_ | refine ops_op rfl rfl (runs_none rfl) (does_load_refs rfl ta56 ti56 rfl (Nat.le_of_ble_eq_true rfl)) ?_ | refine ops_op rfl rfl (runs_none rfl) (does_load_ptrs rfl ta56 ti56 rfl rfl rfl rfl (Nat.le_of_ble_eq_true rfl)) ?_)
    all_goals refine ops_op rfl rfl (runs_none rfl) (does_alloc rfl ti56 rfl rfl) ?_
    all_goals refine ops_eff rfl (runs_none rfl) (does_store rfl ti56 rfl rfl (last_get _ _) rfl rfl rfl (by decide) (by decide)) ?_
    all_goals refine ops_nil ?_
    all_goals (repeat (first | refine aw_seq ?_ | refine ath_n ?_ | refine aw_skip ?_ | refine abl_n ?_ | refine aw_block ?_))
    rw [set_last]
    refine aw_weak ((kwk_last (d := 7) rfl).trans (kwk_cut (F' := [(2, .ref (eN n).cells), (3, .ref (eSpc s).cells), (5, .ptr 0 9 0 0), (7, .ref (eMv m).cells), (19, eL eMv s.mv), (20, eI s.mv.length), (21, eI i)]) (by rw [hK]; omega) hlo ⟨⟨rfl, lo_up hln⟩, ⟨rfl, lo_up hls⟩, ⟨rfl, .ptr _ _ _ _ (by rw [hK]; omega)⟩, ⟨rfl, lo_up hlm⟩, ⟨rfl, lo_up (lo_Mvs _)⟩, ⟨rfl, lo_up (by repeat' (first | exact Lo.s _ | exact Lo.emp | exact Lo.any | exact lo_nil | exact lo_nilE | refine lo_cons ?_ ?_ | refine lo_consE ?_ ?_ | refine lo_map ?_ | refine lo_mapE ?_ | refine Lo.cells ?_ | refine Lo.agg _ ?_ | refine Lo.ref _ ?_ | refine Lo.tup _ ?_ | refine Lo.fn _ _ ?_ | refine Lo.sl _ ?_ | intro _))⟩, ⟨rfl, lo_up (by repeat' (first | exact Lo.s _ | exact Lo.emp | exact Lo.any | exact lo_nil | exact lo_nilE | refine lo_cons ?_ ?_ | refine lo_consE ?_ ?_ | refine lo_map ?_ | refine lo_mapE ?_ | refine Lo.cells ?_ | refine Lo.agg _ ?_ | refine Lo.ref _ ?_ | refine Lo.tup _ ?_ | refine Lo.fn _ _ ?_ | refine Lo.sl _ ?_ | intro _))⟩, trivial⟩)).weak ?_
    all_goals refine aw_draw hmix ?_
    all_goals refine adraw_ex ?_
    all_goals (first | refine ex_free rfl rfl (runs_none rfl) (fun _ => (mv_ptr (.inl rfl) rfl)) ?_ | refine ex_free rfl rfl (runs_none rfl) (fun _ => (mv_ref (.inl rfl) rfl)) ?_ | refine ex_free rfl rfl (runs_none rfl) (fun _ => (mv_s (.inl rfl) rfl)) ?_)
    all_goals (first | refine ex_free rfl rfl (runs_none rfl) (fun _ => (does_nil_ptr rfl rfl)) ?_ | refine ex_free rfl rfl (runs_none rfl) (fun _ => (does_nil_ref rfl rfl)) ?_ | refine ex_free rfl rfl (runs_none rfl) (fun _ => (does_nil_fn rfl rfl)) ?_)
    all_goals (first | refine ex_free rfl rfl (runs_none rfl) (fun _ => (does_fieldAddr_ptr rfl tf99_2 (by decide) rfl)) ?_ | refine ex_free rfl rfl (runs_none rfl) (fun _ => (does_fieldAddr_ref rfl tf99_2 (by decide) rfl)) ?_)
    all_goals (first | refine ex_free rfl rfl (runs_none rfl) (fun _ => (does_load_ref rfl ta80 rfl)) ?_ | refine ex_look rfl rfl (runs_none rfl) (look_ptr rfl ta80 rfl rfl rfl rfl rfl) ?_)
    all_goals (first | refine ex_free rfl rfl (runs_none rfl) (fun _ => (does_fieldAddr_ptr rfl tf56_0 (by decide) rfl)) ?_ | refine ex_free rfl rfl (runs_none rfl) (fun _ => (does_fieldAddr_ref rfl tf56_0 (by decide) rfl)) ?_)
    all_goals (first | refine ex_free rfl rfl (runs_none rfl) (fun _ => (does_load_ref rfl ta3 rfl)) ?_ | refine ex_look rfl rfl (runs_none rfl) (look_ptr rfl ta3 rfl rfl rfl rfl rfl) ?_)
    all_goals (first | refine ex_free rfl rfl (runs_none rfl) (fun _ => (mv_ptr (.inl rfl) rfl)) ?_ | refine ex_free rfl rfl (runs_none rfl) (fun _ => (mv_ref (.inl rfl) rfl)) ?_ | refine ex_free rfl rfl (runs_none rfl) (fun _ => (mv_s (.inl rfl) rfl)) ?_)
    all_goals (first | refine ex_free rfl rfl (runs_none rfl) (fun _ => (does_nil_ptr rfl rfl)) ?_ | refine ex_free rfl rfl (runs_none rfl) (fun _ => (does_nil_ref rfl rfl)) ?_ | refine ex_free rfl rfl (runs_none rfl) (fun _ => (does_nil_fn rfl rfl)) ?_)
    all_goals (first | refine ex_free rfl rfl (runs_none rfl) (fun _ => (does_fieldAddr_ptr rfl tf99_2 (by decide) rfl)) ?_ | refine ex_free rfl rfl (runs_none rfl) (fun _ => (does_fieldAddr_ref rfl tf99_2 (by decide) rfl)) ?_)
    all_goals (first | refine ex_free rfl rfl (runs_none rfl) (fun _ => (does_load_ref rfl ta80 rfl)) ?_ | refine ex_look rfl rfl (runs_none rfl) (look_ptr rfl ta80 rfl rfl rfl rfl rfl) ?_)
    all_goals (first | refine ex_free rfl rfl (runs_none rfl) (fun _ => (does_fieldAddr_ptr rfl tf56_0 (by decide) rfl)) ?_ | refine ex_free rfl rfl (runs_none rfl) (fun _ => (does_fieldAddr_ref rfl tf56_0 (by decide) rfl)) ?_)
    all_goals (first | refine ex_free rfl rfl (runs_none rfl) (fun _ => (does_load_ref rfl ta3 rfl)) ?_ | refine ex_look rfl rfl (runs_none rfl) (look_ptr rfl ta3 rfl rfl rfl rfl rfl) ?_)
    all_goals (first | refine ex_free rfl rfl (runs_none rfl) (fun _ => (does_index_sl rfl ts80 ti27 rfl rfl hv hvn rfl)) ?_ | refine ex_free rfl rfl (runs_none rfl) (fun _ => (does_index_own rfl ts80 ti27 rfl rfl hv hvn)) ?_ | refine ex_free rfl rfl (runs_none rfl) (fun _ => (does_index_sub rfl ts80 ti27 rfl rfl hv hvn)) ?_)
    all_goals (first | refine ex_free rfl rfl (runs_none rfl) (fun _ => (does_load_ref rfl ta27 rfl)) ?_ | refine ex_look rfl rfl (runs_none rfl) (look_ptr rfl ta27 rfl rfl rfl (ownR_get hrow) rfl) ?_)
    all_goals (first | refine ex_free rfl rfl (runs_none rfl) (fun _ => (does_load_refw rfl ta56 ti56 rfl rfl)) ?_ | refine ex_look rfl rfl (runs_none rfl) (look_whole rfl ta56 ti56 rfl rfl rfl rfl rfl) ?_ | refine ex_free rfl rfl (runs_none rfl) (fun _ => (does_load_refs rfl ta56 ti56 rfl (Nat.le_of_ble_eq_true rfl))) ?_ | refine ex_look rfl rfl (runs_none rfl) (look_ptrs rfl ta56 ti56 rfl rfl rfl rfl (Nat.le_of_ble_eq_true rfl)) ?_)
    all_goals (first | refine ex_free rfl rfl (runs_none rfl) (fun _ => (lit1_sF rfl ts27 ti56 rfl rfl rfl rfl)) ?_ | refine ex_free rfl rfl (runs_none rfl) (fun _ => (lit1_slF rfl ts27 ti56 rfl rfl rfl rfl (by repeat' (first | exact Lo.s _ | exact Lo.emp | exact Lo.any | exact lo_nil | exact lo_nilE | refine lo_cons ?_ ?_ | refine lo_consE ?_ ?_ | refine lo_map ?_ | refine lo_mapE ?_ | refine Lo.cells ?_ | refine Lo.agg _ ?_ | refine Lo.ref _ ?_ | refine Lo.tup _ ?_ | refine Lo.fn _ _ ?_ | refine Lo.sl _ ?_ | intro _)))) ?_ | refine ex_free rfl rfl (runs_none rfl) (fun _ => (does_litAF rfl ts27 ti56 rfl rfl (by decide) (by decide) rfl rfl rfl (by repeat' (first | exact Lo.s _ | exact Lo.emp | exact Lo.any | exact lo_nil | exact lo_nilE | refine lo_cons ?_ ?_ | refine lo_consE ?_ ?_ | refine lo_map ?_ | refine lo_mapE ?_ | refine Lo.cells ?_ | refine Lo.agg _ ?_ | refine Lo.ref _ ?_ | refine Lo.tup _ ?_ | refine Lo.fn _ _ ?_ | refine Lo.sl _ ?_ | intro _)))) ?_)
    all_goals refine ex_eff rfl rfl (runs_none rfl) (does_append rfl ts27 ti56 rfl (by decide) rfl (stoN_row hrow) rfl rfl (by first | exact .own _ _ _ rfl rfl _ (by first | rfl | simp) | exact .emp | exact .nil | exact .sl _ (by first | simp; done | intro e he; simp at he; obtain ⟨_, _, rfl⟩ := he; rfl)) (by first | omega | (simp; omega) | (unfold maxLen; simp; omega)) (by first | omega | (simp; omega) | (unfold maxLen; simp; omega))) (fun _ h => app2_other h) ?_
    all_goals (first | refine ex_free rfl rfl (runs_none rfl) (fun _ => (does_index_sl rfl ts80 ti27 rfl rfl hv hvn rfl)) ?_ | refine ex_free rfl rfl (runs_none rfl) (fun _ => (does_index_own rfl ts80 ti27 rfl rfl hv hvn)) ?_ | refine ex_free rfl rfl (runs_none rfl) (fun _ => (does_index_sub rfl ts80 ti27 rfl rfl hv hvn)) ?_)
    all_goals refine ex_eff0 rfl (runs_none rfl) (does_store rfl ti27 rfl rfl rfl (ownR_get hrow) rfl rfl (by decide) (by decide)) (fun _ h => set_other h) ?_
    all_goals refine ex_nil (by kernel_rfl) ?_
    all_goals (repeat (first | refine aw_seq ?_ | refine ath_n ?_ | refine aw_skip ?_ | refine abl_n ?_ | refine aw_block ?_))
    refine aw_region ?_
    refine ops_op rfl rfl (runs_none rfl) (does_add rfl rfl rfl (IntWalk.i64_in _ (by omega))) ?_
    refine ops_op rfl rfl (runs_none rfl) (mv_s (.inl rfl) rfl) ?_
    refine ops_nil ?_
    repeat (first | refine aw_seq ?_ | refine ath_n ?_ | refine aw_skip ?_ | refine abl_n ?_ | refine aw_block ?_)
    exact ⟨i + 1, by omega, by omega, wk_ren2 (mv _ (v + 2)) (mv_nd _ _) hren ⟨.lo _ hln, .lo _ hls, .ptr 0 0 9 0 0 (mv_ne (by omega) (by omega)), .lo _ (lo_Mvs _), .lo _ (by repeat' (first | exact Lo.s _ | exact Lo.emp | exact Lo.any | exact lo_nil | exact lo_nilE | refine lo_cons ?_ ?_ | refine lo_consE ?_ ?_ | refine lo_map ?_ | refine lo_mapE ?_ | refine Lo.cells ?_ | refine Lo.agg _ ?_ | refine Lo.ref _ ?_ | refine Lo.tup _ ?_ | refine Lo.fn _ _ ?_ | refine Lo.sl _ ?_ | intro _)), .lo _ (by repeat' (first | exact Lo.s _ | exact Lo.emp | exact Lo.any | exact lo_nil | exact lo_nilE | refine lo_cons ?_ ?_ | refine lo_consE ?_ ?_ | refine lo_map ?_ | refine lo_mapE ?_ | refine Lo.cells ?_ | refine Lo.agg _ ?_ | refine Lo.ref _ ?_ | refine Lo.tup _ ?_ | refine Lo.fn _ _ ?_ | refine Lo.sl _ ?_ | intro _)), trivial⟩⟩
  have e : i = s.mv.length := by omega
  subst e
  (refine aw_exit ?_; repeat (first | refine ath_x ?_ | refine abl_hit ?_ | refine abl_miss rfl ?_ | refine abl_n ?_ | refine ath_n ?_ | refine aw_seq ?_ | refine aw_skip ?_ | refine aw_block ?_))
  have hcl : ((outsA s.mv s.st.length).map (eL eMv)).length = s.st.length := by simp [outsA]
  refine aw_fzs (id := 1) (S := [.row 9 [wkO n s], .row 1 (ownR 2 3 (rowsO s.mv s.st.length s.mv.length))]) (sz := 1) (sz2 := 3) (rows := rowsO s.mv s.st.length s.mv.length) rfl (fun X => ?_)
  rw [outsA_sl]
  refine aw_weak (kwk_fzC (id := 0) (sz := 9) (i := 1) (sz2 := 1) (e := wkO n s) (e' := wkF n s) (pre := [eI n.places, eL eT n.trans, eI n.source, eI n.sink, eL (eL eI) s.st, eL eMv s.mv, eB s.full]) (post := [eI (-1)]) (cs2 := (outsA s.mv s.st.length).map (eL eMv)) rfl (by rw [hcl]; rfl) rfl (by decide) rfl).weak ?_
  refine aw_weak (F' := [(2, .ref (eN n).cells), (3, .ref (eSpc s).cells), (5, .ptr 0 9 0 0)]) (σ' := [.row 9 [wkF n s]]) (wk_st [0] (by decide) ⟨⟨_, rfl, .rowE (by
    intro e he c hc
    simp at he; subst he
    simp only [wkF, AV.cells, List.mem_cons, List.not_mem_nil, or_false] at hc
    rcases hc with rfl | rfl | rfl | rfl | rfl | rfl | rfl | rfl | rfl
    all_goals first | exact .s _ | exact lo_II _ | exact lo_Mvs _ | exact lo_MvL _ | exact lo_map fun t => lo_T t) rfl⟩, trivial⟩ ⟨.lo _ hln, .lo _ hls, .ptr 0 0 9 0 0 rfl, trivial⟩) ?_
  refine aw_region ?_
  first | refine ops_op rfl rfl (runs_none rfl) (does_load_refw rfl ta24 ti24 rfl rfl) ?_ | refine ops_op rfl rfl (runs_none rfl) (does_load_whole rfl ta24 ti24 rfl rfl rfl rfl rfl) ?_ | refine ops_op rfl rfl (runs_none rfl) (does_load_refs rfl ta24 ti24 rfl (Nat.le_of_ble_eq_true rfl)) ?_ | refine ops_op rfl rfl (runs_none rfl) (does_load_ptrs rfl ta24 ti24 rfl rfl rfl rfl (Nat.le_of_ble_eq_true rfl)) ?_
  refine ops_op rfl rfl (runs_none rfl) (does_call rfl rfl (hfin) (evc_cons rfl evc_nil)) ?_
  first | refine ops_op rfl rfl (runs_none rfl) (mv_tup (.inl rfl) rfl) ?_ | refine ops_op rfl rfl (runs_none rfl) (mv_s (.inl rfl) rfl) ?_
  refine ops_op rfl rfl (runs_none rfl) (does_extract rfl rfl rfl) ?_
  refine ops_op rfl rfl (runs_none rfl) (does_extract rfl rfl rfl) ?_
  first | refine ops_op rfl rfl (runs_none rfl) (mv_own (.inr rfl) rfl) ?_ | refine ops_op rfl rfl (runs_none rfl) (mv_sl (.inr rfl) rfl) ?_ | refine ops_op rfl rfl (runs_none rfl) (mv_s (.inr rfl) rfl) ?_ | refine ops_op rfl rfl (runs_none rfl) (mv_emp (.inr rfl) rfl) ?_ | refine ops_op rfl rfl (runs_none rfl) (mv_sub (.inr rfl) rfl) ?_
  refine ops_op rfl rfl (runs_none rfl) (mv_s (.inr rfl) rfl) ?_
  refine ops_nil ?_
  repeat (first | refine aw_seq ?_ | refine ath_n ?_ | refine aw_skip ?_ | refine abl_n ?_ | refine aw_block ?_)
  refine aw_region ?_
  refine ops_op rfl rfl (runs_none rfl) (mv_s (.inl rfl) rfl) ?_
  refine ops_op rfl rfl (runs_none rfl) (dec_t hfe (does_eql rfl rfl rfl)) ?_
  refine ops_nil ?_
  repeat (first | refine aw_seq ?_ | refine ath_n ?_ | refine aw_skip ?_ | refine abl_n ?_ | refine aw_block ?_)
  refine aw_true rfl ?_
  repeat (first | refine aw_seq ?_ | refine ath_n ?_ | refine aw_skip ?_ | refine abl_n ?_ | refine aw_block ?_)
  refine aw_region ?_
  first | refine ops_op rfl rfl (runs_none rfl) (mv_ptr (.inl rfl) rfl) ?_ | refine ops_op rfl rfl (runs_none rfl) (mv_ref (.inl rfl) rfl) ?_ | refine ops_op rfl rfl (runs_none rfl) (mv_s (.inl rfl) rfl) ?_
  first | refine ops_op rfl rfl (runs_none rfl) (does_load_refw rfl ta29 ti29 rfl rfl) ?_ | refine ops_op rfl rfl (runs_none rfl) (does_load_whole rfl ta29 ti29 rfl rfl rfl rfl rfl) ?_ | refine ops_op rfl rfl (runs_none rfl) (does_load_refs rfl ta29 ti29 rfl (Nat.le_of_ble_eq_true rfl)) ?_ | refine ops_op rfl rfl (runs_none rfl) (does_load_ptrs rfl ta29 ti29 rfl rfl rfl rfl (Nat.le_of_ble_eq_true rfl)) ?_
  first | refine ops_op rfl rfl (runs_none rfl) (mv_own (.inl rfl) rfl) ?_ | refine ops_op rfl rfl (runs_none rfl) (mv_sl (.inl rfl) rfl) ?_ | refine ops_op rfl rfl (runs_none rfl) (mv_s (.inl rfl) rfl) ?_ | refine ops_op rfl rfl (runs_none rfl) (mv_emp (.inl rfl) rfl) ?_ | refine ops_op rfl rfl (runs_none rfl) (mv_sub (.inl rfl) rfl) ?_
  refine ops_op rfl rfl (runs_none rfl) (does_call rfl rfl (hfind) (evc_cons rfl (evc_cons rfl evc_nil))) ?_
  first | refine ops_op rfl rfl (runs_none rfl) (does_nil_ptr rfl rfl) ?_ | refine ops_op rfl rfl (runs_none rfl) (does_nil_ref rfl rfl) ?_ | refine ops_op rfl rfl (runs_none rfl) (does_nil_fn rfl rfl) ?_
  first | refine ops_op rfl rfl (runs_none rfl) (does_fieldAddr_ptr rfl tf99_3 (by decide) rfl) ?_ | refine ops_op rfl rfl (runs_none rfl) (does_fieldAddr_ref rfl tf99_3 (by decide) rfl) ?_
  refine ops_eff rfl (runs_none rfl) (does_store rfl ti3 rfl rfl rfl rfl rfl rfl (by decide) (by decide)) ?_
  refine ops_nil ?_
  repeat (first | refine aw_seq ?_ | refine ath_n ?_ | refine aw_skip ?_ | refine abl_n ?_ | refine aw_block ?_)
  refine aw_region ?_
  first | refine ops_op rfl rfl (runs_none rfl) (mv_ptr (.inl rfl) rfl) ?_ | refine ops_op rfl rfl (runs_none rfl) (mv_ref (.inl rfl) rfl) ?_ | refine ops_op rfl rfl (runs_none rfl) (mv_s (.inl rfl) rfl) ?_
  first | refine ops_op rfl rfl (runs_none rfl) (mv_ptr (.inr rfl) rfl) ?_ | refine ops_op rfl rfl (runs_none rfl) (mv_ref (.inr rfl) rfl) ?_ | refine ops_op rfl rfl (runs_none rfl) (mv_s (.inr rfl) rfl) ?_
  refine ops_nil ?_
  repeat (first | refine aw_seq ?_ | refine ath_n ?_ | refine aw_skip ?_ | refine abl_n ?_ | refine aw_block ?_)
  (refine aw_ret ?_; repeat (first | refine ath_r ?_ | refine abl_r ?_))
  exact post1f (.inr rfl) rfl (show Fini _ (.ptr 0 9 0 0) (.ref (AV.agg (wkC n s fin)).cells) from .ptr 0 9 0 _ _ (.agg (wkC n s fin)) rfl rfl rfl)
end Go.Proofs.Ythdpacbjbdkemaa.Aw
end
