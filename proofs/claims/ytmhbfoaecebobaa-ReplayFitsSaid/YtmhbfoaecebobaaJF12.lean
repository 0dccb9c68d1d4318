/-
  Texts joined: RRd. Conditions: none.
-/
import Derived.Test.YtmhbfoaecebobaaJF11
section
namespace Go.Proofs.Ytmhbfoaecebobaa.Aw
set_option linter.unusedSimpArgs false
set_option linter.unusedVariables false
open Go.RowKit Go.Proofs
variable {P : Program} [IsP P]

theorem not_mem_take_succ {α : Type} [Inhabited α] {l : List α} {x : α} {k : Nat} (hlt : k < l.length) (h : x ∉ l.take k) (hne : gti l k ≠ x) : x ∉ l.take (k + 1) := by
  rw [List.take_add_one, gti_get hlt]
  simp only [List.mem_append, Option.toList_some, List.mem_singleton, not_or]
  exact ⟨h, fun e => hne e.symm⟩
theorem Has_pf (l : List Int) (x : Int) : Pure P 52 [eL eI l, eI x] (eB (decide (x ∈ l))) := by
  refine aw_fn (by rw [IsP.eq (P := P)]; exact Try.func52) rfl rfl rfl rfl rfl (by repeat' (first | exact Lo.s _ | exact Lo.emp | exact Lo.any | exact lo_nil | exact lo_nilE | refine lo_cons ?_ ?_ | refine lo_consE ?_ ?_ | refine lo_map ?_ | refine lo_mapE ?_ | refine Lo.cells ?_ | refine Lo.agg _ ?_ | refine Lo.ref _ ?_ | refine Lo.tup _ ?_ | refine Lo.fn _ _ ?_ | refine Lo.sl _ ?_ | intro _)) (by repeat' (first | exact Lo.s _ | exact Lo.emp | exact Lo.any | exact lo_nil | exact lo_nilE | refine lo_cons ?_ ?_ | refine lo_consE ?_ ?_ | refine lo_map ?_ | refine lo_mapE ?_ | refine Lo.cells ?_ | refine Lo.agg _ ?_ | refine Lo.ref _ ?_ | refine Lo.tup _ ?_ | refine Lo.fn _ _ ?_ | refine Lo.sl _ ?_ | intro _)) (by simp only [argF]; rfl) ?_
  repeat (first | refine aw_seq ?_ | refine ath_n ?_ | refine aw_skip ?_ | refine abl_n ?_ | refine aw_block ?_)
  refine aw_region ?_
  refine ops_op rfl rfl (runs_none rfl) (mv_s (.inr rfl) rfl) ?_
  refine ops_nil ?_
  repeat (first | refine aw_seq ?_ | refine ath_n ?_ | refine aw_skip ?_ | refine abl_n ?_ | refine aw_block ?_)
  refine aw_bdm (d := 0) rfl (fun ha => ?_)
  unfold maxLen at ha
  refine aw_region ?_
  refine ops_op rfl rfl (runs_none rfl) (mv_s (.inr rfl) rfl) ?_
  refine ops_nil ?_
  repeat (first | refine aw_seq ?_ | refine ath_n ?_ | refine aw_skip ?_ | refine abl_n ?_ | refine aw_block ?_)
  refine aw_loops (S := Nat) (fun k => [(0, eL eI l), (1, eI x), (5, eI k)]) (fun _ => []) (fun k => k ≤ l.length ∧ x ∉ l.take k) (fun k => l.length - k) 0 (wk_sub _ ⟨rfl, rfl, rfl, trivial⟩) ⟨by omega, by simp⟩ (fun k hk => ?_)
  repeat (first | refine aw_seq ?_ | refine ath_n ?_ | refine aw_skip ?_ | refine abl_n ?_ | refine aw_block ?_)
  refine aw_region ?_
  refine ops_op rfl rfl (runs_none rfl) (mv_s (.inl rfl) rfl) ?_
  first | refine ops_op rfl rfl (runs_none rfl) (mv_own (.inl rfl) rfl) ?_ | refine ops_op rfl rfl (runs_none rfl) (mv_sl (.inl rfl) rfl) ?_ | refine ops_op rfl rfl (runs_none rfl) (mv_s (.inl rfl) rfl) ?_ | refine ops_op rfl rfl (runs_none rfl) (mv_emp (.inl rfl) rfl) ?_
  first | refine ops_op rfl rfl (runs_none rfl) (does_len_map rfl ts30 rfl) ?_ | refine ops_op rfl rfl (runs_none rfl) (does_len_sl rfl ts30 rfl) ?_ | refine ops_op rfl rfl (runs_none rfl) (does_len_own rfl ts30 rfl) ?_ | refine ops_op rfl rfl (runs_none rfl) (does_len_s rfl ts30 rfl) ?_ | refine ops_op rfl rfl (runs_none rfl) (does_len_emp rfl ts30 rfl) ?_
  refine ops_op rfl rfl (runs_none rfl) (does_lss rfl rfl rfl) ?_
  refine ops_nil ?_
  repeat (first | refine aw_seq ?_ | refine ath_n ?_ | refine aw_skip ?_ | refine abl_n ?_ | refine aw_block ?_)
  refine aw_if rfl (fun h => ?_) (fun h => ?_)
  · have hlt : k < l.length := by omega
    repeat (first | refine aw_seq ?_ | refine ath_n ?_ | refine aw_skip ?_ | refine abl_n ?_ | refine aw_block ?_)
    refine aw_region ?_
    first | refine ops_op rfl rfl (runs_none rfl) (mv_own (.inl rfl) rfl) ?_ | refine ops_op rfl rfl (runs_none rfl) (mv_sl (.inl rfl) rfl) ?_ | refine ops_op rfl rfl (runs_none rfl) (mv_s (.inl rfl) rfl) ?_ | refine ops_op rfl rfl (runs_none rfl) (mv_emp (.inl rfl) rfl) ?_
    refine ops_op rfl rfl (runs_none rfl) (mv_s (.inl rfl) rfl) ?_
    first | refine ops_op rfl rfl (runs_none rfl) (does_index_sl rfl ts30 ti3 rfl rfl rfl (ix_map hlt) rfl) ?_ | refine ops_op rfl rfl (runs_none rfl) (does_index_own rfl ts30 ti3 rfl rfl rfl (ix_map hlt)) ?_
    first | refine ops_op rfl rfl (runs_none rfl) (does_load_ref rfl ta3 rfl) ?_ | refine ops_op rfl rfl (runs_none rfl) (does_load_ptr rfl ta3 rfl rfl rfl rfl rfl) ?_
    refine ops_op rfl rfl (runs_none rfl) (mv_s (.inl rfl) rfl) ?_
    refine ops_op rfl rfl (runs_none rfl) (does_eql rfl rfl rfl) ?_
    refine ops_nil ?_
    repeat (first | refine aw_seq ?_ | refine ath_n ?_ | refine aw_skip ?_ | refine abl_n ?_ | refine aw_block ?_)
    refine aw_if rfl (fun h => ?_) (fun h => ?_)
    · repeat (first | refine aw_seq ?_ | refine ath_n ?_ | refine aw_skip ?_ | refine abl_n ?_ | refine aw_block ?_)
      refine aw_region ?_
      refine ops_op rfl rfl (runs_none rfl) (mv_s (.inr rfl) rfl) ?_
      refine ops_nil ?_
      repeat (first | refine aw_seq ?_ | refine ath_n ?_ | refine aw_skip ?_ | refine abl_n ?_ | refine aw_block ?_)
      (refine aw_ret ?_; repeat (first | refine ath_r ?_ | refine abl_r ?_))
      refine post1 (.inr rfl) rfl (congrArg eB ?_)
      have : x ∈ l := h ▸ gti_mem hlt
      simp [this]
    · repeat (first | refine aw_seq ?_ | refine ath_n ?_ | refine aw_skip ?_ | refine abl_n ?_ | refine aw_block ?_)
      refine aw_region ?_
      refine ops_op rfl rfl (runs_none rfl) (mv_s (.inl rfl) rfl) ?_
      refine ops_op rfl rfl (runs_none rfl) (does_add rfl rfl rfl (IntWalk.i64_in _ (by omega))) ?_
      refine ops_op rfl rfl (runs_none rfl) (mv_s (.inr rfl) rfl) ?_
      refine ops_nil ?_
      repeat (first | refine aw_seq ?_ | refine ath_n ?_ | refine aw_skip ?_ | refine abl_n ?_ | refine aw_block ?_)
      exact ⟨k + 1, ⟨by omega, not_mem_take_succ hlt hk.2 h⟩, by omega, wk_sub _ ⟨rfl, rfl, rfl, trivial⟩⟩
  · (refine aw_exit ?_; repeat (first | refine ath_x ?_ | refine abl_hit ?_ | refine abl_miss rfl ?_ | refine abl_n ?_ | refine ath_n ?_ | refine aw_seq ?_ | refine aw_skip ?_ | refine aw_block ?_))
    refine aw_region ?_
    refine ops_op rfl rfl (runs_none rfl) (mv_s (.inr rfl) rfl) ?_
    refine ops_nil ?_
    repeat (first | refine aw_seq ?_ | refine ath_n ?_ | refine aw_skip ?_ | refine abl_n ?_ | refine aw_block ?_)
    (refine aw_ret ?_; repeat (first | refine ath_r ?_ | refine abl_r ?_))
    refine post1 (.inr rfl) rfl (congrArg eB ?_)
    have h2 := hk.2
    rw [List.take_of_length_le (by omega)] at h2
    simp [h2]
theorem some_pf (a b : List Int) : Pure P 53 [eL eI a, eL eI b] (eB (a.any fun y => decide (y ∈ b))) := by
  refine aw_fn (by rw [IsP.eq (P := P)]; exact Try.func53) rfl rfl rfl rfl rfl (by repeat' (first | exact Lo.s _ | exact Lo.emp | exact Lo.any | exact lo_nil | exact lo_nilE | refine lo_cons ?_ ?_ | refine lo_consE ?_ ?_ | refine lo_map ?_ | refine lo_mapE ?_ | refine Lo.cells ?_ | refine Lo.agg _ ?_ | refine Lo.ref _ ?_ | refine Lo.tup _ ?_ | refine Lo.fn _ _ ?_ | refine Lo.sl _ ?_ | intro _)) (by repeat' (first | exact Lo.s _ | exact Lo.emp | exact Lo.any | exact lo_nil | exact lo_nilE | refine lo_cons ?_ ?_ | refine lo_consE ?_ ?_ | refine lo_map ?_ | refine lo_mapE ?_ | refine Lo.cells ?_ | refine Lo.agg _ ?_ | refine Lo.ref _ ?_ | refine Lo.tup _ ?_ | refine Lo.fn _ _ ?_ | refine Lo.sl _ ?_ | intro _)) (by simp only [argF]; rfl) ?_
  repeat (first | refine aw_seq ?_ | refine ath_n ?_ | refine aw_skip ?_ | refine abl_n ?_ | refine aw_block ?_)
  refine aw_region ?_
  refine ops_op rfl rfl (runs_none rfl) (mv_s (.inr rfl) rfl) ?_
  refine ops_nil ?_
  repeat (first | refine aw_seq ?_ | refine ath_n ?_ | refine aw_skip ?_ | refine abl_n ?_ | refine aw_block ?_)
  refine aw_bdm (d := 0) rfl (fun ha => ?_)
  unfold maxLen at ha
  refine aw_region ?_
  refine ops_op rfl rfl (runs_none rfl) (mv_s (.inr rfl) rfl) ?_
  refine ops_nil ?_
  repeat (first | refine aw_seq ?_ | refine ath_n ?_ | refine aw_skip ?_ | refine abl_n ?_ | refine aw_block ?_)
  refine aw_loops (S := Nat) (fun k => [(0, eL eI a), (1, eL eI b), (5, eI k)]) (fun _ => []) (fun k => k ≤ a.length ∧ ∀ y ∈ a.take k, y ∉ b) (fun k => a.length - k) 0 (wk_sub _ ⟨rfl, rfl, rfl, trivial⟩) ⟨by omega, by simp⟩ (fun k hk => ?_)
  repeat (first | refine aw_seq ?_ | refine ath_n ?_ | refine aw_skip ?_ | refine abl_n ?_ | refine aw_block ?_)
  refine aw_region ?_
  refine ops_op rfl rfl (runs_none rfl) (mv_s (.inl rfl) rfl) ?_
  first | refine ops_op rfl rfl (runs_none rfl) (mv_own (.inl rfl) rfl) ?_ | refine ops_op rfl rfl (runs_none rfl) (mv_sl (.inl rfl) rfl) ?_ | refine ops_op rfl rfl (runs_none rfl) (mv_s (.inl rfl) rfl) ?_ | refine ops_op rfl rfl (runs_none rfl) (mv_emp (.inl rfl) rfl) ?_
  first | refine ops_op rfl rfl (runs_none rfl) (does_len_map rfl ts30 rfl) ?_ | refine ops_op rfl rfl (runs_none rfl) (does_len_sl rfl ts30 rfl) ?_ | refine ops_op rfl rfl (runs_none rfl) (does_len_own rfl ts30 rfl) ?_ | refine ops_op rfl rfl (runs_none rfl) (does_len_s rfl ts30 rfl) ?_ | refine ops_op rfl rfl (runs_none rfl) (does_len_emp rfl ts30 rfl) ?_
  refine ops_op rfl rfl (runs_none rfl) (does_lss rfl rfl rfl) ?_
  refine ops_nil ?_
  repeat (first | refine aw_seq ?_ | refine ath_n ?_ | refine aw_skip ?_ | refine abl_n ?_ | refine aw_block ?_)
  refine aw_if rfl (fun h => ?_) (fun h => ?_)
  · have hlt : k < a.length := by omega
    repeat (first | refine aw_seq ?_ | refine ath_n ?_ | refine aw_skip ?_ | refine abl_n ?_ | refine aw_block ?_)
    refine aw_region ?_
    first | refine ops_op rfl rfl (runs_none rfl) (mv_own (.inl rfl) rfl) ?_ | refine ops_op rfl rfl (runs_none rfl) (mv_sl (.inl rfl) rfl) ?_ | refine ops_op rfl rfl (runs_none rfl) (mv_s (.inl rfl) rfl) ?_ | refine ops_op rfl rfl (runs_none rfl) (mv_emp (.inl rfl) rfl) ?_
    first | refine ops_op rfl rfl (runs_none rfl) (mv_own (.inl rfl) rfl) ?_ | refine ops_op rfl rfl (runs_none rfl) (mv_sl (.inl rfl) rfl) ?_ | refine ops_op rfl rfl (runs_none rfl) (mv_s (.inl rfl) rfl) ?_ | refine ops_op rfl rfl (runs_none rfl) (mv_emp (.inl rfl) rfl) ?_
    refine ops_op rfl rfl (runs_none rfl) (mv_s (.inl rfl) rfl) ?_
    first | refine ops_op rfl rfl (runs_none rfl) (does_index_sl rfl ts30 ti3 rfl rfl rfl (ix_map hlt) rfl) ?_ | refine ops_op rfl rfl (runs_none rfl) (does_index_own rfl ts30 ti3 rfl rfl rfl (ix_map hlt)) ?_
    first | refine ops_op rfl rfl (runs_none rfl) (does_load_ref rfl ta3 rfl) ?_ | refine ops_op rfl rfl (runs_none rfl) (does_load_ptr rfl ta3 rfl rfl rfl rfl rfl) ?_
    refine ops_op rfl rfl (runs_none rfl) (does_call rfl rfl (Has_pf b (gti a k)) (evc_cons rfl (evc_cons rfl evc_nil))) ?_
    refine ops_nil ?_
    repeat (first | refine aw_seq ?_ | refine ath_n ?_ | refine aw_skip ?_ | refine abl_n ?_ | refine aw_block ?_)
    refine aw_if rfl (fun h => ?_) (fun h => ?_)
    · repeat (first | refine aw_seq ?_ | refine ath_n ?_ | refine aw_skip ?_ | refine abl_n ?_ | refine aw_block ?_)
      refine aw_region ?_
      refine ops_op rfl rfl (runs_none rfl) (mv_s (.inr rfl) rfl) ?_
      refine ops_nil ?_
      repeat (first | refine aw_seq ?_ | refine ath_n ?_ | refine aw_skip ?_ | refine abl_n ?_ | refine aw_block ?_)
      (refine aw_ret ?_; repeat (first | refine ath_r ?_ | refine abl_r ?_))
      refine post1 (.inr rfl) rfl (congrArg eB ?_)
      symm
      exact List.any_eq_true.2 ⟨_, gti_mem hlt, by simpa using h⟩
    · repeat (first | refine aw_seq ?_ | refine ath_n ?_ | refine aw_skip ?_ | refine abl_n ?_ | refine aw_block ?_)
      refine aw_region ?_
      refine ops_op rfl rfl (runs_none rfl) (mv_s (.inl rfl) rfl) ?_
      refine ops_op rfl rfl (runs_none rfl) (does_add rfl rfl rfl (IntWalk.i64_in _ (by omega))) ?_
      refine ops_op rfl rfl (runs_none rfl) (mv_s (.inr rfl) rfl) ?_
      refine ops_nil ?_
      repeat (first | refine aw_seq ?_ | refine ath_n ?_ | refine aw_skip ?_ | refine abl_n ?_ | refine aw_block ?_)
      refine ⟨k + 1, ⟨by omega, fun y hy => ?_⟩, by omega, wk_sub _ ⟨rfl, rfl, rfl, trivial⟩⟩
      rw [List.take_add_one, gti_get hlt] at hy
      simp only [List.mem_append, Option.toList_some, List.mem_singleton] at hy
      rcases hy with hy | rfl
      · exact hk.2 y hy
      · exact h
  · (refine aw_exit ?_; repeat (first | refine ath_x ?_ | refine abl_hit ?_ | refine abl_miss rfl ?_ | refine abl_n ?_ | refine ath_n ?_ | refine aw_seq ?_ | refine aw_skip ?_ | refine aw_block ?_))
    refine aw_region ?_
    refine ops_op rfl rfl (runs_none rfl) (mv_s (.inr rfl) rfl) ?_
    refine ops_nil ?_
    repeat (first | refine aw_seq ?_ | refine ath_n ?_ | refine aw_skip ?_ | refine abl_n ?_ | refine aw_block ?_)
    (refine aw_ret ?_; repeat (first | refine ath_r ?_ | refine abl_r ?_))
    refine post1 (.inr rfl) rfl (congrArg eB ?_)
    have h2 := hk.2
    rw [List.take_of_length_le (by omega)] at h2
    symm
    exact List.any_eq_false.2 (fun y hy => by simpa using h2 y hy)
set_option maxHeartbeats 4000000 in
theorem reach_pf (n : Net) (s : Int) (hval : validB n = true) (hs : 0 ≤ s ∧ s < n.places) : Pure P 50 [eN n, eI s] (eL eI (reachW n s)) := by
  have hpl := validB_places hval
  have hplc := Plc.of hval
  refine aw_fn (by rw [IsP.eq (P := P)]; exact Try.func50) rfl rfl rfl rfl rfl (by repeat' (first | exact Lo.s _ | exact Lo.emp | exact Lo.any | exact lo_nil | exact lo_nilE | refine lo_cons ?_ ?_ | refine lo_consE ?_ ?_ | refine lo_map ?_ | refine lo_mapE ?_ | refine Lo.cells ?_ | refine Lo.agg _ ?_ | refine Lo.ref _ ?_ | refine Lo.tup _ ?_ | refine Lo.fn _ _ ?_ | refine Lo.sl _ ?_ | intro _)) (by repeat' (first | exact Lo.s _ | exact Lo.emp | exact Lo.any | exact lo_nil | exact lo_nilE | refine lo_cons ?_ ?_ | refine lo_consE ?_ ?_ | refine lo_map ?_ | refine lo_mapE ?_ | refine Lo.cells ?_ | refine Lo.agg _ ?_ | refine Lo.ref _ ?_ | refine Lo.tup _ ?_ | refine Lo.fn _ _ ?_ | refine Lo.sl _ ?_ | intro _)) (by simp only [argF]; rfl) ?_
  repeat (first | refine aw_seq ?_ | refine ath_n ?_ | refine aw_skip ?_ | refine abl_n ?_ | refine aw_block ?_)
  refine aw_region ?_
  refine ops_op rfl rfl (runs_none rfl) (does_box rfl rfl rfl rfl) ?_
  refine aops_weak (wk_froz (id := 0) rfl) (aops_weak (wk_ref (d := 2) rfl rfl rfl) ?_)
  first | refine ops_op rfl rfl (runs_none rfl) (mv_own (.inr rfl) rfl) ?_ | refine ops_op rfl rfl (runs_none rfl) (mv_sl (.inr rfl) rfl) ?_ | refine ops_op rfl rfl (runs_none rfl) (mv_s (.inr rfl) rfl) ?_ | refine ops_op rfl rfl (runs_none rfl) (mv_emp (.inr rfl) rfl) ?_
  refine ops_nil ?_
  repeat (first | refine aw_seq ?_ | refine ath_n ?_ | refine aw_skip ?_ | refine abl_n ?_ | refine aw_block ?_)
  refine aw_region ?_
  refine ops_op rfl rfl (runs_none rfl) (mv_s (.inl rfl) rfl) ?_
  first | refine ops_op rfl rfl (runs_none rfl) (lit1_s rfl ts30 ti3 rfl rfl rfl rfl) ?_ | refine ops_op rfl rfl (runs_none rfl) (lit1_sl rfl ts30 ti3 rfl rfl rfl rfl) ?_ | refine ops_op rfl rfl (runs_none rfl) (does_litA rfl ts30 ti3 rfl rfl (by decide) (by decide) rfl rfl rfl) ?_
  first | refine ops_op rfl rfl (runs_none rfl) (mv_own (.inr rfl) rfl) ?_ | refine ops_op rfl rfl (runs_none rfl) (mv_sl (.inr rfl) rfl) ?_ | refine ops_op rfl rfl (runs_none rfl) (mv_s (.inr rfl) rfl) ?_ | refine ops_op rfl rfl (runs_none rfl) (mv_emp (.inr rfl) rfl) ?_
  refine ops_nil ?_
  repeat (first | refine aw_seq ?_ | refine ath_n ?_ | refine aw_skip ?_ | refine abl_n ?_ | refine aw_block ?_)
  refine aw_region ?_
  refine ops_op rfl rfl (runs_none rfl) (mv_s (.inr rfl) rfl) ?_
  refine ops_nil ?_
  repeat (first | refine aw_seq ?_ | refine ath_n ?_ | refine aw_skip ?_ | refine abl_n ?_ | refine aw_block ?_)
  refine aw_loops (S := List Int × Nat) (fun q => [(2, .ref (eN n).cells), (5, .own 0 1 q.1.length), (6, eI q.2)]) (fun q => [.row 1 (q.1.map eI)]) (fun q => q.2 ≤ q.1.length ∧ LI n s q.1 ∧ reachW n s = rchW n (41 - q.2) q.2 q.1) (fun q => 41 - q.2) ([s], 0)
    (wk_st [1] (by decide) ⟨⟨_, rfl, .rowE (by repeat' (first | exact Lo.s _ | exact Lo.emp | exact Lo.any | exact lo_nil | exact lo_nilE | refine lo_cons ?_ ?_ | refine lo_consE ?_ ?_ | refine lo_map ?_ | refine lo_mapE ?_ | refine Lo.cells ?_ | refine Lo.agg _ ?_ | refine Lo.ref _ ?_ | refine Lo.tup _ ?_ | refine Lo.fn _ _ ?_ | refine Lo.sl _ ?_ | intro _)) rfl⟩, trivial⟩ ⟨.lo _ (by repeat' (first | exact Lo.s _ | exact Lo.emp | exact Lo.any | exact lo_nil | exact lo_nilE | refine lo_cons ?_ ?_ | refine lo_consE ?_ ?_ | refine lo_map ?_ | refine lo_mapE ?_ | refine Lo.cells ?_ | refine Lo.agg _ ?_ | refine Lo.ref _ ?_ | refine Lo.tup _ ?_ | refine Lo.fn _ _ ?_ | refine Lo.sl _ ?_ | intro _)), .own 1 0 1 _ _ rfl rfl, .lo _ (by repeat' (first | exact Lo.s _ | exact Lo.emp | exact Lo.any | exact lo_nil | exact lo_nilE | refine lo_cons ?_ ?_ | refine lo_consE ?_ ?_ | refine lo_map ?_ | refine lo_mapE ?_ | refine Lo.cells ?_ | refine Lo.agg _ ?_ | refine Lo.ref _ ?_ | refine Lo.tup _ ?_ | refine Lo.fn _ _ ?_ | refine Lo.sl _ ?_ | intro _)), trivial⟩) ⟨by simp, LI.init hs, rfl⟩ ?_
  rintro ⟨L, i⟩ ⟨hil, HL, HE⟩
  dsimp only at hil HL HE ⊢
  have hll := HL.len
  repeat (first | refine aw_seq ?_ | refine ath_n ?_ | refine aw_skip ?_ | refine abl_n ?_ | refine aw_block ?_)
  refine aw_region ?_
  refine ops_op rfl rfl (runs_none rfl) (mv_s (.inl rfl) rfl) ?_
  first | refine ops_op rfl rfl (runs_none rfl) (mv_own (.inl rfl) rfl) ?_ | refine ops_op rfl rfl (runs_none rfl) (mv_sl (.inl rfl) rfl) ?_ | refine ops_op rfl rfl (runs_none rfl) (mv_s (.inl rfl) rfl) ?_ | refine ops_op rfl rfl (runs_none rfl) (mv_emp (.inl rfl) rfl) ?_
  first | refine ops_op rfl rfl (runs_none rfl) (does_len_map rfl ts30 rfl) ?_ | refine ops_op rfl rfl (runs_none rfl) (does_len_sl rfl ts30 rfl) ?_ | refine ops_op rfl rfl (runs_none rfl) (does_len_own rfl ts30 rfl) ?_ | refine ops_op rfl rfl (runs_none rfl) (does_len_s rfl ts30 rfl) ?_ | refine ops_op rfl rfl (runs_none rfl) (does_len_emp rfl ts30 rfl) ?_
  refine ops_op rfl rfl (runs_none rfl) (does_lss rfl rfl rfl) ?_
  refine ops_nil ?_
  repeat (first | refine aw_seq ?_ | refine ath_n ?_ | refine aw_skip ?_ | refine abl_n ?_ | refine aw_block ?_)
  refine aw_if rfl (fun h => ?_) (fun h => ?_)
  · have hlt : i < L.length := by omega
    have HE1 : reachW n s = rchW n (41 - (i + 1)) (i + 1) (rndW n (gti L i) L n.trans.length) := by
      rw [HE, show 41 - i = (41 - (i + 1)) + 1 by omega, rchW, if_pos hlt]
    have hxr := HL.rch _ (gti_mem hlt)
    obtain ⟨x, hx⟩ : ∃ x, gti L i = x := ⟨_, rfl⟩
    rw [hx] at HE1 hxr
    repeat (first | refine aw_seq ?_ | refine ath_n ?_ | refine aw_skip ?_ | refine abl_n ?_ | refine aw_block ?_)
    refine aw_region ?_
    refine ops_op rfl rfl (runs_none rfl) (mv_s (.inr rfl) rfl) ?_
    refine ops_nil ?_
    repeat (first | refine aw_seq ?_ | refine ath_n ?_ | refine aw_skip ?_ | refine abl_n ?_ | refine aw_block ?_)
    refine aw_loops (S := Nat) (fun k => [(2, .ref (eN n).cells), (5, .own 0 1 (rndW n x L k).length), (6, eI i), (7, eI k)]) (fun k => [.row 1 ((rndW n x L k).map eI)]) (fun k => k ≤ n.trans.length) (fun k => n.trans.length - k) 0 (wk_sub _ ⟨rfl, rfl, rfl, rfl, trivial⟩) (Nat.zero_le _) (fun k hk => ?_)
    have HK := HL.rnd hplc hxr hk
    have hkl := HK.len
    have hki : gti (rndW n x L k) i = x ∧ i < (rndW n x L k).length := by
      obtain ⟨t, ht⟩ := rndW_pre n x L k
      rw [ht, gti_app hlt, hx]
      exact ⟨rfl, by simp; omega⟩
    have HS : rndW n x L (k + 1) = addT n x (rndW n x L k) k := rfl
    have HX : k = n.trans.length → reachW n s = rchW n (41 - (i + 1)) (i + 1) (rndW n x L k) := fun h => by rw [HE1, h]
    generalize rndW n x L k = K at *
    repeat (first | refine aw_seq ?_ | refine ath_n ?_ | refine aw_skip ?_ | refine abl_n ?_ | refine aw_block ?_)
    refine aw_region ?_
    refine ops_op rfl rfl (runs_none rfl) (mv_s (.inl rfl) rfl) ?_
    first | refine ops_op rfl rfl (runs_none rfl) (does_fieldAddr_ptr rfl tf24_1 (by decide) rfl) ?_ | refine ops_op rfl rfl (runs_none rfl) (does_fieldAddr_ref rfl tf24_1 (by decide) rfl) ?_
    first | refine ops_op rfl rfl (runs_none rfl) (does_load_ref rfl ta22 rfl) ?_ | refine ops_op rfl rfl (runs_none rfl) (does_load_ptr rfl ta22 rfl rfl rfl rfl rfl) ?_
    first | refine ops_op rfl rfl (runs_none rfl) (does_len_map rfl ts22 rfl) ?_ | refine ops_op rfl rfl (runs_none rfl) (does_len_sl rfl ts22 rfl) ?_ | refine ops_op rfl rfl (runs_none rfl) (does_len_own rfl ts22 rfl) ?_ | refine ops_op rfl rfl (runs_none rfl) (does_len_s rfl ts22 rfl) ?_ | refine ops_op rfl rfl (runs_none rfl) (does_len_emp rfl ts22 rfl) ?_
    refine ops_op rfl rfl (runs_none rfl) (does_lss rfl rfl rfl) ?_
    refine ops_nil ?_
    repeat (first | refine aw_seq ?_ | refine ath_n ?_ | refine aw_skip ?_ | refine abl_n ?_ | refine aw_block ?_)
    refine aw_if rfl (fun h => ?_) (fun h => ?_)
    · have hlk : k < n.trans.length := by omega
      obtain ⟨_, _, hil2, hol2⟩ := trans_in hval hlk
      repeat (first | refine aw_seq ?_ | refine ath_n ?_ | refine aw_skip ?_ | refine abl_n ?_ | refine aw_block ?_)
      refine aw_draw hmix ?_
      refine adraw_quiet (by kernel_rfl) ?_
      first | refine qx_op rfl rfl (runs_none rfl) (does_fieldAddr_ptr rfl tf24_1 (by decide) rfl) ?_ | refine qx_op rfl rfl (runs_none rfl) (does_fieldAddr_ref rfl tf24_1 (by decide) rfl) ?_
      first | refine qx_op rfl rfl (runs_none rfl) (does_load_ref rfl ta22 rfl) ?_ | refine qx_op rfl rfl (runs_none rfl) (does_load_ptr rfl ta22 rfl rfl rfl rfl rfl) ?_
      refine qx_op rfl rfl (runs_none rfl) (mv_s (.inl rfl) rfl) ?_
      first | refine qx_op rfl rfl (runs_none rfl) (does_index_sl rfl ts22 ti46 rfl rfl rfl (ix_map hlk) rfl) ?_ | refine qx_op rfl rfl (runs_none rfl) (does_index_own rfl ts22 ti46 rfl rfl rfl (ix_map hlk)) ?_
      first | refine qx_op rfl rfl (runs_none rfl) (does_fieldAddr_ptr rfl tf46_1 (by decide) rfl) ?_ | refine qx_op rfl rfl (runs_none rfl) (does_fieldAddr_ref rfl tf46_1 (by decide) rfl) ?_
      first | refine qx_op rfl rfl (runs_none rfl) (does_load_ref rfl ta30 rfl) ?_ | refine qx_op rfl rfl (runs_none rfl) (does_load_ptr rfl ta30 rfl rfl rfl rfl rfl) ?_
      first | refine qx_op rfl rfl (runs_none rfl) (mv_own (.inl rfl) rfl) ?_ | refine qx_op rfl rfl (runs_none rfl) (mv_sl (.inl rfl) rfl) ?_ | refine qx_op rfl rfl (runs_none rfl) (mv_s (.inl rfl) rfl) ?_ | refine qx_op rfl rfl (runs_none rfl) (mv_emp (.inl rfl) rfl) ?_
      refine qx_op rfl rfl (runs_none rfl) (mv_s (.inl rfl) rfl) ?_
      first | refine qx_op rfl rfl (runs_none rfl) (does_index_sl rfl ts30 ti3 rfl rfl rfl hki.2 rfl) ?_ | refine qx_op rfl rfl (runs_none rfl) (does_index_own rfl ts30 ti3 rfl rfl rfl hki.2) ?_
      first | refine qx_op rfl rfl (runs_none rfl) (does_load_ref rfl ta3 rfl) ?_ | refine qx_op rfl rfl (runs_none rfl) (does_load_ptr rfl ta3 rfl rfl rfl (ix_map hki.2) rfl) ?_
      refine qx_op rfl rfl (runs_none rfl) (does_call rfl rfl (Has_pf (gti n.trans k).inn (gti K i)) (evc_cons rfl (evc_cons rfl evc_nil))) ?_
      first | refine qx_op rfl rfl (runs_none rfl) (does_notp rfl rfl) ?_ | refine qx_op rfl rfl (runs_none rfl) (does_not rfl rfl) ?_
      refine qx_nil ?_
      repeat (first | refine aw_seq ?_ | refine ath_n ?_ | refine aw_skip ?_ | refine abl_n ?_ | refine aw_block ?_)
      rw [hki.1]
      refine aw_if rfl (fun h0 => ?_) (fun h0 => ?_)
      · (refine aw_exit ?_; repeat (first | refine ath_x ?_ | refine abl_hit ?_ | refine abl_miss rfl ?_ | refine abl_n ?_ | refine ath_n ?_ | refine aw_seq ?_ | refine aw_skip ?_ | refine aw_block ?_))
        refine aw_region ?_
        refine ops_op rfl rfl (runs_none rfl) (mv_s (.inl rfl) rfl) ?_
        refine ops_op rfl rfl (runs_none rfl) (does_add rfl rfl rfl (IntWalk.i64_in _ (by omega))) ?_
        refine ops_op rfl rfl (runs_none rfl) (mv_s (.inr rfl) rfl) ?_
        refine ops_nil ?_
        repeat (first | refine aw_seq ?_ | refine ath_n ?_ | refine aw_skip ?_ | refine abl_n ?_ | refine aw_block ?_)
        have hS : rndW n x L (k + 1) = K := by rw [HS]; unfold addT; rw [if_neg h0]
        refine ⟨k + 1, by omega, by omega, ?_⟩
        rw [hS]
        exact wk_sub _ ⟨rfl, rfl, rfl, rfl, trivial⟩
      · have hS : rndW n x L (k + 1) = addL K (gti n.trans k).out := by rw [HS]; unfold addT; rw [if_pos (by simpa using h0)]
        have h0' : x ∈ (gti n.trans k).inn := by simpa using h0
        have hout : ∀ q ∈ (gti n.trans k).out, (0 ≤ q ∧ q < n.places) ∧ Rch n false s q := fun q hq => ⟨hplc.out hlk false q hq, .step hlk h0' hxr hq⟩
        repeat (first | refine aw_seq ?_ | refine ath_n ?_ | refine aw_skip ?_ | refine abl_n ?_ | refine aw_block ?_)
        refine aw_region ?_
        refine ops_op rfl rfl (runs_none rfl) (mv_s (.inr rfl) rfl) ?_
        refine ops_nil ?_
        repeat (first | refine aw_seq ?_ | refine ath_n ?_ | refine aw_skip ?_ | refine abl_n ?_ | refine aw_block ?_)
        refine aw_loops (S := Nat) (fun j => [(2, .ref (eN n).cells), (5, .own 0 1 (addL K ((gti n.trans k).out.take j)).length), (6, eI i), (7, eI k), (8, eI j)]) (fun j => [.row 1 ((addL K ((gti n.trans k).out.take j)).map eI)]) (fun j => j ≤ (gti n.trans k).out.length) (fun j => (gti n.trans k).out.length - j) 0 (wk_sub _ ⟨rfl, rfl, rfl, rfl, rfl, trivial⟩) (Nat.zero_le _) (fun j hj => ?_)
        have HJ : LI n s (addL K ((gti n.trans k).out.take j)) := HK.addL (fun q hq => hout q (List.mem_of_mem_take hq))
        have hjl := HJ.len
        have HSJ : j < (gti n.trans k).out.length → addL K ((gti n.trans k).out.take (j + 1)) = if gti (gti n.trans k).out j ∈ addL K ((gti n.trans k).out.take j) then addL K ((gti n.trans k).out.take j) else addL K ((gti n.trans k).out.take j) ++ [gti (gti n.trans k).out j] := fun h => by rw [take_snoc' h, addL_snoc]
        have HXJ : j = (gti n.trans k).out.length → rndW n x L (k + 1) = addL K ((gti n.trans k).out.take j) := fun h => by rw [hS, h, List.take_length]
        generalize addL K ((gti n.trans k).out.take j) = J at *
        repeat (first | refine aw_seq ?_ | refine ath_n ?_ | refine aw_skip ?_ | refine abl_n ?_ | refine aw_block ?_)
        refine aw_region ?_
        refine ops_op rfl rfl (runs_none rfl) (mv_s (.inl rfl) rfl) ?_
        first | refine ops_op rfl rfl (runs_none rfl) (does_fieldAddr_ptr rfl tf24_1 (by decide) rfl) ?_ | refine ops_op rfl rfl (runs_none rfl) (does_fieldAddr_ref rfl tf24_1 (by decide) rfl) ?_
        first | refine ops_op rfl rfl (runs_none rfl) (does_load_ref rfl ta22 rfl) ?_ | refine ops_op rfl rfl (runs_none rfl) (does_load_ptr rfl ta22 rfl rfl rfl rfl rfl) ?_
        refine ops_op rfl rfl (runs_none rfl) (mv_s (.inl rfl) rfl) ?_
        first | refine ops_op rfl rfl (runs_none rfl) (does_index_sl rfl ts22 ti46 rfl rfl rfl (ix_map hlk) rfl) ?_ | refine ops_op rfl rfl (runs_none rfl) (does_index_own rfl ts22 ti46 rfl rfl rfl (ix_map hlk)) ?_
        first | refine ops_op rfl rfl (runs_none rfl) (does_fieldAddr_ptr rfl tf46_2 (by decide) rfl) ?_ | refine ops_op rfl rfl (runs_none rfl) (does_fieldAddr_ref rfl tf46_2 (by decide) rfl) ?_
        first | refine ops_op rfl rfl (runs_none rfl) (does_load_ref rfl ta30 rfl) ?_ | refine ops_op rfl rfl (runs_none rfl) (does_load_ptr rfl ta30 rfl rfl rfl rfl rfl) ?_
        first | refine ops_op rfl rfl (runs_none rfl) (does_len_map rfl ts30 rfl) ?_ | refine ops_op rfl rfl (runs_none rfl) (does_len_sl rfl ts30 rfl) ?_ | refine ops_op rfl rfl (runs_none rfl) (does_len_own rfl ts30 rfl) ?_ | refine ops_op rfl rfl (runs_none rfl) (does_len_s rfl ts30 rfl) ?_ | refine ops_op rfl rfl (runs_none rfl) (does_len_emp rfl ts30 rfl) ?_
        refine ops_op rfl rfl (runs_none rfl) (does_lss rfl rfl rfl) ?_
        refine ops_nil ?_
        repeat (first | refine aw_seq ?_ | refine ath_n ?_ | refine aw_skip ?_ | refine abl_n ?_ | refine aw_block ?_)
        refine aw_if rfl (fun h => ?_) (fun h => ?_)
        · have hlj : j < (gti n.trans k).out.length := by omega
          have HSJ2 := HSJ hlj
          repeat (first | refine aw_seq ?_ | refine ath_n ?_ | refine aw_skip ?_ | refine abl_n ?_ | refine aw_block ?_)
          refine aw_region ?_
          first | refine ops_op rfl rfl (runs_none rfl) (mv_own (.inl rfl) rfl) ?_ | refine ops_op rfl rfl (runs_none rfl) (mv_sl (.inl rfl) rfl) ?_ | refine ops_op rfl rfl (runs_none rfl) (mv_s (.inl rfl) rfl) ?_ | refine ops_op rfl rfl (runs_none rfl) (mv_emp (.inl rfl) rfl) ?_
          first | refine ops_op rfl rfl (runs_none rfl) (does_fieldAddr_ptr rfl tf24_1 (by decide) rfl) ?_ | refine ops_op rfl rfl (runs_none rfl) (does_fieldAddr_ref rfl tf24_1 (by decide) rfl) ?_
          first | refine ops_op rfl rfl (runs_none rfl) (does_load_ref rfl ta22 rfl) ?_ | refine ops_op rfl rfl (runs_none rfl) (does_load_ptr rfl ta22 rfl rfl rfl rfl rfl) ?_
          refine ops_op rfl rfl (runs_none rfl) (mv_s (.inl rfl) rfl) ?_
          first | refine ops_op rfl rfl (runs_none rfl) (does_index_sl rfl ts22 ti46 rfl rfl rfl (ix_map hlk) rfl) ?_ | refine ops_op rfl rfl (runs_none rfl) (does_index_own rfl ts22 ti46 rfl rfl rfl (ix_map hlk)) ?_
          first | refine ops_op rfl rfl (runs_none rfl) (does_fieldAddr_ptr rfl tf46_2 (by decide) rfl) ?_ | refine ops_op rfl rfl (runs_none rfl) (does_fieldAddr_ref rfl tf46_2 (by decide) rfl) ?_
          first | refine ops_op rfl rfl (runs_none rfl) (does_load_ref rfl ta30 rfl) ?_ | refine ops_op rfl rfl (runs_none rfl) (does_load_ptr rfl ta30 rfl rfl rfl rfl rfl) ?_
          refine ops_op rfl rfl (runs_none rfl) (mv_s (.inl rfl) rfl) ?_
          first | refine ops_op rfl rfl (runs_none rfl) (does_index_sl rfl ts30 ti3 rfl rfl rfl (ix_map hlj) rfl) ?_ | refine ops_op rfl rfl (runs_none rfl) (does_index_own rfl ts30 ti3 rfl rfl rfl (ix_map hlj)) ?_
          first | refine ops_op rfl rfl (runs_none rfl) (does_load_ref rfl ta3 rfl) ?_ | refine ops_op rfl rfl (runs_none rfl) (does_load_ptr rfl ta3 rfl rfl rfl rfl rfl) ?_
          refine ops_op rfl rfl (runs_none rfl) (does_callb rfl rfl (Has_pf J (gti (gti n.trans k).out j)) (by repeat' (first | exact FiniL.nil | refine FiniL.cons ?_ ?_ | exact .own _ _ _ _ _ rfl rfl (by first | rfl | simp) | exact .refl _)) (by repeat' (first | exact Flat.s _ | exact flat_nil | refine flat_cons ?_ ?_ | refine Flat.agg ?_ | refine Flat.tup ?_))) ?_
          first | refine ops_op rfl rfl (runs_none rfl) (does_notp rfl rfl) ?_ | refine ops_op rfl rfl (runs_none rfl) (does_not rfl rfl) ?_
          refine ops_nil ?_
          repeat (first | refine aw_seq ?_ | refine ath_n ?_ | refine aw_skip ?_ | refine abl_n ?_ | refine aw_block ?_)
          refine aw_if rfl (fun h1 => ?_) (fun h1 => ?_)
          · repeat (first | refine aw_seq ?_ | refine ath_n ?_ | refine aw_skip ?_ | refine abl_n ?_ | refine aw_block ?_)
            refine aw_region ?_
            first | refine ops_op rfl rfl (runs_none rfl) (mv_own (.inl rfl) rfl) ?_ | refine ops_op rfl rfl (runs_none rfl) (mv_sl (.inl rfl) rfl) ?_ | refine ops_op rfl rfl (runs_none rfl) (mv_s (.inl rfl) rfl) ?_ | refine ops_op rfl rfl (runs_none rfl) (mv_emp (.inl rfl) rfl) ?_
            first | refine ops_op rfl rfl (runs_none rfl) (does_fieldAddr_ptr rfl tf24_1 (by decide) rfl) ?_ | refine ops_op rfl rfl (runs_none rfl) (does_fieldAddr_ref rfl tf24_1 (by decide) rfl) ?_
            first | refine ops_op rfl rfl (runs_none rfl) (does_load_ref rfl ta22 rfl) ?_ | refine ops_op rfl rfl (runs_none rfl) (does_load_ptr rfl ta22 rfl rfl rfl rfl rfl) ?_
            refine ops_op rfl rfl (runs_none rfl) (mv_s (.inl rfl) rfl) ?_
            first | refine ops_op rfl rfl (runs_none rfl) (does_index_sl rfl ts22 ti46 rfl rfl rfl (ix_map hlk) rfl) ?_ | refine ops_op rfl rfl (runs_none rfl) (does_index_own rfl ts22 ti46 rfl rfl rfl (ix_map hlk)) ?_
            first | refine ops_op rfl rfl (runs_none rfl) (does_fieldAddr_ptr rfl tf46_2 (by decide) rfl) ?_ | refine ops_op rfl rfl (runs_none rfl) (does_fieldAddr_ref rfl tf46_2 (by decide) rfl) ?_
            first | refine ops_op rfl rfl (runs_none rfl) (does_load_ref rfl ta30 rfl) ?_ | refine ops_op rfl rfl (runs_none rfl) (does_load_ptr rfl ta30 rfl rfl rfl rfl rfl) ?_
            refine ops_op rfl rfl (runs_none rfl) (mv_s (.inl rfl) rfl) ?_
            first | refine ops_op rfl rfl (runs_none rfl) (does_index_sl rfl ts30 ti3 rfl rfl rfl (ix_map hlj) rfl) ?_ | refine ops_op rfl rfl (runs_none rfl) (does_index_own rfl ts30 ti3 rfl rfl rfl (ix_map hlj)) ?_
            first | refine ops_op rfl rfl (runs_none rfl) (does_load_ref rfl ta3 rfl) ?_ | refine ops_op rfl rfl (runs_none rfl) (does_load_ptr rfl ta3 rfl rfl rfl rfl rfl) ?_
            first | refine ops_op rfl rfl (runs_none rfl) (lit1_s rfl ts30 ti3 rfl rfl rfl rfl) ?_ | refine ops_op rfl rfl (runs_none rfl) (lit1_sl rfl ts30 ti3 rfl rfl rfl rfl) ?_ | refine ops_op rfl rfl (runs_none rfl) (does_litA rfl ts30 ti3 rfl rfl (by decide) (by decide) rfl rfl rfl) ?_
            first | refine ops_op rfl rfl (runs_none rfl) (does_append rfl ts30 ti3 rfl (by decide) rfl rfl (by first | rfl | simp) rfl (by first | exact .own _ _ _ rfl rfl _ (by first | rfl | simp) | exact .emp | exact .nil | exact .sl _ (by first | simp; done | intro e he; simp at he; obtain ⟨_, _, rfl⟩ := he; rfl)) (by first | omega | (simp; omega) | (unfold maxLen; simp; omega)) (by first | omega | (simp; omega) | (unfold maxLen; simp; omega))) ?_ | refine ops_op rfl rfl (runs_none rfl) (does_append0 rfl ts30 ti3 rfl (by decide) rfl (.inl rfl) rfl (by first | exact .own _ _ _ rfl rfl _ (by first | rfl | simp) | exact .emp | exact .nil | exact .sl _ (by first | simp; done | intro e he; simp at he; obtain ⟨_, _, rfl⟩ := he; rfl)) (by first | omega | (simp; omega) | (unfold maxLen; simp; omega)) (by first | omega | (simp; omega) | (unfold maxLen; simp; omega))) ?_ | refine ops_op rfl rfl (runs_none rfl) (does_append0 rfl ts30 ti3 rfl (by decide) rfl (.inr rfl) rfl (by first | exact .own _ _ _ rfl rfl _ (by first | rfl | simp) | exact .emp | exact .nil | exact .sl _ (by first | simp; done | intro e he; simp at he; obtain ⟨_, _, rfl⟩ := he; rfl)) (by first | omega | (simp; omega) | (unfold maxLen; simp; omega)) (by first | omega | (simp; omega) | (unfold maxLen; simp; omega))) ?_
            first | refine ops_op rfl rfl (runs_none rfl) (mv_own (.inr rfl) rfl) ?_ | refine ops_op rfl rfl (runs_none rfl) (mv_sl (.inr rfl) rfl) ?_ | refine ops_op rfl rfl (runs_none rfl) (mv_s (.inr rfl) rfl) ?_ | refine ops_op rfl rfl (runs_none rfl) (mv_emp (.inr rfl) rfl) ?_
            refine ops_nil ?_
            repeat (first | refine aw_seq ?_ | refine ath_n ?_ | refine aw_skip ?_ | refine abl_n ?_ | refine aw_block ?_)
            refine aw_region ?_
            refine ops_op rfl rfl (runs_none rfl) (mv_s (.inl rfl) rfl) ?_
            refine ops_op rfl rfl (runs_none rfl) (does_add rfl rfl rfl (IntWalk.i64_in _ (by omega))) ?_
            refine ops_op rfl rfl (runs_none rfl) (mv_s (.inr rfl) rfl) ?_
            refine ops_nil ?_
            repeat (first | refine aw_seq ?_ | refine ath_n ?_ | refine aw_skip ?_ | refine abl_n ?_ | refine aw_block ?_)
            refine ⟨j + 1, by omega, by omega, ?_⟩
            rw [HSJ2, if_neg h1]
            exact wk_st [2] (by decide) ⟨⟨_, rfl, .rowE (by repeat' (first | exact Lo.s _ | exact Lo.emp | exact Lo.any | exact lo_nil | exact lo_nilE | refine lo_cons ?_ ?_ | refine lo_consE ?_ ?_ | refine lo_map ?_ | refine lo_mapE ?_ | refine Lo.cells ?_ | refine Lo.agg _ ?_ | refine Lo.ref _ ?_ | refine Lo.tup _ ?_ | refine Lo.fn _ _ ?_ | refine Lo.sl _ ?_ | intro _)) (by rw [List.map_append]; rfl)⟩, trivial⟩ ⟨.lo _ (by repeat' (first | exact Lo.s _ | exact Lo.emp | exact Lo.any | exact lo_nil | exact lo_nilE | refine lo_cons ?_ ?_ | refine lo_consE ?_ ?_ | refine lo_map ?_ | refine lo_mapE ?_ | refine Lo.cells ?_ | refine Lo.agg _ ?_ | refine Lo.ref _ ?_ | refine Lo.tup _ ?_ | refine Lo.fn _ _ ?_ | refine Lo.sl _ ?_ | intro _)), .own 2 0 1 _ _ rfl (by simp), .lo _ (by repeat' (first | exact Lo.s _ | exact Lo.emp | exact Lo.any | exact lo_nil | exact lo_nilE | refine lo_cons ?_ ?_ | refine lo_consE ?_ ?_ | refine lo_map ?_ | refine lo_mapE ?_ | refine Lo.cells ?_ | refine Lo.agg _ ?_ | refine Lo.ref _ ?_ | refine Lo.tup _ ?_ | refine Lo.fn _ _ ?_ | refine Lo.sl _ ?_ | intro _)), .lo _ (by repeat' (first | exact Lo.s _ | exact Lo.emp | exact Lo.any | exact lo_nil | exact lo_nilE | refine lo_cons ?_ ?_ | refine lo_consE ?_ ?_ | refine lo_map ?_ | refine lo_mapE ?_ | refine Lo.cells ?_ | refine Lo.agg _ ?_ | refine Lo.ref _ ?_ | refine Lo.tup _ ?_ | refine Lo.fn _ _ ?_ | refine Lo.sl _ ?_ | intro _)), .lo _ (by repeat' (first | exact Lo.s _ | exact Lo.emp | exact Lo.any | exact lo_nil | exact lo_nilE | refine lo_cons ?_ ?_ | refine lo_consE ?_ ?_ | refine lo_map ?_ | refine lo_mapE ?_ | refine Lo.cells ?_ | refine Lo.agg _ ?_ | refine Lo.ref _ ?_ | refine Lo.tup _ ?_ | refine Lo.fn _ _ ?_ | refine Lo.sl _ ?_ | intro _)), trivial⟩
          · repeat (first | refine aw_seq ?_ | refine ath_n ?_ | refine aw_skip ?_ | refine abl_n ?_ | refine aw_block ?_)
            refine aw_region ?_
            refine ops_op rfl rfl (runs_none rfl) (mv_s (.inl rfl) rfl) ?_
            refine ops_op rfl rfl (runs_none rfl) (does_add rfl rfl rfl (IntWalk.i64_in _ (by omega))) ?_
            refine ops_op rfl rfl (runs_none rfl) (mv_s (.inr rfl) rfl) ?_
            refine ops_nil ?_
            repeat (first | refine aw_seq ?_ | refine ath_n ?_ | refine aw_skip ?_ | refine abl_n ?_ | refine aw_block ?_)
            refine ⟨j + 1, by omega, by omega, ?_⟩
            rw [HSJ2, if_pos (by simpa using h1)]
            exact wk_sub _ ⟨rfl, rfl, rfl, rfl, rfl, trivial⟩
        · have HXJ2 := HXJ (by omega)
          (refine aw_exit ?_; repeat (first | refine ath_x ?_ | refine abl_hit ?_ | refine abl_miss rfl ?_ | refine abl_n ?_ | refine ath_n ?_ | refine aw_seq ?_ | refine aw_skip ?_ | refine aw_block ?_))
          refine aw_region ?_
          refine ops_op rfl rfl (runs_none rfl) (mv_s (.inl rfl) rfl) ?_
          refine ops_op rfl rfl (runs_none rfl) (does_add rfl rfl rfl (IntWalk.i64_in _ (by omega))) ?_
          refine ops_op rfl rfl (runs_none rfl) (mv_s (.inr rfl) rfl) ?_
          refine ops_nil ?_
          repeat (first | refine aw_seq ?_ | refine ath_n ?_ | refine aw_skip ?_ | refine abl_n ?_ | refine aw_block ?_)
          refine ⟨k + 1, by omega, by omega, ?_⟩
          rw [HXJ2]
          exact wk_sub _ ⟨rfl, rfl, rfl, rfl, trivial⟩
    · (refine aw_exit ?_; repeat (first | refine ath_x ?_ | refine abl_hit ?_ | refine abl_miss rfl ?_ | refine abl_n ?_ | refine ath_n ?_ | refine aw_seq ?_ | refine aw_skip ?_ | refine aw_block ?_))
      refine aw_region ?_
      refine ops_op rfl rfl (runs_none rfl) (mv_s (.inl rfl) rfl) ?_
      refine ops_op rfl rfl (runs_none rfl) (does_add rfl rfl rfl (IntWalk.i64_in _ (by omega))) ?_
      refine ops_op rfl rfl (runs_none rfl) (mv_s (.inr rfl) rfl) ?_
      refine ops_nil ?_
      repeat (first | refine aw_seq ?_ | refine ath_n ?_ | refine aw_skip ?_ | refine abl_n ?_ | refine aw_block ?_)
      have := HX (by omega)
      exact ⟨(K, i + 1), ⟨by dsimp only; omega, HK, this⟩, by dsimp only; omega, wk_sub _ ⟨rfl, rfl, rfl, trivial⟩⟩
  · (refine aw_exit ?_; repeat (first | refine ath_x ?_ | refine abl_hit ?_ | refine abl_miss rfl ?_ | refine abl_n ?_ | refine ath_n ?_ | refine aw_seq ?_ | refine aw_skip ?_ | refine aw_block ?_))
    have hiL : i = L.length := by omega
    have HE2 : reachW n s = L := by
      rw [HE, show 41 - i = (41 - (i + 1)) + 1 by omega, rchW, if_neg (by omega)]
    refine aw_region ?_
    first | refine ops_op rfl rfl (runs_none rfl) (mv_own (.inl rfl) rfl) ?_ | refine ops_op rfl rfl (runs_none rfl) (mv_sl (.inl rfl) rfl) ?_ | refine ops_op rfl rfl (runs_none rfl) (mv_s (.inl rfl) rfl) ?_ | refine ops_op rfl rfl (runs_none rfl) (mv_emp (.inl rfl) rfl) ?_
    first | refine ops_op rfl rfl (runs_none rfl) (mv_own (.inr rfl) rfl) ?_ | refine ops_op rfl rfl (runs_none rfl) (mv_sl (.inr rfl) rfl) ?_ | refine ops_op rfl rfl (runs_none rfl) (mv_s (.inr rfl) rfl) ?_ | refine ops_op rfl rfl (runs_none rfl) (mv_emp (.inr rfl) rfl) ?_
    refine ops_nil ?_
    repeat (first | refine aw_seq ?_ | refine ath_n ?_ | refine aw_skip ?_ | refine abl_n ?_ | refine aw_block ?_)
    (refine aw_ret ?_; repeat (first | refine ath_r ?_ | refine abl_r ?_))
    rw [HE2]
    exact post1f (.inr rfl) rfl (.own _ _ _ _ _ rfl rfl (by simp))
end Go.Proofs.Ytmhbfoaecebobaa.Aw
end
