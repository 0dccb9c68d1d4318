/-
  Texts joined: RRv, RRc. Conditions: none.
-/
import Derived.Test.YtmhbfoaecebobaaJP21
section
namespace Go.Proofs.Ytmhbfoaecebobaa.Aw
set_option linter.unusedSimpArgs false
set_option linter.unusedVariables false
open Go.RowKit Go.Proofs
variable {P : Program} [IsP P]

def revT (t : Tr) : Tr := ⟨t.label, t.out, t.inn⟩
def revN (n : Net) : Net := ⟨n.places, n.trans.map revT, n.sink, n.source⟩
abbrev zN : AV := .agg [.s (.int .i64 0), .s (.slice none 0 0), .s (.int .i64 0), .s (.int .i64 0)]
abbrev zT : AV := .agg [.s (.string ⟨#[]⟩), .s (.slice none 0 0), .s (.slice none 0 0)]
set_option maxHeartbeats 4000000 in
theorem reverse_pf (n : Net) (hval : validB n = true) : Pure P 51 [eN n] (eN (revN n)) := by
  have hpl := validB_places hval
  refine aw_fn (by rw [IsP.eq (P := P)]; exact Try.func51) rfl rfl rfl rfl rfl (by repeat' (first | exact Lo.s _ | exact Lo.emp | exact Lo.any | exact lo_nil | exact lo_nilE | refine lo_cons ?_ ?_ | refine lo_consE ?_ ?_ | refine lo_map ?_ | refine lo_mapE ?_ | refine Lo.cells ?_ | refine Lo.agg _ ?_ | refine Lo.ref _ ?_ | refine Lo.tup _ ?_ | refine Lo.fn _ _ ?_ | refine Lo.sl _ ?_ | intro _)) (by repeat' (first | exact Lo.s _ | exact Lo.emp | exact Lo.any | exact lo_nil | exact lo_nilE | refine lo_cons ?_ ?_ | refine lo_consE ?_ ?_ | refine lo_map ?_ | refine lo_mapE ?_ | refine Lo.cells ?_ | refine Lo.agg _ ?_ | refine Lo.ref _ ?_ | refine Lo.tup _ ?_ | refine Lo.fn _ _ ?_ | refine Lo.sl _ ?_ | intro _)) (by simp only [argF]; rfl) ?_
  repeat (first | refine aw_seq ?_ | refine ath_n ?_ | refine aw_skip ?_ | refine abl_n ?_ | refine aw_block ?_)
  refine aw_region ?_
  refine ops_op rfl rfl (runs_none rfl) (does_box rfl rfl rfl rfl) ?_
  refine aops_weak (wk_froz (id := 0) rfl) (aops_weak (wk_ref (d := 1) rfl rfl rfl) ?_)
  refine ops_op rfl rfl (runs_none rfl) (does_alloc rfl ti24 rfl rfl) ?_
  refine ops_nil ?_
  repeat (first | refine aw_seq ?_ | refine ath_n ?_ | refine aw_skip ?_ | refine abl_n ?_ | refine aw_block ?_)
  refine aw_region ?_
  first | refine ops_op rfl rfl (runs_none rfl) (does_fieldAddr_ptr rfl tf24_0 (by decide) rfl) ?_ | refine ops_op rfl rfl (runs_none rfl) (does_fieldAddr_ref rfl tf24_0 (by decide) rfl) ?_
  first | refine ops_op rfl rfl (runs_none rfl) (does_load_ref rfl ta3 rfl) ?_ | refine ops_op rfl rfl (runs_none rfl) (does_load_ptr rfl ta3 rfl rfl rfl rfl rfl) ?_
  first | refine ops_op rfl rfl (runs_none rfl) (does_fieldAddr_ptr rfl tf24_3 (by decide) rfl) ?_ | refine ops_op rfl rfl (runs_none rfl) (does_fieldAddr_ref rfl tf24_3 (by decide) rfl) ?_
  first | refine ops_op rfl rfl (runs_none rfl) (does_load_ref rfl ta3 rfl) ?_ | refine ops_op rfl rfl (runs_none rfl) (does_load_ptr rfl ta3 rfl rfl rfl rfl rfl) ?_
  first | refine ops_op rfl rfl (runs_none rfl) (does_fieldAddr_ptr rfl tf24_2 (by decide) rfl) ?_ | refine ops_op rfl rfl (runs_none rfl) (does_fieldAddr_ref rfl tf24_2 (by decide) rfl) ?_
  first | refine ops_op rfl rfl (runs_none rfl) (does_load_ref rfl ta3 rfl) ?_ | refine ops_op rfl rfl (runs_none rfl) (does_load_ptr rfl ta3 rfl rfl rfl rfl rfl) ?_
  refine ops_op rfl rfl (runs_none rfl) (does_build rfl ti24 tp24 rfl rfl) ?_
  refine ops_op rfl rfl (runs_none rfl) (does_alloc rfl ti24 rfl rfl) ?_
  refine ops_eff rfl (runs_none rfl) (does_store rfl ti24 rfl rfl rfl rfl rfl rfl (by decide) (by decide)) ?_
  refine ops_nil ?_
  repeat (first | refine aw_seq ?_ | refine ath_n ?_ | refine aw_skip ?_ | refine abl_n ?_ | refine aw_block ?_)
  refine aw_region ?_
  refine ops_op rfl rfl (runs_none rfl) (mv_s (.inr rfl) rfl) ?_
  refine ops_nil ?_
  repeat (first | refine aw_seq ?_ | refine ath_n ?_ | refine aw_skip ?_ | refine abl_n ?_ | refine aw_block ?_)
  refine aw_weak (wk_ownC (id := 2) (sz2 := 3) (e' := .agg [eI n.places, .own 3 3 0, eI n.sink, eI n.source]) (pre := [eI n.places]) (post := [eI n.sink, eI n.source]) rfl rfl rfl) ?_
  refine aw_loops (S := Nat) (fun k => [(1, .ref (eN n).cells), (2, .ptr 0 4 0 0), (3, .ptr 1 4 0 0), (4, eI k)]) (fun k => [.row 4 [zN], .row 4 [.agg [eI n.places, .own 2 3 k, eI n.sink, eI n.source]], .row 3 ((List.range k).map fun i => eT (revT (gti n.trans i)))]) (fun k => k ≤ n.trans.length) (fun k => n.trans.length - k) 0
    (wk_st [1, 2, 3] (by decide) ⟨⟨_, rfl, .rowE (by repeat' (first | exact Lo.s _ | exact Lo.emp | exact Lo.any | exact lo_nil | exact lo_nilE | refine lo_cons ?_ ?_ | refine lo_consE ?_ ?_ | refine lo_map ?_ | refine lo_mapE ?_ | refine Lo.cells ?_ | refine Lo.agg _ ?_ | refine Lo.ref _ ?_ | refine Lo.tup _ ?_ | refine Lo.fn _ _ ?_ | refine Lo.sl _ ?_ | intro _)) rfl⟩, ⟨_, rfl, obRn_agg (.cons (.lo _ (.s _)) (.cons (.own _ _ _ _ _ rfl rfl) (.cons (.lo _ (.s _)) (.cons (.lo _ (.s _)) .nil))))⟩, ⟨_, rfl, .rowE (by repeat' (first | exact Lo.s _ | exact Lo.emp | exact Lo.any | exact lo_nil | exact lo_nilE | refine lo_cons ?_ ?_ | refine lo_consE ?_ ?_ | refine lo_map ?_ | refine lo_mapE ?_ | refine Lo.cells ?_ | refine Lo.agg _ ?_ | refine Lo.ref _ ?_ | refine Lo.tup _ ?_ | refine Lo.fn _ _ ?_ | refine Lo.sl _ ?_ | intro _)) rfl⟩, trivial⟩ ⟨.lo _ (by repeat' (first | exact Lo.s _ | exact Lo.emp | exact Lo.any | exact lo_nil | exact lo_nilE | refine lo_cons ?_ ?_ | refine lo_consE ?_ ?_ | refine lo_map ?_ | refine lo_mapE ?_ | refine Lo.cells ?_ | refine Lo.agg _ ?_ | refine Lo.ref _ ?_ | refine Lo.tup _ ?_ | refine Lo.fn _ _ ?_ | refine Lo.sl _ ?_ | intro _)), .ptr 1 0 4 0 0 rfl, .ptr 2 1 4 0 0 rfl, .lo _ (by repeat' (first | exact Lo.s _ | exact Lo.emp | exact Lo.any | exact lo_nil | exact lo_nilE | refine lo_cons ?_ ?_ | refine lo_consE ?_ ?_ | refine lo_map ?_ | refine lo_mapE ?_ | refine Lo.cells ?_ | refine Lo.agg _ ?_ | refine Lo.ref _ ?_ | refine Lo.tup _ ?_ | refine Lo.fn _ _ ?_ | refine Lo.sl _ ?_ | intro _)), trivial⟩) (Nat.zero_le _) (fun k hk => ?_)
  repeat (first | refine aw_seq ?_ | refine ath_n ?_ | refine aw_skip ?_ | refine abl_n ?_ | refine aw_block ?_)
  refine aw_region ?_
  refine ops_op rfl rfl (runs_none rfl) (mv_s (.inl rfl) rfl) ?_
  first | refine ops_op rfl rfl (runs_none rfl) (does_fieldAddr_ptr rfl tf24_1 (by decide) rfl) ?_ | refine ops_op rfl rfl (runs_none rfl) (does_fieldAddr_ref rfl tf24_1 (by decide) rfl) ?_
  first | refine ops_op rfl rfl (runs_none rfl) (does_load_ref rfl ta22 rfl) ?_ | refine ops_op rfl rfl (runs_none rfl) (does_load_ptr rfl ta22 rfl rfl rfl rfl rfl) ?_
  first | refine ops_op rfl rfl (runs_none rfl) (does_len_map rfl ts22 rfl) ?_ | refine ops_op rfl rfl (runs_none rfl) (does_len_sl rfl ts22 rfl) ?_ | refine ops_op rfl rfl (runs_none rfl) (does_len_own rfl ts22 rfl) ?_ | refine ops_op rfl rfl (runs_none rfl) (does_len_s rfl ts22 rfl) ?_ | refine ops_op rfl rfl (runs_none rfl) (does_len_emp rfl ts22 rfl) ?_
  refine ops_op rfl rfl (runs_none rfl) (does_lss rfl rfl rfl) ?_
  refine ops_nil ?_
  repeat (first | refine aw_seq ?_ | refine ath_n ?_ | refine aw_skip ?_ | refine abl_n ?_ | refine aw_block ?_)
  refine aw_if rfl (fun h => ?_) (fun h => ?_)
  · have hlt : k < n.trans.length := by omega
    obtain ⟨_, _, hil, hol⟩ := trans_in hval hlt
    repeat (first | refine aw_seq ?_ | refine ath_n ?_ | refine aw_skip ?_ | refine abl_n ?_ | refine aw_block ?_)
    refine aw_region ?_
    first | refine ops_op rfl rfl (runs_none rfl) (does_fieldAddr_ptr rfl tf24_1 (by decide) rfl) ?_ | refine ops_op rfl rfl (runs_none rfl) (does_fieldAddr_ref rfl tf24_1 (by decide) rfl) ?_
    first | refine ops_op rfl rfl (runs_none rfl) (does_load_ref rfl ta22 rfl) ?_ | refine ops_op rfl rfl (runs_none rfl) (does_load_ptr rfl ta22 rfl rfl rfl rfl rfl) ?_
    refine ops_op rfl rfl (runs_none rfl) (mv_s (.inl rfl) rfl) ?_
    first | refine ops_op rfl rfl (runs_none rfl) (does_index_sl rfl ts22 ti46 rfl rfl rfl (ix_map hlt) rfl) ?_ | refine ops_op rfl rfl (runs_none rfl) (does_index_own rfl ts22 ti46 rfl rfl rfl (ix_map hlt)) ?_
    first | refine ops_op rfl rfl (runs_none rfl) (does_load_refw rfl ta46 ti46 rfl rfl) ?_ | refine ops_op rfl rfl (runs_none rfl) (does_load_whole rfl ta46 ti46 rfl rfl rfl rfl rfl) ?_ | refine ops_op rfl rfl (runs_none rfl) (does_load_refs rfl ta46 ti46 rfl (Nat.le_of_ble_eq_true rfl)) ?_ | refine ops_op rfl rfl (runs_none rfl) (does_load_ptrs rfl ta46 ti46 rfl rfl rfl rfl (Nat.le_of_ble_eq_true rfl)) ?_
    refine ops_op rfl rfl (runs_none rfl) (does_alloc rfl ti46 rfl rfl) ?_
    refine ops_eff rfl (runs_none rfl) (does_store rfl ti46 rfl rfl rfl rfl rfl rfl (by decide) (by decide)) ?_
    refine ops_nil ?_
    repeat (first | refine aw_seq ?_ | refine ath_n ?_ | refine aw_skip ?_ | refine abl_n ?_ | refine aw_block ?_)
    refine aw_draw hmix ?_
    refine adraw_lastT rfl (by kernel_rfl) ?_
    refine adraw_gen ?_
    simp only [List.dropLast]
    first | refine gx_free rfl rfl (runs_none rfl) (fun _ => (does_fieldAddr_ptr rfl tf24_1 (by decide) rfl)) ?_ | refine gx_free rfl rfl (runs_none rfl) (fun _ => (does_fieldAddr_ref rfl tf24_1 (by decide) rfl)) ?_
    first | refine gx_free rfl rfl (runs_none rfl) (fun _ => (does_load_ref rfl ta22 rfl)) ?_ | refine gx_look rfl rfl (runs_none rfl) (does_load_ptr rfl ta22 rfl rfl rfl rfl rfl) ?_
    first | refine gx_free rfl rfl (runs_none rfl) (fun _ => (does_fieldAddr_ptr rfl tf46_0 (by decide) rfl)) ?_ | refine gx_free rfl rfl (runs_none rfl) (fun _ => (does_fieldAddr_ref rfl tf46_0 (by decide) rfl)) ?_
    first | refine gx_free rfl rfl (runs_none rfl) (fun _ => (does_load_ref rfl ta9 rfl)) ?_ | refine gx_look rfl rfl (runs_none rfl) (does_load_ptr rfl ta9 rfl rfl rfl rfl rfl) ?_
    refine gx_free rfl rfl (runs_none rfl) (fun _ => (does_lit0 rfl rfl ts30 ti3)) ?_
    first | refine gx_free rfl rfl (runs_none rfl) (fun _ => (does_fieldAddr_ptr rfl tf46_2 (by decide) rfl)) ?_ | refine gx_free rfl rfl (runs_none rfl) (fun _ => (does_fieldAddr_ref rfl tf46_2 (by decide) rfl)) ?_
    first | refine gx_free rfl rfl (runs_none rfl) (fun _ => (does_load_ref rfl ta30 rfl)) ?_ | refine gx_look rfl rfl (runs_none rfl) (does_load_ptr rfl ta30 rfl rfl rfl rfl rfl) ?_
    first | refine gx_free rfl rfl (runs_none rfl) (fun _ => (does_append0F rfl ts30 ti3 rfl (by decide) rfl (.inl rfl) rfl (by first | exact .own _ _ _ rfl rfl _ (by first | rfl | simp) | exact .emp | exact .nil | exact .sl _ (by first | simp; done | intro e he; simp at he; obtain ⟨_, _, rfl⟩ := he; rfl)) (by first | omega | (simp; omega) | (unfold maxLen; simp; omega)) (by first | omega | (simp; omega) | (unfold maxLen; simp; omega)) (by repeat' (first | exact Lo.s _ | exact Lo.emp | exact Lo.any | exact lo_nil | exact lo_nilE | refine lo_cons ?_ ?_ | refine lo_consE ?_ ?_ | refine lo_map ?_ | refine lo_mapE ?_ | refine Lo.cells ?_ | refine Lo.agg _ ?_ | refine Lo.ref _ ?_ | refine Lo.tup _ ?_ | refine Lo.fn _ _ ?_ | refine Lo.sl _ ?_ | intro _)) (by repeat' (first | exact Lo.s _ | exact Lo.emp | exact Lo.any | exact lo_nil | exact lo_nilE | refine lo_cons ?_ ?_ | refine lo_consE ?_ ?_ | refine lo_map ?_ | refine lo_mapE ?_ | refine Lo.cells ?_ | refine Lo.agg _ ?_ | refine Lo.ref _ ?_ | refine Lo.tup _ ?_ | refine Lo.fn _ _ ?_ | refine Lo.sl _ ?_ | intro _)))) ?_ | refine gx_free rfl rfl (runs_none rfl) (fun _ => (does_append0F rfl ts30 ti3 rfl (by decide) rfl (.inr rfl) rfl (by first | exact .own _ _ _ rfl rfl _ (by first | rfl | simp) | exact .emp | exact .nil | exact .sl _ (by first | simp; done | intro e he; simp at he; obtain ⟨_, _, rfl⟩ := he; rfl)) (by first | omega | (simp; omega) | (unfold maxLen; simp; omega)) (by first | omega | (simp; omega) | (unfold maxLen; simp; omega)) (by repeat' (first | exact Lo.s _ | exact Lo.emp | exact Lo.any | exact lo_nil | exact lo_nilE | refine lo_cons ?_ ?_ | refine lo_consE ?_ ?_ | refine lo_map ?_ | refine lo_mapE ?_ | refine Lo.cells ?_ | refine Lo.agg _ ?_ | refine Lo.ref _ ?_ | refine Lo.tup _ ?_ | refine Lo.fn _ _ ?_ | refine Lo.sl _ ?_ | intro _)) (by repeat' (first | exact Lo.s _ | exact Lo.emp | exact Lo.any | exact lo_nil | exact lo_nilE | refine lo_cons ?_ ?_ | refine lo_consE ?_ ?_ | refine lo_map ?_ | refine lo_mapE ?_ | refine Lo.cells ?_ | refine Lo.agg _ ?_ | refine Lo.ref _ ?_ | refine Lo.tup _ ?_ | refine Lo.fn _ _ ?_ | refine Lo.sl _ ?_ | intro _)))) ?_
    refine gx_free rfl rfl (runs_none rfl) (fun _ => (does_lit0 rfl rfl ts30 ti3)) ?_
    first | refine gx_free rfl rfl (runs_none rfl) (fun _ => (does_fieldAddr_ptr rfl tf46_1 (by decide) rfl)) ?_ | refine gx_free rfl rfl (runs_none rfl) (fun _ => (does_fieldAddr_ref rfl tf46_1 (by decide) rfl)) ?_
    first | refine gx_free rfl rfl (runs_none rfl) (fun _ => (does_load_ref rfl ta30 rfl)) ?_ | refine gx_look rfl rfl (runs_none rfl) (does_load_ptr rfl ta30 rfl rfl rfl rfl rfl) ?_
    first | refine gx_free rfl rfl (runs_none rfl) (fun _ => (does_append0F rfl ts30 ti3 rfl (by decide) rfl (.inl rfl) rfl (by first | exact .own _ _ _ rfl rfl _ (by first | rfl | simp) | exact .emp | exact .nil | exact .sl _ (by first | simp; done | intro e he; simp at he; obtain ⟨_, _, rfl⟩ := he; rfl)) (by first | omega | (simp; omega) | (unfold maxLen; simp; omega)) (by first | omega | (simp; omega) | (unfold maxLen; simp; omega)) (by repeat' (first | exact Lo.s _ | exact Lo.emp | exact Lo.any | exact lo_nil | exact lo_nilE | refine lo_cons ?_ ?_ | refine lo_consE ?_ ?_ | refine lo_map ?_ | refine lo_mapE ?_ | refine Lo.cells ?_ | refine Lo.agg _ ?_ | refine Lo.ref _ ?_ | refine Lo.tup _ ?_ | refine Lo.fn _ _ ?_ | refine Lo.sl _ ?_ | intro _)) (by repeat' (first | exact Lo.s _ | exact Lo.emp | exact Lo.any | exact lo_nil | exact lo_nilE | refine lo_cons ?_ ?_ | refine lo_consE ?_ ?_ | refine lo_map ?_ | refine lo_mapE ?_ | refine Lo.cells ?_ | refine Lo.agg _ ?_ | refine Lo.ref _ ?_ | refine Lo.tup _ ?_ | refine Lo.fn _ _ ?_ | refine Lo.sl _ ?_ | intro _)))) ?_ | refine gx_free rfl rfl (runs_none rfl) (fun _ => (does_append0F rfl ts30 ti3 rfl (by decide) rfl (.inr rfl) rfl (by first | exact .own _ _ _ rfl rfl _ (by first | rfl | simp) | exact .emp | exact .nil | exact .sl _ (by first | simp; done | intro e he; simp at he; obtain ⟨_, _, rfl⟩ := he; rfl)) (by first | omega | (simp; omega) | (unfold maxLen; simp; omega)) (by first | omega | (simp; omega) | (unfold maxLen; simp; omega)) (by repeat' (first | exact Lo.s _ | exact Lo.emp | exact Lo.any | exact lo_nil | exact lo_nilE | refine lo_cons ?_ ?_ | refine lo_consE ?_ ?_ | refine lo_map ?_ | refine lo_mapE ?_ | refine Lo.cells ?_ | refine Lo.agg _ ?_ | refine Lo.ref _ ?_ | refine Lo.tup _ ?_ | refine Lo.fn _ _ ?_ | refine Lo.sl _ ?_ | intro _)) (by repeat' (first | exact Lo.s _ | exact Lo.emp | exact Lo.any | exact lo_nil | exact lo_nilE | refine lo_cons ?_ ?_ | refine lo_consE ?_ ?_ | refine lo_map ?_ | refine lo_mapE ?_ | refine Lo.cells ?_ | refine Lo.agg _ ?_ | refine Lo.ref _ ?_ | refine Lo.tup _ ?_ | refine Lo.fn _ _ ?_ | refine Lo.sl _ ?_ | intro _)))) ?_
    refine gx_free rfl rfl (runs_none rfl) (fun _ => (does_build rfl ti46 tp46 rfl rfl)) ?_
    first | refine gx_free rfl rfl (runs_none rfl) (fun _ => (lit1_sF rfl ts22 ti46 rfl rfl rfl rfl)) ?_ | refine gx_free rfl rfl (runs_none rfl) (fun _ => (lit1_slF rfl ts22 ti46 rfl rfl rfl rfl (by repeat' (first | exact Lo.s _ | exact Lo.emp | exact Lo.any | exact lo_nil | exact lo_nilE | refine lo_cons ?_ ?_ | refine lo_consE ?_ ?_ | refine lo_map ?_ | refine lo_mapE ?_ | refine Lo.cells ?_ | refine Lo.agg _ ?_ | refine Lo.ref _ ?_ | refine Lo.tup _ ?_ | refine Lo.fn _ _ ?_ | refine Lo.sl _ ?_ | intro _)))) ?_ | refine gx_free rfl rfl (runs_none rfl) (fun _ => (does_litAF rfl ts22 ti46 rfl rfl (by decide) (by decide) rfl rfl rfl (by repeat' (first | exact Lo.s _ | exact Lo.emp | exact Lo.any | exact lo_nil | exact lo_nilE | refine lo_cons ?_ ?_ | refine lo_consE ?_ ?_ | refine lo_map ?_ | refine lo_mapE ?_ | refine Lo.cells ?_ | refine Lo.agg _ ?_ | refine Lo.ref _ ?_ | refine Lo.tup _ ?_ | refine Lo.fn _ _ ?_ | refine Lo.sl _ ?_ | intro _)))) ?_
    first | refine gx_eff rfl rfl (runs_none rfl) (does_append rfl ts22 ti46 rfl (by decide) rfl rfl (by first | rfl | simp) rfl (by first | exact .own _ _ _ rfl rfl _ (by first | rfl | simp) | exact .emp | exact .nil | exact .sl _ (by first | simp; done | intro e he; simp at he; obtain ⟨_, _, rfl⟩ := he; rfl)) (by first | omega | (simp; omega) | (unfold maxLen; simp; omega)) (by first | omega | (simp; omega) | (unfold maxLen; simp; omega))) ?_ | refine gx_eff rfl rfl (runs_none rfl) (does_append0 rfl ts22 ti46 rfl (by decide) rfl (.inl rfl) rfl (by first | exact .own _ _ _ rfl rfl _ (by first | rfl | simp) | exact .emp | exact .nil | exact .sl _ (by first | simp; done | intro e he; simp at he; obtain ⟨_, _, rfl⟩ := he; rfl)) (by first | omega | (simp; omega) | (unfold maxLen; simp; omega)) (by first | omega | (simp; omega) | (unfold maxLen; simp; omega))) ?_ | refine gx_eff rfl rfl (runs_none rfl) (does_append0 rfl ts22 ti46 rfl (by decide) rfl (.inr rfl) rfl (by first | exact .own _ _ _ rfl rfl _ (by first | rfl | simp) | exact .emp | exact .nil | exact .sl _ (by first | simp; done | intro e he; simp at he; obtain ⟨_, _, rfl⟩ := he; rfl)) (by first | omega | (simp; omega) | (unfold maxLen; simp; omega)) (by first | omega | (simp; omega) | (unfold maxLen; simp; omega))) ?_
    first | refine gx_free rfl rfl (runs_none rfl) (fun _ => (does_fieldAddr_ptr rfl tf24_1 (by decide) rfl)) ?_ | refine gx_free rfl rfl (runs_none rfl) (fun _ => (does_fieldAddr_ref rfl tf24_1 (by decide) rfl)) ?_
    refine gx_nil (by kernel_rfl) ?_
    refine ath_n ?_
    refine ops_eff rfl (runs_none rfl) (does_store rfl ti22 rfl rfl rfl rfl rfl rfl (by decide) (by decide)) ?_
    refine ops_nil ?_
    repeat (first | refine aw_seq ?_ | refine ath_n ?_ | refine aw_skip ?_ | refine abl_n ?_ | refine aw_block ?_)
    refine aw_region ?_
    refine ops_op rfl rfl (runs_none rfl) (mv_s (.inl rfl) rfl) ?_
    refine ops_op rfl rfl (runs_none rfl) (does_add rfl rfl rfl (IntWalk.i64_in _ (by omega))) ?_
    refine ops_op rfl rfl (runs_none rfl) (mv_s (.inr rfl) rfl) ?_
    refine ops_nil ?_
    repeat (first | refine aw_seq ?_ | refine ath_n ?_ | refine aw_skip ?_ | refine abl_n ?_ | refine aw_block ?_)
    refine ⟨k + 1, by omega, by omega, ?_⟩
    exact wk_st [0, 1, 4] (by decide) ⟨⟨_, rfl, .rowE (by repeat' (first | exact Lo.s _ | exact Lo.emp | exact Lo.any | exact lo_nil | exact lo_nilE | refine lo_cons ?_ ?_ | refine lo_consE ?_ ?_ | refine lo_map ?_ | refine lo_mapE ?_ | refine Lo.cells ?_ | refine Lo.agg _ ?_ | refine Lo.ref _ ?_ | refine Lo.tup _ ?_ | refine Lo.fn _ _ ?_ | refine Lo.sl _ ?_ | intro _)) rfl⟩, ⟨_, rfl, obRn_agg (.cons (.lo _ (.s _)) (.cons (.own _ _ _ _ _ rfl (by simp)) (.cons (.lo _ (.s _)) (.cons (.lo _ (.s _)) .nil))))⟩, ⟨_, rfl, .rowE (by repeat' (first | exact Lo.s _ | exact Lo.emp | exact Lo.any | exact lo_nil | exact lo_nilE | refine lo_cons ?_ ?_ | refine lo_consE ?_ ?_ | refine lo_map ?_ | refine lo_mapE ?_ | refine Lo.cells ?_ | refine Lo.agg _ ?_ | refine Lo.ref _ ?_ | refine Lo.tup _ ?_ | refine Lo.fn _ _ ?_ | refine Lo.sl _ ?_ | intro _)) (by rw [List.range_succ, List.map_append]; rfl)⟩, trivial⟩ ⟨.lo _ (by repeat' (first | exact Lo.s _ | exact Lo.emp | exact Lo.any | exact lo_nil | exact lo_nilE | refine lo_cons ?_ ?_ | refine lo_consE ?_ ?_ | refine lo_map ?_ | refine lo_mapE ?_ | refine Lo.cells ?_ | refine Lo.agg _ ?_ | refine Lo.ref _ ?_ | refine Lo.tup _ ?_ | refine Lo.fn _ _ ?_ | refine Lo.sl _ ?_ | intro _)), .ptr 0 0 4 0 0 rfl, .ptr 1 1 4 0 0 rfl, .lo _ (by repeat' (first | exact Lo.s _ | exact Lo.emp | exact Lo.any | exact lo_nil | exact lo_nilE | refine lo_cons ?_ ?_ | refine lo_consE ?_ ?_ | refine lo_map ?_ | refine lo_mapE ?_ | refine Lo.cells ?_ | refine Lo.agg _ ?_ | refine Lo.ref _ ?_ | refine Lo.tup _ ?_ | refine Lo.fn _ _ ?_ | refine Lo.sl _ ?_ | intro _)), trivial⟩
  · have hkk : k = n.trans.length := by omega
    subst hkk
    have hE : ((List.range n.trans.length).map fun i => eT (revT (gti n.trans i))) = (n.trans.map revT).map eT := by
      apply List.ext_getElem
      · simp
      · intro i h1 h2
        simp at h1
        simp only [List.getElem_map, List.getElem_range]
        congr 2
        unfold gti
        rw [List.getElem?_eq_getElem h1]; rfl
    (refine aw_exit ?_; repeat (first | refine ath_x ?_ | refine abl_hit ?_ | refine abl_miss rfl ?_ | refine abl_n ?_ | refine ath_n ?_ | refine aw_seq ?_ | refine aw_skip ?_ | refine aw_block ?_))
    refine aw_region ?_
    first | refine ops_op rfl rfl (runs_none rfl) (does_load_refw rfl ta24 ti24 rfl rfl) ?_ | refine ops_op rfl rfl (runs_none rfl) (does_load_whole rfl ta24 ti24 rfl rfl rfl rfl rfl) ?_ | refine ops_op rfl rfl (runs_none rfl) (does_load_refs rfl ta24 ti24 rfl (Nat.le_of_ble_eq_true rfl)) ?_ | refine ops_op rfl rfl (runs_none rfl) (does_load_ptrs rfl ta24 ti24 rfl rfl rfl rfl (Nat.le_of_ble_eq_true rfl)) ?_
    refine ops_eff rfl (runs_none rfl) (does_store rfl ti24 rfl rfl rfl rfl rfl rfl (by decide) (by decide)) ?_
    refine ops_nil ?_
    repeat (first | refine aw_seq ?_ | refine ath_n ?_ | refine aw_skip ?_ | refine abl_n ?_ | refine aw_block ?_)
    (refine aw_ret ?_; repeat (first | refine ath_r ?_ | refine abl_r ?_))
    have hR : eN (revN n) = .agg [eI n.places, .sl ((List.range n.trans.length).map fun i => eT (revT (gti n.trans i))), eI n.sink, eI n.source] := by rw [hE]; rfl
    rw [hR]
    apply post1cf (.inr rfl) (cs1 := [eI n.places, .own 2 3 n.trans.length, eI n.sink, eI n.source])
    · exact ta24
    · exact ti24
    · exact rfl
    · exact rfl
    · exact rfl
    · exact rfl
    · exact rfl
    · exact rfl
    · exact .cons (.refl _) (.cons (.own _ _ _ _ _ rfl rfl (by simp)) (.cons (.refl _) (.cons (.refl _) .nil)))
end Go.Proofs.Ytmhbfoaecebobaa.Aw
end
section
namespace Go.Proofs.Ytmhbfoaecebobaa.Aw
set_option linter.unusedSimpArgs false
set_option linter.unusedVariables false
open Go.RowKit Go.Proofs
variable {P : Program} [IsP P]

def addL (L : List Int) : List Int → List Int
  | [] => L
  | q :: l => addL (if q ∈ L then L else L ++ [q]) l
theorem addL_snoc : ∀ (l : List Int) (L : List Int) (q : Int), addL L (l ++ [q]) = if q ∈ addL L l then addL L l else addL L l ++ [q]
  | [], L, q => rfl
  | x :: l, L, q => addL_snoc l _ q
def addT (n : Net) (x : Int) (L : List Int) (k : Nat) : List Int := if x ∈ (gti n.trans k).inn then addL L (gti n.trans k).out else L
def rndW (n : Net) (x : Int) (L : List Int) : Nat → List Int
  | 0 => L
  | k + 1 => addT n x (rndW n x L k) k
def rchW (n : Net) : Nat → Nat → List Int → List Int
  | 0, _, L => L
  | f + 1, i, L => if i < L.length then rchW n f (i + 1) (rndW n (gti L i) L n.trans.length) else L
def reachW (n : Net) (s : Int) : List Int := rchW n 41 0 [s]

/-- what the list keeps -/
structure LI (n : Net) (s : Int) (L : List Int) : Prop where
  nd : L.Nodup
  rng : ∀ p ∈ L, 0 ≤ p ∧ p < n.places
  st : s ∈ L
  rch : ∀ p ∈ L, Rch n false s p
theorem nodup_sub {α : Type} [BEq α] [LawfulBEq α] : ∀ {l m : List α}, l.Nodup → l ⊆ m → l.length ≤ m.length
  | [], m, _, _ => Nat.zero_le _
  | a :: l, m, h, hs => by
    rw [List.nodup_cons] at h
    have ha : a ∈ m := hs (List.mem_cons_self ..)
    have h1 : l ⊆ m.erase a := fun x hx => by
      have hne : x ≠ a := fun e => h.1 (e ▸ hx)
      exact (List.mem_erase_of_ne hne).2 (hs (List.mem_cons_of_mem _ hx))
    have h2 := nodup_sub h.2 h1
    rw [List.length_erase_of_mem ha] at h2
    have := List.length_pos_of_mem ha
    simp only [List.length_cons]
    omega
theorem nodup_len {L : List Int} {m : Int} (h : L.Nodup) (hr : ∀ p ∈ L, 0 ≤ p ∧ p < m) : (L.length : Int) ≤ m ∨ L = [] := by
  by_cases h0 : L = []
  · exact .inr h0
  · left
    have hm : 0 ≤ m := by
      obtain ⟨x, hx⟩ := List.exists_mem_of_ne_nil L h0
      have := hr x hx; omega
    have h1 : (L.map Int.toNat).Nodup := by
      rw [List.nodup_iff_pairwise_ne] at h ⊢
      rw [List.pairwise_map]
      refine List.Pairwise.imp_of_mem ?_ h
      intro a b ha hb hab e
      have := hr a ha; have := hr b hb
      omega
    have h2 : (L.map Int.toNat) ⊆ List.range m.toNat := by
      intro x hx
      obtain ⟨p, hp, rfl⟩ := List.mem_map.1 hx
      have := hr p hp
      simp; omega
    have h3 := nodup_sub h1 h2
    simp at h3
    omega
theorem LI.len {n : Net} {s : Int} {L : List Int} (h : LI n s L) : (L.length : Int) ≤ n.places ∧ 0 < L.length := by
  have h0 : 0 < L.length := List.length_pos_of_mem h.st
  rcases nodup_len h.nd h.rng with h1 | h1
  · exact ⟨h1, h0⟩
  · rw [h1] at h0; simp at h0
theorem LI.add1 {n : Net} {s : Int} {L : List Int} (h : LI n s L) {q : Int} (h1 : 0 ≤ q ∧ q < n.places) (h2 : Rch n false s q) : LI n s (if q ∈ L then L else L ++ [q]) := by
  by_cases hq : q ∈ L
  · rw [if_pos hq]; exact h
  · rw [if_neg hq]
    refine ⟨?_, fun p hp => ?_, by simp [h.st], fun p hp => ?_⟩
    · rw [List.nodup_append]
      refine ⟨h.nd, by simp, fun a ha b hb => ?_⟩
      simp at hb
      subst hb
      intro e; subst e; exact hq ha
    · simp only [List.mem_append, List.mem_singleton] at hp
      rcases hp with hp | rfl
      · exact h.rng p hp
      · exact h1
    · simp only [List.mem_append, List.mem_singleton] at hp
      rcases hp with hp | rfl
      · exact h.rch p hp
      · exact h2
theorem LI.addL {n : Net} {s : Int} : ∀ {l : List Int} {L : List Int}, LI n s L → (∀ q ∈ l, (0 ≤ q ∧ q < n.places) ∧ Rch n false s q) → LI n s (addL L l)
  | [], L, h, _ => h
  | q :: l, L, h, hl => LI.addL (l := l) (h.add1 (hl q (List.mem_cons_self ..)).1 (hl q (List.mem_cons_self ..)).2) (fun u hu => hl u (List.mem_cons_of_mem _ hu))
theorem LI.addT {n : Net} {s : Int} {L : List Int} (h : LI n s L) (hp : Plc n) {x : Int} (hx : Rch n false s x) {k : Nat} (hk : k < n.trans.length) : LI n s (addT n x L k) := by
  unfold Aw.addT
  split
  · rename_i hin
    exact h.addL (fun q hq => ⟨hp.out hk false q hq, .step hk hin hx hq⟩)
  · exact h
theorem LI.rnd {n : Net} {s : Int} {L : List Int} (h : LI n s L) (hp : Plc n) {x : Int} (hx : Rch n false s x) : ∀ {k : Nat}, k ≤ n.trans.length → LI n s (rndW n x L k)
  | 0, _ => h
  | k + 1, hk => (h.rnd hp hx (by omega)).addT hp hx hk
theorem addL_pre : ∀ (l : List Int) (L : List Int), ∃ t, addL L l = L ++ t ∧ ∀ q ∈ l, q ∈ addL L l
  | [], L => ⟨[], by simp [addL], by simp⟩
  | q :: l, L => by
    obtain ⟨t, h1, h2⟩ := addL_pre l (if q ∈ L then L else L ++ [q])
    have hq : q ∈ (if q ∈ L then L else L ++ [q]) := by split <;> simp_all
    refine ⟨(if q ∈ L then [] else [q]) ++ t, ?_, fun u hu => ?_⟩
    · rw [addL, h1]; split <;> simp
    · rw [addL]
      rcases List.mem_cons.1 hu with rfl | hu
      · rw [h1]; exact List.mem_append_left _ hq
      · exact h2 u hu
theorem rndW_pre (n : Net) (x : Int) (L : List Int) : ∀ k, ∃ t, rndW n x L k = L ++ t
  | 0 => ⟨[], by simp [rndW]⟩
  | k + 1 => by
    obtain ⟨t, h⟩ := rndW_pre n x L k
    rw [rndW, addT, h]
    split
    · obtain ⟨u, h2, _⟩ := addL_pre (gti n.trans k).out (L ++ t)
      exact ⟨t ++ u, by rw [h2, List.append_assoc]⟩
    · exact ⟨t, rfl⟩
theorem rndW_mem (n : Net) (x : Int) (L : List Int) : ∀ (k j : Nat), j < k → x ∈ (gti n.trans j).inn → ∀ q ∈ (gti n.trans j).out, q ∈ rndW n x L k
  | 0, j, h, _, _, _ => by omega
  | k + 1, j, h, hx, q, hq => by
    rw [rndW]
    by_cases hj : j = k
    · subst hj
      rw [addT, if_pos hx]
      exact (addL_pre _ _).choose_spec.2 q hq
    · have h1 := rndW_mem n x L k j (by omega) hx q hq
      unfold addT
      split
      · obtain ⟨t, h2, _⟩ := addL_pre (gti n.trans k).out (rndW n x L k)
        rw [h2]; exact List.mem_append_left _ h1
      · exact h1
/-- all that the first i places lead to is there -/
def LC (n : Net) (L : List Int) (i : Nat) : Prop := ∀ j, j < i → ∀ k, k < n.trans.length → gti L j ∈ (gti n.trans k).inn → ∀ q ∈ (gti n.trans k).out, q ∈ L
theorem gti_app {α : Type} [Inhabited α] {L t : List α} {j : Nat} (h : j < L.length) : gti (L ++ t) j = gti L j := by unfold gti; rw [List.getElem?_append_left h]
theorem LC.rnd {n : Net} {L : List Int} {i : Nat} (h : LC n L i) (hi : i < L.length) : LC n (rndW n (gti L i) L n.trans.length) (i + 1) := by
  intro j hj k hk hin q hq
  obtain ⟨t, ht⟩ := rndW_pre n (gti L i) L n.trans.length
  have hjl : j < L.length := by omega
  have e : gti (rndW n (gti L i) L n.trans.length) j = gti L j := by rw [ht, gti_app hjl]
  rw [e] at hin
  by_cases hji : j = i
  · subst hji
    exact rndW_mem n _ L n.trans.length k hk hin q hq
  · rw [ht]
    exact List.mem_append_left _ (h j (by omega) k hk hin q hq)
theorem LC.all {n : Net} {s : Int} {L : List Int} (h : LI n s L) (hc : LC n L L.length) (p : Int) : p ∈ L ↔ Rch n false s p := by
  refine ⟨h.rch p, fun hr => ?_⟩
  induction hr with
  | start => exact h.st
  | @step k p q hk hin _ hq ih =>
    obtain ⟨j, hj, rfl⟩ := List.getElem_of_mem ih
    have e : gti L j = L[j] := by unfold gti; rw [List.getElem?_eq_getElem hj]; rfl
    exact hc j hj k hk (by rw [e]; exact hin) q hq
theorem rchW_spec {n : Net} {s : Int} (hp : Plc n) (h40 : n.places ≤ 40) : ∀ (f i : Nat) (L : List Int), 41 ≤ f + i → i ≤ L.length → LI n s L → LC n L i → LI n s (rchW n f i L) ∧ LC n (rchW n f i L) (rchW n f i L).length
  | 0, i, L, hf, hi, h, hc => by have := h.len; omega
  | f + 1, i, L, hf, hi, h, hc => by
    rw [rchW]
    by_cases hlt : i < L.length
    · rw [if_pos hlt]
      obtain ⟨t, ht⟩ := rndW_pre n (gti L i) L n.trans.length
      exact rchW_spec hp h40 f (i + 1) _ (by omega) (by rw [ht]; simp; omega) (h.rnd hp (h.rch _ (gti_mem hlt)) (Nat.le_refl _)) (hc.rnd hlt)
    · rw [if_neg hlt]
      obtain rfl : i = L.length := by omega
      exact ⟨h, hc⟩
theorem LI.init {n : Net} {s : Int} (h : 0 ≤ s ∧ s < n.places) : LI n s [s] := ⟨by simp, fun p hp => by simp at hp; subst hp; exact h, by simp, fun p hp => by simp at hp; subst hp; exact .start⟩
theorem reachW_iff {n : Net} {s : Int} (hv : validB n = true) (h : 0 ≤ s ∧ s < n.places) (p : Int) : p ∈ reachW n s ↔ Rch n false s p := by
  have h1 := rchW_spec (Plc.of hv) (validB_places hv).2.1 41 0 [s] (by omega) (by omega) (LI.init h) (fun j hj => by omega)
  exact LC.all h1.1 h1.2 p
end Go.Proofs.Ytmhbfoaecebobaa.Aw
end
