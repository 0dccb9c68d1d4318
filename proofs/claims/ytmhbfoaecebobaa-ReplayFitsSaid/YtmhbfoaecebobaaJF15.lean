/-
  Texts joined: RFt. Conditions: none.
-/
import Derived.Test.YtmhbfoaecebobaaJF13
import Derived.Test.YtmhbfoaecebobaaJF14
section
namespace Go.Proofs.Ytmhbfoaecebobaa.Aw
set_option linter.unusedSimpArgs false
set_option linter.unusedVariables false
open Go.RowKit Go.Proofs
variable {P : Program} [IsP P]

def eNd (x : Nd) : AV := .agg [eI x.k, eL eI x.m, eL eI x.run]
def eFt (r : Bool × List Int × Int) : AV := .tup [eB r.1, eL eI r.2.1, eI r.2.2]
abbrev rfF (n : Net) (w : List ByteArray) (most : Int) (q : List Nd) (i : Nat) : Frm := [(1, eL eS w), (2, eI most), (3, .ref (eN n).cells), (10, .own 0 3 q.length), (11, eI i)]
abbrev rfS (q : List Nd) : List Ob := [.row 3 (q.map eNd)]
set_option maxHeartbeats 4000000 in
theorem rFits_pf (n : Net) (w : List ByteArray) (most : Int) : Pure P 16 [eN n, eL eS w, eI most] (eFt (FitsE n w most)) := by
  have hw := words_pf (P := P) n w
  have hW0 : wordsE n w = 0 → wfB n = true ∧ allN w = true ∧ w.length ≤ 200 := by
    unfold wordsE
    intro h
    split at h
    · cases h
    · rename_i h1
      split at h
      · cases h
      · rename_i h2
        simp at h1
        exact ⟨h1.1, h1.2, by omega⟩
  refine aw_fn (by rw [IsP.eq (P := P)]; exact Try.func16) rfl rfl rfl rfl rfl (by repeat' (first | exact Lo.s _ | exact Lo.emp | exact Lo.any | exact lo_nil | exact lo_nilE | refine lo_cons ?_ ?_ | refine lo_consE ?_ ?_ | refine lo_map ?_ | refine lo_mapE ?_ | refine Lo.cells ?_ | refine Lo.agg _ ?_ | refine Lo.ref _ ?_ | refine Lo.tup _ ?_ | refine Lo.fn _ _ ?_ | refine Lo.sl _ ?_ | intro _)) (by repeat' (first | exact Lo.s _ | exact Lo.emp | exact Lo.any | exact lo_nil | exact lo_nilE | refine lo_cons ?_ ?_ | refine lo_consE ?_ ?_ | refine lo_map ?_ | refine lo_mapE ?_ | refine Lo.cells ?_ | refine Lo.agg _ ?_ | refine Lo.ref _ ?_ | refine Lo.tup _ ?_ | refine Lo.fn _ _ ?_ | refine Lo.sl _ ?_ | intro _)) (by simp only [argF]; rfl) ?_
  repeat (first | refine aw_seq ?_ | refine ath_n ?_ | refine aw_skip ?_ | refine abl_n ?_ | refine aw_block ?_)
  refine aw_region ?_
  refine ops_op rfl rfl (runs_none rfl) (does_box rfl rfl rfl rfl) ?_
  refine aops_weak (wk_froz (id := 0) rfl) (aops_weak (wk_ref (d := 3) rfl rfl rfl) ?_)
  refine ops_op rfl rfl (runs_none rfl) (mv_s (.inr rfl) rfl) ?_
  first | refine ops_op rfl rfl (runs_none rfl) (mv_own (.inr rfl) rfl) ?_ | refine ops_op rfl rfl (runs_none rfl) (mv_sl (.inr rfl) rfl) ?_ | refine ops_op rfl rfl (runs_none rfl) (mv_s (.inr rfl) rfl) ?_ | refine ops_op rfl rfl (runs_none rfl) (mv_emp (.inr rfl) rfl) ?_
  refine ops_op rfl rfl (runs_none rfl) (mv_s (.inr rfl) rfl) ?_
  refine ops_nil ?_
  repeat (first | refine aw_seq ?_ | refine ath_n ?_ | refine aw_skip ?_ | refine abl_n ?_ | refine aw_block ?_)
  refine aw_region ?_
  first | refine ops_op rfl rfl (runs_none rfl) (does_load_refw rfl ta24 ti24 rfl rfl) ?_ | refine ops_op rfl rfl (runs_none rfl) (does_load_whole rfl ta24 ti24 rfl rfl rfl rfl rfl) ?_ | refine ops_op rfl rfl (runs_none rfl) (does_load_refs rfl ta24 ti24 rfl (Nat.le_of_ble_eq_true rfl)) ?_ | refine ops_op rfl rfl (runs_none rfl) (does_load_ptrs rfl ta24 ti24 rfl rfl rfl rfl (Nat.le_of_ble_eq_true rfl)) ?_
  first | refine ops_op rfl rfl (runs_none rfl) (mv_own (.inl rfl) rfl) ?_ | refine ops_op rfl rfl (runs_none rfl) (mv_sl (.inl rfl) rfl) ?_ | refine ops_op rfl rfl (runs_none rfl) (mv_s (.inl rfl) rfl) ?_ | refine ops_op rfl rfl (runs_none rfl) (mv_emp (.inl rfl) rfl) ?_
  refine ops_op rfl rfl (runs_none rfl) (does_call rfl rfl (hw) (evc_cons rfl (evc_cons rfl evc_nil))) ?_
  refine ops_op rfl rfl (runs_none rfl) (mv_s (.inr rfl) rfl) ?_
  refine ops_nil ?_
  repeat (first | refine aw_seq ?_ | refine ath_n ?_ | refine aw_skip ?_ | refine abl_n ?_ | refine aw_block ?_)
  refine aw_region ?_
  refine ops_op rfl rfl (runs_none rfl) (mv_s (.inl rfl) rfl) ?_
  refine ops_op rfl rfl (runs_none rfl) (does_neq rfl rfl rfl) ?_
  refine ops_nil ?_
  repeat (first | refine aw_seq ?_ | refine ath_n ?_ | refine aw_skip ?_ | refine abl_n ?_ | refine aw_block ?_)
  refine aw_if rfl (fun h => ?_) (fun h => ?_)
  · have hF : FitsE n w most = (false, [], wordsE n w) := if_pos h
    repeat (first | refine aw_seq ?_ | refine ath_n ?_ | refine aw_skip ?_ | refine abl_n ?_ | refine aw_block ?_)
    refine aw_region ?_
    refine ops_op rfl rfl (runs_none rfl) (mv_s (.inl rfl) rfl) ?_
    refine ops_op rfl rfl (runs_none rfl) (mv_s (.inr rfl) rfl) ?_
    first | refine ops_op rfl rfl (runs_none rfl) (mv_own (.inr rfl) rfl) ?_ | refine ops_op rfl rfl (runs_none rfl) (mv_sl (.inr rfl) rfl) ?_ | refine ops_op rfl rfl (runs_none rfl) (mv_s (.inr rfl) rfl) ?_ | refine ops_op rfl rfl (runs_none rfl) (mv_emp (.inr rfl) rfl) ?_
    refine ops_op rfl rfl (runs_none rfl) (mv_s (.inr rfl) rfl) ?_
    refine ops_nil ?_
    repeat (first | refine aw_seq ?_ | refine ath_n ?_ | refine aw_skip ?_ | refine abl_n ?_ | refine aw_block ?_)
    (refine aw_ret ?_; repeat (first | refine ath_r ?_ | refine abl_r ?_))
    rw [hF]
    exact post3 (.inr rfl) rfl rfl rfl (.refl _) .nil (.refl _)
  · have h0 : wordsE n w = 0 := by simpa using h
    obtain ⟨hwf, hnames, hl200⟩ := hW0 h0
    have hval := (wfB_wf hwf).valid
    have hpl := validB_places hval
    have hends := validB_ends hval
    obtain ⟨ksr, hksr⟩ : ∃ k : Nat, n.source = k := ⟨n.source.toNat, by omega⟩
    have hone := rone_pf (P := P) n n.places.toNat ksr (by omega) (by omega) (by omega)
    rw [← hksr] at hone
    obtain ⟨ksk, hksk⟩ : ∃ k : Nat, n.sink = k := ⟨n.sink.toNat, by omega⟩
    have hfin := rone_pf (P := P) n n.places.toNat ksk (by omega) (by omega) (by omega)
    rw [← hksk] at hfin
    have hF0 : FitsE n w most = if most < 1 ∨ 2000 < most then (false, [], 2) else srchF n w most (most.toNat + 1) 0 [⟨0, oneL n.places.toNat n.source, []⟩] := if_neg h
    repeat (first | refine aw_seq ?_ | refine ath_n ?_ | refine aw_skip ?_ | refine abl_n ?_ | refine aw_block ?_)
    by_cases hr1 : most < 1
    · rw [if_pos (.inl hr1)] at hF0
      refine aw_region ?_
      refine ops_op rfl rfl (runs_none rfl) (mv_s (.inl rfl) rfl) ?_
      refine ops_op rfl rfl (runs_none rfl) (dec_t hr1 (does_lss rfl rfl rfl)) ?_
      refine ops_op rfl rfl (runs_none rfl) (mv_s (.inl rfl) rfl) ?_
      first | refine ops_op rfl rfl (runs_y rfl rfl rfl) (mv_s (.inl rfl) rfl) ?_ | refine ops_skip rfl rfl (runs_nf rfl rfl rfl) ?_ | refine ops_skip rfl rfl (runs_nu rfl rfl rfl) ?_
      first | refine ops_op rfl rfl (runs_y rfl rfl rfl) (does_gtr rfl rfl rfl) ?_ | refine ops_skip rfl rfl (runs_nf rfl rfl rfl) ?_ | refine ops_skip rfl rfl (runs_nu rfl rfl rfl) ?_
      first | refine ops_op rfl rfl (runs_none rfl) (pickT_s rfl rfl rfl) ?_ | refine ops_op rfl rfl (runs_none rfl) (pickF_s rfl rfl rfl) ?_ | refine ops_op rfl rfl (runs_none rfl) (does_pickT rfl rfl rfl) ?_ | refine ops_op rfl rfl (runs_none rfl) (does_pickF rfl rfl rfl) ?_
      refine ops_nil ?_
      repeat (first | refine aw_seq ?_ | refine ath_n ?_ | refine aw_skip ?_ | refine abl_n ?_ | refine aw_block ?_)
      refine aw_true rfl ?_
      repeat (first | refine aw_seq ?_ | refine ath_n ?_ | refine aw_skip ?_ | refine abl_n ?_ | refine aw_block ?_)
      refine aw_region ?_
      refine ops_op rfl rfl (runs_none rfl) (mv_s (.inr rfl) rfl) ?_
      first | refine ops_op rfl rfl (runs_none rfl) (mv_own (.inr rfl) rfl) ?_ | refine ops_op rfl rfl (runs_none rfl) (mv_sl (.inr rfl) rfl) ?_ | refine ops_op rfl rfl (runs_none rfl) (mv_s (.inr rfl) rfl) ?_ | refine ops_op rfl rfl (runs_none rfl) (mv_emp (.inr rfl) rfl) ?_
      refine ops_op rfl rfl (runs_none rfl) (mv_s (.inr rfl) rfl) ?_
      refine ops_nil ?_
      repeat (first | refine aw_seq ?_ | refine ath_n ?_ | refine aw_skip ?_ | refine abl_n ?_ | refine aw_block ?_)
      (refine aw_ret ?_; repeat (first | refine ath_r ?_ | refine abl_r ?_))
      rw [hF0]
      exact post3 (.inr rfl) rfl rfl rfl (.refl _) .nil (.refl _)
    by_cases hr2 : 2000 < most
    · rw [if_pos (.inr hr2)] at hF0
      refine aw_region ?_
      refine ops_op rfl rfl (runs_none rfl) (mv_s (.inl rfl) rfl) ?_
      refine ops_op rfl rfl (runs_none rfl) (dec_f hr1 (does_lss rfl rfl rfl)) ?_
      refine ops_op rfl rfl (runs_none rfl) (mv_s (.inl rfl) rfl) ?_
      first | refine ops_op rfl rfl (runs_y rfl rfl rfl) (mv_s (.inl rfl) rfl) ?_ | refine ops_skip rfl rfl (runs_nf rfl rfl rfl) ?_ | refine ops_skip rfl rfl (runs_nu rfl rfl rfl) ?_
      first | refine ops_op rfl rfl (runs_y rfl rfl rfl) (dec_t hr2 (does_gtr rfl rfl rfl)) ?_ | refine ops_skip rfl rfl (runs_nf rfl rfl rfl) ?_ | refine ops_skip rfl rfl (runs_nu rfl rfl rfl) ?_
      first | refine ops_op rfl rfl (runs_none rfl) (pickT_s rfl rfl rfl) ?_ | refine ops_op rfl rfl (runs_none rfl) (pickF_s rfl rfl rfl) ?_ | refine ops_op rfl rfl (runs_none rfl) (does_pickT rfl rfl rfl) ?_ | refine ops_op rfl rfl (runs_none rfl) (does_pickF rfl rfl rfl) ?_
      refine ops_nil ?_
      repeat (first | refine aw_seq ?_ | refine ath_n ?_ | refine aw_skip ?_ | refine abl_n ?_ | refine aw_block ?_)
      refine aw_true rfl ?_
      repeat (first | refine aw_seq ?_ | refine ath_n ?_ | refine aw_skip ?_ | refine abl_n ?_ | refine aw_block ?_)
      refine aw_region ?_
      refine ops_op rfl rfl (runs_none rfl) (mv_s (.inr rfl) rfl) ?_
      first | refine ops_op rfl rfl (runs_none rfl) (mv_own (.inr rfl) rfl) ?_ | refine ops_op rfl rfl (runs_none rfl) (mv_sl (.inr rfl) rfl) ?_ | refine ops_op rfl rfl (runs_none rfl) (mv_s (.inr rfl) rfl) ?_ | refine ops_op rfl rfl (runs_none rfl) (mv_emp (.inr rfl) rfl) ?_
      refine ops_op rfl rfl (runs_none rfl) (mv_s (.inr rfl) rfl) ?_
      refine ops_nil ?_
      repeat (first | refine aw_seq ?_ | refine ath_n ?_ | refine aw_skip ?_ | refine abl_n ?_ | refine aw_block ?_)
      (refine aw_ret ?_; repeat (first | refine ath_r ?_ | refine abl_r ?_))
      rw [hF0]
      exact post3 (.inr rfl) rfl rfl rfl (.refl _) .nil (.refl _)
    rw [if_neg (by omega)] at hF0
    refine aw_region ?_
    refine ops_op rfl rfl (runs_none rfl) (mv_s (.inl rfl) rfl) ?_
    refine ops_op rfl rfl (runs_none rfl) (dec_f hr1 (does_lss rfl rfl rfl)) ?_
    refine ops_op rfl rfl (runs_none rfl) (mv_s (.inl rfl) rfl) ?_
    first | refine ops_op rfl rfl (runs_y rfl rfl rfl) (mv_s (.inl rfl) rfl) ?_ | refine ops_skip rfl rfl (runs_nf rfl rfl rfl) ?_ | refine ops_skip rfl rfl (runs_nu rfl rfl rfl) ?_
    first | refine ops_op rfl rfl (runs_y rfl rfl rfl) (dec_f hr2 (does_gtr rfl rfl rfl)) ?_ | refine ops_skip rfl rfl (runs_nf rfl rfl rfl) ?_ | refine ops_skip rfl rfl (runs_nu rfl rfl rfl) ?_
    first | refine ops_op rfl rfl (runs_none rfl) (pickT_s rfl rfl rfl) ?_ | refine ops_op rfl rfl (runs_none rfl) (pickF_s rfl rfl rfl) ?_ | refine ops_op rfl rfl (runs_none rfl) (does_pickT rfl rfl rfl) ?_ | refine ops_op rfl rfl (runs_none rfl) (does_pickF rfl rfl rfl) ?_
    refine ops_nil ?_
    repeat (first | refine aw_seq ?_ | refine ath_n ?_ | refine aw_skip ?_ | refine abl_n ?_ | refine aw_block ?_)
    refine aw_false rfl ?_
    repeat (first | refine aw_seq ?_ | refine ath_n ?_ | refine aw_skip ?_ | refine abl_n ?_ | refine aw_block ?_)
    refine aw_region ?_
    first | refine ops_op rfl rfl (runs_none rfl) (does_load_refw rfl ta24 ti24 rfl rfl) ?_ | refine ops_op rfl rfl (runs_none rfl) (does_load_whole rfl ta24 ti24 rfl rfl rfl rfl rfl) ?_ | refine ops_op rfl rfl (runs_none rfl) (does_load_refs rfl ta24 ti24 rfl (Nat.le_of_ble_eq_true rfl)) ?_ | refine ops_op rfl rfl (runs_none rfl) (does_load_ptrs rfl ta24 ti24 rfl rfl rfl rfl (Nat.le_of_ble_eq_true rfl)) ?_
    first | refine ops_op rfl rfl (runs_none rfl) (does_fieldAddr_ptr rfl tf24_2 (by decide) rfl) ?_ | refine ops_op rfl rfl (runs_none rfl) (does_fieldAddr_ref rfl tf24_2 (by decide) rfl) ?_
    first | refine ops_op rfl rfl (runs_none rfl) (does_load_ref rfl ta3 rfl) ?_ | refine ops_op rfl rfl (runs_none rfl) (does_load_ptr rfl ta3 rfl rfl rfl rfl rfl) ?_
    refine ops_op rfl rfl (runs_none rfl) (does_call rfl rfl (hone) (evc_cons rfl (evc_cons rfl evc_nil))) ?_
    refine ops_op rfl rfl (runs_none rfl) (does_build rfl ti94 tp94 rfl rfl) ?_
    first | refine ops_op rfl rfl (runs_none rfl) (lit1_s rfl ts95 ti94 rfl rfl rfl rfl) ?_ | refine ops_op rfl rfl (runs_none rfl) (lit1_sl rfl ts95 ti94 rfl rfl rfl rfl) ?_ | refine ops_op rfl rfl (runs_none rfl) (does_litA rfl ts95 ti94 rfl rfl (by decide) (by decide) rfl rfl rfl) ?_
    first | refine ops_op rfl rfl (runs_none rfl) (mv_own (.inr rfl) rfl) ?_ | refine ops_op rfl rfl (runs_none rfl) (mv_sl (.inr rfl) rfl) ?_ | refine ops_op rfl rfl (runs_none rfl) (mv_s (.inr rfl) rfl) ?_ | refine ops_op rfl rfl (runs_none rfl) (mv_emp (.inr rfl) rfl) ?_
    refine ops_nil ?_
    repeat (first | refine aw_seq ?_ | refine ath_n ?_ | refine aw_skip ?_ | refine abl_n ?_ | refine aw_block ?_)
    refine aw_weak (wk_nilC (id := 1) (e' := eNd ⟨0, oneL n.places.toNat n.source, []⟩) (pre := [eI 0, eL eI (oneL n.places.toNat n.source)]) (post := []) rfl rfl rfl) ?_
    refine aw_region ?_
    refine ops_op rfl rfl (runs_none rfl) (mv_s (.inr rfl) rfl) ?_
    refine ops_nil ?_
    repeat (first | refine aw_seq ?_ | refine ath_n ?_ | refine aw_skip ?_ | refine abl_n ?_ | refine aw_block ?_)
    refine aw_loops (S := List Nd × Nat) (fun s => rfF n w most s.1 s.2) (fun s => rfS s.1) (fun s => s.2 ≤ s.1.length ∧ (s.2 : Int) ≤ most ∧ (s.1.length : Int) ≤ most + 1 ∧ QF n w s.1 ∧ FitsE n w most = srchF n w most (most.toNat + 1 - s.2) s.2 s.1) (fun s => most.toNat + 1 - s.2) ([⟨0, oneL n.places.toNat n.source, []⟩], 0)
      (wk_st [1] (by decide) ⟨⟨_, rfl, .row 3 [eNd ⟨0, oneL n.places.toNat n.source, []⟩] (by repeat' (first | exact Lo.s _ | exact Lo.emp | exact Lo.any | exact lo_nil | exact lo_nilE | refine lo_cons ?_ ?_ | refine lo_consE ?_ ?_ | refine lo_map ?_ | refine lo_mapE ?_ | refine Lo.cells ?_ | refine Lo.agg _ ?_ | refine Lo.ref _ ?_ | refine Lo.tup _ ?_ | refine Lo.fn _ _ ?_ | refine Lo.sl _ ?_ | intro _))⟩, trivial⟩ ⟨.lo _ (by repeat' (first | exact Lo.s _ | exact Lo.emp | exact Lo.any | exact lo_nil | exact lo_nilE | refine lo_cons ?_ ?_ | refine lo_consE ?_ ?_ | refine lo_map ?_ | refine lo_mapE ?_ | refine Lo.cells ?_ | refine Lo.agg _ ?_ | refine Lo.ref _ ?_ | refine Lo.tup _ ?_ | refine Lo.fn _ _ ?_ | refine Lo.sl _ ?_ | intro _)), .lo _ (by repeat' (first | exact Lo.s _ | exact Lo.emp | exact Lo.any | exact lo_nil | exact lo_nilE | refine lo_cons ?_ ?_ | refine lo_consE ?_ ?_ | refine lo_map ?_ | refine lo_mapE ?_ | refine Lo.cells ?_ | refine Lo.agg _ ?_ | refine Lo.ref _ ?_ | refine Lo.tup _ ?_ | refine Lo.fn _ _ ?_ | refine Lo.sl _ ?_ | intro _)), .lo _ (by repeat' (first | exact Lo.s _ | exact Lo.emp | exact Lo.any | exact lo_nil | exact lo_nilE | refine lo_cons ?_ ?_ | refine lo_consE ?_ ?_ | refine lo_map ?_ | refine lo_mapE ?_ | refine Lo.cells ?_ | refine Lo.agg _ ?_ | refine Lo.ref _ ?_ | refine Lo.tup _ ?_ | refine Lo.fn _ _ ?_ | refine Lo.sl _ ?_ | intro _)), .own 1 0 3 1 _ rfl rfl, .lo _ (by repeat' (first | exact Lo.s _ | exact Lo.emp | exact Lo.any | exact lo_nil | exact lo_nilE | refine lo_cons ?_ ?_ | refine lo_consE ?_ ?_ | refine lo_map ?_ | refine lo_mapE ?_ | refine Lo.cells ?_ | refine Lo.agg _ ?_ | refine Lo.ref _ ?_ | refine Lo.tup _ ?_ | refine Lo.fn _ _ ?_ | refine Lo.sl _ ?_ | intro _)), trivial⟩) ⟨by simp, by dsimp only; omega, by simp; omega, QF.init w hval, hF0⟩ ?_
    rintro ⟨q, i⟩ ⟨hil, him, hql, HQ, HI⟩
    dsimp only at hil him hql HQ HI ⊢
    repeat (first | refine aw_seq ?_ | refine ath_n ?_ | refine aw_skip ?_ | refine abl_n ?_ | refine aw_block ?_)
    by_cases hlt : i < q.length
    · by_cases hm : (i : Int) < most
      · have HI1 : FitsE n w most = if doneF n w (gti q i) then (true, (gti q i).run, 0) else srchF n w most (most.toNat + 1 - (i + 1)) (i + 1) (roundF n w most (gti q i) q n.trans.length) := by
          rw [HI, show most.toNat + 1 - i = (most.toNat + 1 - (i + 1)) + 1 by omega, srchF, if_pos ⟨hlt, hm⟩]
        obtain ⟨hxm, hxk0, hxk1, hxr⟩ := HQ.at_ i hlt
        refine aw_region ?_
        refine ops_op rfl rfl (runs_none rfl) (mv_s (.inl rfl) rfl) ?_
        first | refine ops_op rfl rfl (runs_none rfl) (mv_own (.inl rfl) rfl) ?_ | refine ops_op rfl rfl (runs_none rfl) (mv_sl (.inl rfl) rfl) ?_ | refine ops_op rfl rfl (runs_none rfl) (mv_s (.inl rfl) rfl) ?_ | refine ops_op rfl rfl (runs_none rfl) (mv_emp (.inl rfl) rfl) ?_
        first | refine ops_op rfl rfl (runs_none rfl) (does_len_map rfl ts95 rfl) ?_ | refine ops_op rfl rfl (runs_none rfl) (does_len_sl rfl ts95 rfl) ?_ | refine ops_op rfl rfl (runs_none rfl) (does_len_own rfl ts95 rfl) ?_ | refine ops_op rfl rfl (runs_none rfl) (does_len_s rfl ts95 rfl) ?_ | refine ops_op rfl rfl (runs_none rfl) (does_len_emp rfl ts95 rfl) ?_
        refine ops_op rfl rfl (runs_none rfl) (dec_t (by omega) (does_lss rfl rfl rfl)) ?_
        refine ops_op rfl rfl (runs_none rfl) (mv_s (.inl rfl) rfl) ?_
        first | refine ops_op rfl rfl (runs_y rfl rfl rfl) (mv_s (.inl rfl) rfl) ?_ | refine ops_skip rfl rfl (runs_nt rfl rfl rfl) ?_ | refine ops_skip rfl rfl (runs_nu rfl rfl rfl) ?_
        first | refine ops_op rfl rfl (runs_y rfl rfl rfl) (mv_s (.inl rfl) rfl) ?_ | refine ops_skip rfl rfl (runs_nt rfl rfl rfl) ?_ | refine ops_skip rfl rfl (runs_nu rfl rfl rfl) ?_
        first | refine ops_op rfl rfl (runs_y rfl rfl rfl) (dec_t hm (does_lss rfl rfl rfl)) ?_ | refine ops_skip rfl rfl (runs_nt rfl rfl rfl) ?_ | refine ops_skip rfl rfl (runs_nu rfl rfl rfl) ?_
        first | refine ops_op rfl rfl (runs_none rfl) (pickT_s rfl rfl rfl) ?_ | refine ops_op rfl rfl (runs_none rfl) (pickF_s rfl rfl rfl) ?_ | refine ops_op rfl rfl (runs_none rfl) (does_pickT rfl rfl rfl) ?_ | refine ops_op rfl rfl (runs_none rfl) (does_pickF rfl rfl rfl) ?_
        refine ops_nil ?_
        repeat (first | refine aw_seq ?_ | refine ath_n ?_ | refine aw_skip ?_ | refine abl_n ?_ | refine aw_block ?_)
        refine aw_true rfl ?_
        repeat (first | refine aw_seq ?_ | refine ath_n ?_ | refine aw_skip ?_ | refine abl_n ?_ | refine aw_block ?_)
        obtain ⟨z, hz⟩ : ∃ z, doneF n w (gti q i) = z := ⟨_, rfl⟩
        rw [hz] at HI1
        refine aw_cuts (S := Unit) (fun _ => (66, eB z) :: rfF n w most q i) (fun _ => rfS q) (fun _ => True) ?_ (fun _ _ => ?_)
        · unfold doneF at hz
          by_cases hk : (gti q i).k = w.length
          · have hsr := sameRow_pf (P := P) (gti q i).m (oneL n.places.toNat n.sink)
            rw [decide_eq_true hk, Bool.true_and] at hz
            rw [hz] at hsr
            refine aw_draw hmix ?_
            refine adraw_quiet (by kernel_rfl) ?_
            first | refine qx_op rfl rfl (runs_none rfl) (mv_own (.inl rfl) rfl) ?_ | refine qx_op rfl rfl (runs_none rfl) (mv_sl (.inl rfl) rfl) ?_ | refine qx_op rfl rfl (runs_none rfl) (mv_s (.inl rfl) rfl) ?_ | refine qx_op rfl rfl (runs_none rfl) (mv_emp (.inl rfl) rfl) ?_
            refine qx_op rfl rfl (runs_none rfl) (mv_s (.inl rfl) rfl) ?_
            first | refine qx_op rfl rfl (runs_none rfl) (does_index_sl rfl ts95 ti94 rfl rfl rfl (ix_map (by omega)) rfl) ?_ | refine qx_op rfl rfl (runs_none rfl) (does_index_own rfl ts95 ti94 rfl rfl rfl (by omega)) ?_
            first | refine qx_op rfl rfl (runs_none rfl) (does_fieldAddr_ptr rfl tf94_0 (by decide) rfl) ?_ | refine qx_op rfl rfl (runs_none rfl) (does_fieldAddr_ref rfl tf94_0 (by decide) rfl) ?_
            first | refine qx_op rfl rfl (runs_none rfl) (does_load_ref rfl ta3 rfl) ?_ | refine qx_op rfl rfl (runs_none rfl) (does_load_ptr rfl ta3 rfl rfl rfl (ix_map hlt) rfl) ?_
            first | refine qx_op rfl rfl (runs_none rfl) (mv_own (.inl rfl) rfl) ?_ | refine qx_op rfl rfl (runs_none rfl) (mv_sl (.inl rfl) rfl) ?_ | refine qx_op rfl rfl (runs_none rfl) (mv_s (.inl rfl) rfl) ?_ | refine qx_op rfl rfl (runs_none rfl) (mv_emp (.inl rfl) rfl) ?_
            first | refine qx_op rfl rfl (runs_none rfl) (does_len_map rfl ts25 rfl) ?_ | refine qx_op rfl rfl (runs_none rfl) (does_len_sl rfl ts25 rfl) ?_ | refine qx_op rfl rfl (runs_none rfl) (does_len_own rfl ts25 rfl) ?_ | refine qx_op rfl rfl (runs_none rfl) (does_len_s rfl ts25 rfl) ?_ | refine qx_op rfl rfl (runs_none rfl) (does_len_emp rfl ts25 rfl) ?_
            refine qx_op rfl rfl (runs_none rfl) (dec_t hk (does_eql rfl rfl rfl)) ?_
            refine qx_op rfl rfl (runs_none rfl) (mv_s (.inl rfl) rfl) ?_
            first | refine qx_op rfl rfl (runs_y rfl rfl rfl) (mv_own (.inl rfl) rfl) ?_ | refine qx_op rfl rfl (runs_y rfl rfl rfl) (mv_sl (.inl rfl) rfl) ?_ | refine qx_op rfl rfl (runs_y rfl rfl rfl) (mv_s (.inl rfl) rfl) ?_ | refine qx_op rfl rfl (runs_y rfl rfl rfl) (mv_emp (.inl rfl) rfl) ?_ | refine qx_skip rfl rfl (runs_nt rfl rfl rfl) ?_ | refine qx_skip rfl rfl (runs_nu rfl rfl rfl) ?_
            first | refine qx_op rfl rfl (runs_y rfl rfl rfl) (mv_s (.inl rfl) rfl) ?_ | refine qx_skip rfl rfl (runs_nt rfl rfl rfl) ?_ | refine qx_skip rfl rfl (runs_nu rfl rfl rfl) ?_
            first | refine qx_op rfl rfl (runs_y rfl rfl rfl) (does_index_sl rfl ts95 ti94 rfl rfl rfl (ix_map (by omega)) rfl) ?_ | refine qx_op rfl rfl (runs_y rfl rfl rfl) (does_index_own rfl ts95 ti94 rfl rfl rfl (by omega)) ?_ | refine qx_skip rfl rfl (runs_nt rfl rfl rfl) ?_ | refine qx_skip rfl rfl (runs_nu rfl rfl rfl) ?_
            first | refine qx_op rfl rfl (runs_y rfl rfl rfl) (does_fieldAddr_ptr rfl tf94_1 (by decide) rfl) ?_ | refine qx_op rfl rfl (runs_y rfl rfl rfl) (does_fieldAddr_ref rfl tf94_1 (by decide) rfl) ?_ | refine qx_skip rfl rfl (runs_nt rfl rfl rfl) ?_ | refine qx_skip rfl rfl (runs_nu rfl rfl rfl) ?_
            first | refine qx_op rfl rfl (runs_y rfl rfl rfl) (does_load_ref rfl ta30 rfl) ?_ | refine qx_op rfl rfl (runs_y rfl rfl rfl) (does_load_ptr rfl ta30 rfl rfl rfl (ix_map hlt) rfl) ?_ | refine qx_skip rfl rfl (runs_nt rfl rfl rfl) ?_ | refine qx_skip rfl rfl (runs_nu rfl rfl rfl) ?_
            first | refine qx_op rfl rfl (runs_y rfl rfl rfl) (does_load_refw rfl ta24 ti24 rfl rfl) ?_ | refine qx_op rfl rfl (runs_y rfl rfl rfl) (does_load_whole rfl ta24 ti24 rfl rfl rfl rfl rfl) ?_ | refine qx_op rfl rfl (runs_y rfl rfl rfl) (does_load_refs rfl ta24 ti24 rfl (Nat.le_of_ble_eq_true rfl)) ?_ | refine qx_op rfl rfl (runs_y rfl rfl rfl) (does_load_ptrs rfl ta24 ti24 rfl rfl rfl rfl (Nat.le_of_ble_eq_true rfl)) ?_ | refine qx_skip rfl rfl (runs_nt rfl rfl rfl) ?_ | refine qx_skip rfl rfl (runs_nu rfl rfl rfl) ?_
            first | refine qx_op rfl rfl (runs_y rfl rfl rfl) (does_fieldAddr_ptr rfl tf24_3 (by decide) rfl) ?_ | refine qx_op rfl rfl (runs_y rfl rfl rfl) (does_fieldAddr_ref rfl tf24_3 (by decide) rfl) ?_ | refine qx_skip rfl rfl (runs_nt rfl rfl rfl) ?_ | refine qx_skip rfl rfl (runs_nu rfl rfl rfl) ?_
            first | refine qx_op rfl rfl (runs_y rfl rfl rfl) (does_load_ref rfl ta3 rfl) ?_ | refine qx_op rfl rfl (runs_y rfl rfl rfl) (does_load_ptr rfl ta3 rfl rfl rfl rfl rfl) ?_ | refine qx_skip rfl rfl (runs_nt rfl rfl rfl) ?_ | refine qx_skip rfl rfl (runs_nu rfl rfl rfl) ?_
            first | refine qx_op rfl rfl (runs_y rfl rfl rfl) (does_call rfl rfl (hfin) (evc_cons rfl (evc_cons rfl evc_nil))) ?_ | refine qx_skip rfl rfl (runs_nt rfl rfl rfl) ?_ | refine qx_skip rfl rfl (runs_nu rfl rfl rfl) ?_
            first | refine qx_op rfl rfl (runs_y rfl rfl rfl) (does_call rfl rfl (hsr) (evc_cons rfl (evc_cons rfl evc_nil))) ?_ | refine qx_skip rfl rfl (runs_nt rfl rfl rfl) ?_ | refine qx_skip rfl rfl (runs_nu rfl rfl rfl) ?_
            first | refine qx_op rfl rfl (runs_none rfl) (pickT_s rfl rfl rfl) ?_ | refine qx_op rfl rfl (runs_none rfl) (pickF_s rfl rfl rfl) ?_ | refine qx_op rfl rfl (runs_none rfl) (does_pickT rfl rfl rfl) ?_ | refine qx_op rfl rfl (runs_none rfl) (does_pickF rfl rfl rfl) ?_
            refine qx_nil ?_
            repeat (first | refine aw_seq ?_ | refine ath_n ?_ | refine aw_skip ?_ | refine abl_n ?_ | refine aw_block ?_)
            exact ⟨(), trivial, wk_sub _ ⟨rfl, rfl, rfl, rfl, rfl, rfl, trivial⟩⟩
          · rw [decide_eq_false hk, Bool.false_and] at hz
            refine aw_draw hmix ?_
            refine adraw_quiet (by kernel_rfl) ?_
            first | refine qx_op rfl rfl (runs_none rfl) (mv_own (.inl rfl) rfl) ?_ | refine qx_op rfl rfl (runs_none rfl) (mv_sl (.inl rfl) rfl) ?_ | refine qx_op rfl rfl (runs_none rfl) (mv_s (.inl rfl) rfl) ?_ | refine qx_op rfl rfl (runs_none rfl) (mv_emp (.inl rfl) rfl) ?_
            refine qx_op rfl rfl (runs_none rfl) (mv_s (.inl rfl) rfl) ?_
            first | refine qx_op rfl rfl (runs_none rfl) (does_index_sl rfl ts95 ti94 rfl rfl rfl (ix_map (by omega)) rfl) ?_ | refine qx_op rfl rfl (runs_none rfl) (does_index_own rfl ts95 ti94 rfl rfl rfl (by omega)) ?_
            first | refine qx_op rfl rfl (runs_none rfl) (does_fieldAddr_ptr rfl tf94_0 (by decide) rfl) ?_ | refine qx_op rfl rfl (runs_none rfl) (does_fieldAddr_ref rfl tf94_0 (by decide) rfl) ?_
            first | refine qx_op rfl rfl (runs_none rfl) (does_load_ref rfl ta3 rfl) ?_ | refine qx_op rfl rfl (runs_none rfl) (does_load_ptr rfl ta3 rfl rfl rfl (ix_map hlt) rfl) ?_
            first | refine qx_op rfl rfl (runs_none rfl) (mv_own (.inl rfl) rfl) ?_ | refine qx_op rfl rfl (runs_none rfl) (mv_sl (.inl rfl) rfl) ?_ | refine qx_op rfl rfl (runs_none rfl) (mv_s (.inl rfl) rfl) ?_ | refine qx_op rfl rfl (runs_none rfl) (mv_emp (.inl rfl) rfl) ?_
            first | refine qx_op rfl rfl (runs_none rfl) (does_len_map rfl ts25 rfl) ?_ | refine qx_op rfl rfl (runs_none rfl) (does_len_sl rfl ts25 rfl) ?_ | refine qx_op rfl rfl (runs_none rfl) (does_len_own rfl ts25 rfl) ?_ | refine qx_op rfl rfl (runs_none rfl) (does_len_s rfl ts25 rfl) ?_ | refine qx_op rfl rfl (runs_none rfl) (does_len_emp rfl ts25 rfl) ?_
            refine qx_op rfl rfl (runs_none rfl) (dec_f hk (does_eql rfl rfl rfl)) ?_
            refine qx_op rfl rfl (runs_none rfl) (mv_s (.inl rfl) rfl) ?_
            first | refine qx_op rfl rfl (runs_y rfl rfl rfl) (mv_own (.inl rfl) rfl) ?_ | refine qx_op rfl rfl (runs_y rfl rfl rfl) (mv_sl (.inl rfl) rfl) ?_ | refine qx_op rfl rfl (runs_y rfl rfl rfl) (mv_s (.inl rfl) rfl) ?_ | refine qx_op rfl rfl (runs_y rfl rfl rfl) (mv_emp (.inl rfl) rfl) ?_ | refine qx_skip rfl rfl (runs_nt rfl rfl rfl) ?_ | refine qx_skip rfl rfl (runs_nu rfl rfl rfl) ?_
            first | refine qx_op rfl rfl (runs_y rfl rfl rfl) (mv_s (.inl rfl) rfl) ?_ | refine qx_skip rfl rfl (runs_nt rfl rfl rfl) ?_ | refine qx_skip rfl rfl (runs_nu rfl rfl rfl) ?_
            first | refine qx_op rfl rfl (runs_y rfl rfl rfl) (does_index_sl rfl ts95 ti94 rfl rfl rfl (ix_map (by omega)) rfl) ?_ | refine qx_op rfl rfl (runs_y rfl rfl rfl) (does_index_own rfl ts95 ti94 rfl rfl rfl (by omega)) ?_ | refine qx_skip rfl rfl (runs_nt rfl rfl rfl) ?_ | refine qx_skip rfl rfl (runs_nu rfl rfl rfl) ?_
            first | refine qx_op rfl rfl (runs_y rfl rfl rfl) (does_fieldAddr_ptr rfl tf94_1 (by decide) rfl) ?_ | refine qx_op rfl rfl (runs_y rfl rfl rfl) (does_fieldAddr_ref rfl tf94_1 (by decide) rfl) ?_ | refine qx_skip rfl rfl (runs_nt rfl rfl rfl) ?_ | refine qx_skip rfl rfl (runs_nu rfl rfl rfl) ?_
            first | refine qx_op rfl rfl (runs_y rfl rfl rfl) (does_load_ref rfl ta30 rfl) ?_ | refine qx_op rfl rfl (runs_y rfl rfl rfl) (does_load_ptr rfl ta30 rfl rfl rfl rfl rfl) ?_ | refine qx_skip rfl rfl (runs_nt rfl rfl rfl) ?_ | refine qx_skip rfl rfl (runs_nu rfl rfl rfl) ?_
            first | refine qx_op rfl rfl (runs_y rfl rfl rfl) (does_load_refw rfl ta24 ti24 rfl rfl) ?_ | refine qx_op rfl rfl (runs_y rfl rfl rfl) (does_load_whole rfl ta24 ti24 rfl rfl rfl rfl rfl) ?_ | refine qx_op rfl rfl (runs_y rfl rfl rfl) (does_load_refs rfl ta24 ti24 rfl (Nat.le_of_ble_eq_true rfl)) ?_ | refine qx_op rfl rfl (runs_y rfl rfl rfl) (does_load_ptrs rfl ta24 ti24 rfl rfl rfl rfl (Nat.le_of_ble_eq_true rfl)) ?_ | refine qx_skip rfl rfl (runs_nt rfl rfl rfl) ?_ | refine qx_skip rfl rfl (runs_nu rfl rfl rfl) ?_
            first | refine qx_op rfl rfl (runs_y rfl rfl rfl) (does_fieldAddr_ptr rfl tf24_3 (by decide) rfl) ?_ | refine qx_op rfl rfl (runs_y rfl rfl rfl) (does_fieldAddr_ref rfl tf24_3 (by decide) rfl) ?_ | refine qx_skip rfl rfl (runs_nt rfl rfl rfl) ?_ | refine qx_skip rfl rfl (runs_nu rfl rfl rfl) ?_
            first | refine qx_op rfl rfl (runs_y rfl rfl rfl) (does_load_ref rfl ta3 rfl) ?_ | refine qx_op rfl rfl (runs_y rfl rfl rfl) (does_load_ptr rfl ta3 rfl rfl rfl rfl rfl) ?_ | refine qx_skip rfl rfl (runs_nt rfl rfl rfl) ?_ | refine qx_skip rfl rfl (runs_nu rfl rfl rfl) ?_
            first | refine qx_op rfl rfl (runs_y rfl rfl rfl) (does_call rfl rfl (by assumption) (evc_cons rfl (evc_cons rfl evc_nil))) ?_ | refine qx_skip rfl rfl (runs_nt rfl rfl rfl) ?_ | refine qx_skip rfl rfl (runs_nu rfl rfl rfl) ?_
            first | refine qx_op rfl rfl (runs_y rfl rfl rfl) (does_call rfl rfl (by assumption) (evc_cons rfl (evc_cons rfl evc_nil))) ?_ | refine qx_skip rfl rfl (runs_nt rfl rfl rfl) ?_ | refine qx_skip rfl rfl (runs_nu rfl rfl rfl) ?_
            first | refine qx_op rfl rfl (runs_none rfl) (pickT_s rfl rfl rfl) ?_ | refine qx_op rfl rfl (runs_none rfl) (pickF_s rfl rfl rfl) ?_ | refine qx_op rfl rfl (runs_none rfl) (does_pickT rfl rfl rfl) ?_ | refine qx_op rfl rfl (runs_none rfl) (does_pickF rfl rfl rfl) ?_
            refine qx_nil ?_
            repeat (first | refine aw_seq ?_ | refine ath_n ?_ | refine aw_skip ?_ | refine abl_n ?_ | refine aw_block ?_)
            exact ⟨(), trivial, wk_sub _ ⟨by rw [← hz]; rfl, rfl, rfl, rfl, rfl, rfl, trivial⟩⟩
        repeat (first | refine aw_seq ?_ | refine ath_n ?_ | refine aw_skip ?_ | refine abl_n ?_ | refine aw_block ?_)
        refine aw_cond rfl (fun hzt => ?_) (fun hzf => ?_)
        · subst hzt
          rw [if_pos rfl] at HI1
          repeat (first | refine aw_seq ?_ | refine ath_n ?_ | refine aw_skip ?_ | refine abl_n ?_ | refine aw_block ?_)
          refine aw_draw hmix ?_
          refine adraw_quiet (by kernel_rfl) ?_
          first | refine qx_op rfl rfl (runs_none rfl) (mv_own (.inl rfl) rfl) ?_ | refine qx_op rfl rfl (runs_none rfl) (mv_sl (.inl rfl) rfl) ?_ | refine qx_op rfl rfl (runs_none rfl) (mv_s (.inl rfl) rfl) ?_ | refine qx_op rfl rfl (runs_none rfl) (mv_emp (.inl rfl) rfl) ?_
          refine qx_op rfl rfl (runs_none rfl) (mv_s (.inl rfl) rfl) ?_
          first | refine qx_op rfl rfl (runs_none rfl) (does_index_sl rfl ts95 ti94 rfl rfl rfl (ix_map (by omega)) rfl) ?_ | refine qx_op rfl rfl (runs_none rfl) (does_index_own rfl ts95 ti94 rfl rfl rfl (by omega)) ?_
          first | refine qx_op rfl rfl (runs_none rfl) (does_fieldAddr_ptr rfl tf94_2 (by decide) rfl) ?_ | refine qx_op rfl rfl (runs_none rfl) (does_fieldAddr_ref rfl tf94_2 (by decide) rfl) ?_
          first | refine qx_op rfl rfl (runs_none rfl) (does_load_ref rfl ta30 rfl) ?_ | refine qx_op rfl rfl (runs_none rfl) (does_load_ptr rfl ta30 rfl rfl rfl (ix_map hlt) rfl) ?_
          refine qx_op rfl rfl (runs_none rfl) (mv_s (.inr rfl) rfl) ?_
          first | refine qx_op rfl rfl (runs_none rfl) (mv_own (.inr rfl) rfl) ?_ | refine qx_op rfl rfl (runs_none rfl) (mv_sl (.inr rfl) rfl) ?_ | refine qx_op rfl rfl (runs_none rfl) (mv_s (.inr rfl) rfl) ?_ | refine qx_op rfl rfl (runs_none rfl) (mv_emp (.inr rfl) rfl) ?_
          refine qx_op rfl rfl (runs_none rfl) (mv_s (.inr rfl) rfl) ?_
          refine qx_nil ?_
          repeat (first | refine aw_seq ?_ | refine ath_n ?_ | refine aw_skip ?_ | refine abl_n ?_ | refine aw_block ?_)
          (refine aw_ret ?_; repeat (first | refine ath_r ?_ | refine abl_r ?_))
          rw [HI1]
          exact post3 (.inr rfl) rfl rfl rfl (.refl _) (.refl _) (.refl _)
        · subst hzf
          rw [if_neg (by simp)] at HI1
          repeat (first | refine aw_seq ?_ | refine ath_n ?_ | refine aw_skip ?_ | refine abl_n ?_ | refine aw_block ?_)
          refine aw_region ?_
          refine ops_op rfl rfl (runs_none rfl) (mv_s (.inr rfl) rfl) ?_
          refine ops_nil ?_
          repeat (first | refine aw_seq ?_ | refine ath_n ?_ | refine aw_skip ?_ | refine abl_n ?_ | refine aw_block ?_)
          refine aw_loops (S := Nat) (fun k => (12, eI k) :: rfF n w most (roundF n w most (gti q i) q k) i) (fun k => rfS (roundF n w most (gti q i) q k)) (fun k => k ≤ n.trans.length) (fun k => n.trans.length - k) 0 (wk_sub _ ⟨rfl, rfl, rfl, rfl, rfl, rfl, trivial⟩) (Nat.zero_le _) (fun k hk => ?_)
          have hQk := HQ.round (most := most) hlt k
          have hqg := roundF_ge n w most (gti q i) q k
          have hqle := roundF_le n w most (gti q i) q hql k
          have hqx : gti (roundF n w most (gti q i) q k) i = gti q i := roundF_at hlt k
          have hstep : (roundF n w most (gti q i) q (k + 1)) = if ((roundF n w most (gti q i) q k).length : Int) ≤ most then stepF n w (gti q i) (roundF n w most (gti q i) q k) k else roundF n w most (gti q i) q k := rfl
          have hend : (k = n.trans.length ∨ most < ((roundF n w most (gti q i) q k).length : Int)) → roundF n w most (gti q i) q n.trans.length = roundF n w most (gti q i) q k := by
            rintro (h | h)
            · rw [h]
            · have := roundF_stop h (n.trans.length - k)
              rwa [show k + (n.trans.length - k) = n.trans.length by omega] at this
          have hQT := HQ.round (most := most) hlt n.trans.length
          have hleT := roundF_le n w most (gti q i) q hql n.trans.length
          have hgeT := roundF_ge n w most (gti q i) q n.trans.length
          generalize hqk : roundF n w most (gti q i) q k = qk at *
          generalize hqT : roundF n w most (gti q i) q n.trans.length = qT at *
          generalize hqS : roundF n w most (gti q i) q (k + 1) = qS at *
          have hi2 : i < qk.length := by omega
          have hrun := (hQk.at_ i hi2).2.2.2
          repeat (first | refine aw_seq ?_ | refine ath_n ?_ | refine aw_skip ?_ | refine abl_n ?_ | refine aw_block ?_)
          by_cases hkt : k < n.trans.length
          · by_cases hmk : (qk.length : Int) ≤ most
            · rw [if_pos hmk] at hstep
              refine aw_region ?_
              refine ops_op rfl rfl (runs_none rfl) (mv_s (.inl rfl) rfl) ?_
              first | refine ops_op rfl rfl (runs_none rfl) (does_fieldAddr_ptr rfl tf24_1 (by decide) rfl) ?_ | refine ops_op rfl rfl (runs_none rfl) (does_fieldAddr_ref rfl tf24_1 (by decide) rfl) ?_
              first | refine ops_op rfl rfl (runs_none rfl) (does_load_ref rfl ta22 rfl) ?_ | refine ops_op rfl rfl (runs_none rfl) (does_load_ptr rfl ta22 rfl rfl rfl rfl rfl) ?_
              first | refine ops_op rfl rfl (runs_none rfl) (does_len_map rfl ts22 rfl) ?_ | refine ops_op rfl rfl (runs_none rfl) (does_len_sl rfl ts22 rfl) ?_ | refine ops_op rfl rfl (runs_none rfl) (does_len_own rfl ts22 rfl) ?_ | refine ops_op rfl rfl (runs_none rfl) (does_len_s rfl ts22 rfl) ?_ | refine ops_op rfl rfl (runs_none rfl) (does_len_emp rfl ts22 rfl) ?_
              refine ops_op rfl rfl (runs_none rfl) (dec_t (by omega) (does_lss rfl rfl rfl)) ?_
              refine ops_op rfl rfl (runs_none rfl) (mv_s (.inl rfl) rfl) ?_
              first | refine ops_op rfl rfl (runs_y rfl rfl rfl) (mv_own (.inl rfl) rfl) ?_ | refine ops_op rfl rfl (runs_y rfl rfl rfl) (mv_sl (.inl rfl) rfl) ?_ | refine ops_op rfl rfl (runs_y rfl rfl rfl) (mv_s (.inl rfl) rfl) ?_ | refine ops_op rfl rfl (runs_y rfl rfl rfl) (mv_emp (.inl rfl) rfl) ?_ | refine ops_skip rfl rfl (runs_nt rfl rfl rfl) ?_ | refine ops_skip rfl rfl (runs_nu rfl rfl rfl) ?_
              first | refine ops_op rfl rfl (runs_y rfl rfl rfl) (does_len_map rfl ts95 rfl) ?_ | refine ops_op rfl rfl (runs_y rfl rfl rfl) (does_len_sl rfl ts95 rfl) ?_ | refine ops_op rfl rfl (runs_y rfl rfl rfl) (does_len_own rfl ts95 rfl) ?_ | refine ops_op rfl rfl (runs_y rfl rfl rfl) (does_len_s rfl ts95 rfl) ?_ | refine ops_op rfl rfl (runs_y rfl rfl rfl) (does_len_emp rfl ts95 rfl) ?_ | refine ops_skip rfl rfl (runs_nt rfl rfl rfl) ?_ | refine ops_skip rfl rfl (runs_nu rfl rfl rfl) ?_
              first | refine ops_op rfl rfl (runs_y rfl rfl rfl) (mv_s (.inl rfl) rfl) ?_ | refine ops_skip rfl rfl (runs_nt rfl rfl rfl) ?_ | refine ops_skip rfl rfl (runs_nu rfl rfl rfl) ?_
              first | refine ops_op rfl rfl (runs_y rfl rfl rfl) (dec_t hmk (does_leq rfl rfl rfl)) ?_ | refine ops_skip rfl rfl (runs_nt rfl rfl rfl) ?_ | refine ops_skip rfl rfl (runs_nu rfl rfl rfl) ?_
              first | refine ops_op rfl rfl (runs_none rfl) (pickT_s rfl rfl rfl) ?_ | refine ops_op rfl rfl (runs_none rfl) (pickF_s rfl rfl rfl) ?_ | refine ops_op rfl rfl (runs_none rfl) (does_pickT rfl rfl rfl) ?_ | refine ops_op rfl rfl (runs_none rfl) (does_pickF rfl rfl rfl) ?_
              refine ops_nil ?_
              repeat (first | refine aw_seq ?_ | refine ath_n ?_ | refine aw_skip ?_ | refine abl_n ?_ | refine aw_block ?_)
              refine aw_true rfl ?_
              repeat (first | refine aw_seq ?_ | refine ath_n ?_ | refine aw_skip ?_ | refine abl_n ?_ | refine aw_block ?_)
              have hxm2 : (gti qk i).m = (gti q i).m := by rw [hqx]
              have hxk2 : (gti qk i).k = (gti q i).k := by rw [hqx]
              refine aw_region ?_
              first | refine ops_op rfl rfl (runs_none rfl) (mv_own (.inl rfl) rfl) ?_ | refine ops_op rfl rfl (runs_none rfl) (mv_sl (.inl rfl) rfl) ?_ | refine ops_op rfl rfl (runs_none rfl) (mv_s (.inl rfl) rfl) ?_ | refine ops_op rfl rfl (runs_none rfl) (mv_emp (.inl rfl) rfl) ?_
              refine ops_op rfl rfl (runs_none rfl) (mv_s (.inl rfl) rfl) ?_
              first | refine ops_op rfl rfl (runs_none rfl) (does_index_sl rfl ts95 ti94 rfl rfl rfl (ix_map (by omega)) rfl) ?_ | refine ops_op rfl rfl (runs_none rfl) (does_index_own rfl ts95 ti94 rfl rfl rfl (by omega)) ?_
              first | refine ops_op rfl rfl (runs_none rfl) (does_fieldAddr_ptr rfl tf94_0 (by decide) rfl) ?_ | refine ops_op rfl rfl (runs_none rfl) (does_fieldAddr_ref rfl tf94_0 (by decide) rfl) ?_
              first | refine ops_op rfl rfl (runs_none rfl) (does_load_ref rfl ta3 rfl) ?_ | refine ops_op rfl rfl (runs_none rfl) (does_load_ptr rfl ta3 rfl rfl rfl (ix_map hi2) rfl) ?_
              refine ops_op rfl rfl (runs_none rfl) (mv_s (.inr rfl) rfl) ?_
              refine ops_nil ?_
              repeat (first | refine aw_seq ?_ | refine ath_n ?_ | refine aw_skip ?_ | refine abl_n ?_ | refine aw_block ?_)
              rw [hxk2]
              have hlk : lblK n w (gti q i) k = if (gti n.trans k).label = eBA then some (gti q i).k else if (w.length : Int) ≤ (gti q i).k ∨ gti w (gti q i).k.toNat ≠ (gti n.trans k).label then none else some ((gti q i).k + 1) := rfl
              have hSn : lblK n w (gti q i) k = none → qS = qk := by
                intro h
                rw [hstep]; unfold stepF; rw [h]
              have hSs : ∀ kk, lblK n w (gti q i) k = some kk → qS = if (FireE n (gti q i).m k).2 ≠ 0 ∨ (kk, (FireE n (gti q i).m k).1) ∈ qk.map nkey then qk else qk ++ [⟨kk, (FireE n (gti q i).m k).1, (gti q i).run ++ [(k : Int)]⟩] := by
                intro kk h
                rw [hstep]; unfold stepF; rw [h]
              generalize hxkk : (gti q i).k = xk at *
              obtain ⟨kn, hkn⟩ : ∃ kn : Nat, xk = kn := ⟨xk.toNat, by omega⟩
              refine aw_region ?_
              first | refine ops_op rfl rfl (runs_none rfl) (does_fieldAddr_ptr rfl tf24_1 (by decide) rfl) ?_ | refine ops_op rfl rfl (runs_none rfl) (does_fieldAddr_ref rfl tf24_1 (by decide) rfl) ?_
              first | refine ops_op rfl rfl (runs_none rfl) (does_load_ref rfl ta22 rfl) ?_ | refine ops_op rfl rfl (runs_none rfl) (does_load_ptr rfl ta22 rfl rfl rfl rfl rfl) ?_
              refine ops_op rfl rfl (runs_none rfl) (mv_s (.inl rfl) rfl) ?_
              first | refine ops_op rfl rfl (runs_none rfl) (does_index_sl rfl ts22 ti46 rfl rfl rfl (ix_map hkt) rfl) ?_ | refine ops_op rfl rfl (runs_none rfl) (does_index_own rfl ts22 ti46 rfl rfl rfl (ix_map hkt)) ?_
              first | refine ops_op rfl rfl (runs_none rfl) (does_fieldAddr_ptr rfl tf46_0 (by decide) rfl) ?_ | refine ops_op rfl rfl (runs_none rfl) (does_fieldAddr_ref rfl tf46_0 (by decide) rfl) ?_
              first | refine ops_op rfl rfl (runs_none rfl) (does_load_ref rfl ta9 rfl) ?_ | refine ops_op rfl rfl (runs_none rfl) (does_load_ptr rfl ta9 rfl rfl rfl rfl rfl) ?_
              refine ops_op rfl rfl (runs_none rfl) (does_nes rfl rfl rfl) ?_
              refine ops_nil ?_
              repeat (first | refine aw_seq ?_ | refine ath_n ?_ | refine aw_skip ?_ | refine abl_n ?_ | refine aw_block ?_)
              refine aw_cuts (S := Int) (fun kk => (13, eI kk) :: (12, eI k) :: rfF n w most qk i) (fun _ => rfS qk) (fun kk => lblK n w (gti q i) k = some kk) ?_ ?_
              · refine aw_if rfl (fun hlab => ?_) (fun hlab => ?_)
                rotate_left
                · have hlab2 : (gti n.trans k).label = eBA := Decidable.not_not.1 hlab
                  rw [if_pos hlab2] at hlk
                  repeat (first | refine aw_seq ?_ | refine ath_n ?_ | refine aw_skip ?_ | refine abl_n ?_ | refine aw_block ?_)
                  exact ⟨xk, hlk, wk_sub _ ⟨rfl, rfl, rfl, rfl, rfl, rfl, rfl, trivial⟩⟩
                · rw [if_neg hlab] at hlk
                  repeat (first | refine aw_seq ?_ | refine ath_n ?_ | refine aw_skip ?_ | refine abl_n ?_ | refine aw_block ?_)
                  by_cases hke : (w.length : Int) ≤ xk
                  · rw [if_pos (.inl hke)] at hlk
                    have hSq := hSn hlk
                    refine aw_draw hmix ?_
                    refine adraw_quiet (by kernel_rfl) ?_
                    refine qx_op rfl rfl (runs_none rfl) (mv_s (.inl rfl) rfl) ?_
                    first | refine qx_op rfl rfl (runs_none rfl) (mv_own (.inl rfl) rfl) ?_ | refine qx_op rfl rfl (runs_none rfl) (mv_sl (.inl rfl) rfl) ?_ | refine qx_op rfl rfl (runs_none rfl) (mv_s (.inl rfl) rfl) ?_ | refine qx_op rfl rfl (runs_none rfl) (mv_emp (.inl rfl) rfl) ?_
                    first | refine qx_op rfl rfl (runs_none rfl) (does_len_map rfl ts25 rfl) ?_ | refine qx_op rfl rfl (runs_none rfl) (does_len_sl rfl ts25 rfl) ?_ | refine qx_op rfl rfl (runs_none rfl) (does_len_own rfl ts25 rfl) ?_ | refine qx_op rfl rfl (runs_none rfl) (does_len_s rfl ts25 rfl) ?_ | refine qx_op rfl rfl (runs_none rfl) (does_len_emp rfl ts25 rfl) ?_
                    refine qx_op rfl rfl (runs_none rfl) (dec_t hke (does_geq rfl rfl rfl)) ?_
                    refine qx_op rfl rfl (runs_none rfl) (mv_s (.inl rfl) rfl) ?_
                    first | refine qx_op rfl rfl (runs_y rfl rfl rfl) (mv_own (.inl rfl) rfl) ?_ | refine qx_op rfl rfl (runs_y rfl rfl rfl) (mv_sl (.inl rfl) rfl) ?_ | refine qx_op rfl rfl (runs_y rfl rfl rfl) (mv_s (.inl rfl) rfl) ?_ | refine qx_op rfl rfl (runs_y rfl rfl rfl) (mv_emp (.inl rfl) rfl) ?_ | refine qx_skip rfl rfl (runs_nf rfl rfl rfl) ?_ | refine qx_skip rfl rfl (runs_nu rfl rfl rfl) ?_
                    first | refine qx_op rfl rfl (runs_y rfl rfl rfl) (mv_s (.inl rfl) rfl) ?_ | refine qx_skip rfl rfl (runs_nf rfl rfl rfl) ?_ | refine qx_skip rfl rfl (runs_nu rfl rfl rfl) ?_
                    first | refine qx_op rfl rfl (runs_y rfl rfl rfl) (does_index_sl rfl ts25 ti9 rfl rfl rfl (ix_map (by omega)) rfl) ?_ | refine qx_op rfl rfl (runs_y rfl rfl rfl) (does_index_own rfl ts25 ti9 rfl rfl rfl (by omega)) ?_ | refine qx_skip rfl rfl (runs_nf rfl rfl rfl) ?_ | refine qx_skip rfl rfl (runs_nu rfl rfl rfl) ?_
                    first | refine qx_op rfl rfl (runs_y rfl rfl rfl) (does_load_ref rfl ta9 rfl) ?_ | refine qx_op rfl rfl (runs_y rfl rfl rfl) (does_load_ptr rfl ta9 rfl rfl rfl rfl rfl) ?_ | refine qx_skip rfl rfl (runs_nf rfl rfl rfl) ?_ | refine qx_skip rfl rfl (runs_nu rfl rfl rfl) ?_
                    first | refine qx_op rfl rfl (runs_y rfl rfl rfl) (does_fieldAddr_ptr rfl tf24_1 (by decide) rfl) ?_ | refine qx_op rfl rfl (runs_y rfl rfl rfl) (does_fieldAddr_ref rfl tf24_1 (by decide) rfl) ?_ | refine qx_skip rfl rfl (runs_nf rfl rfl rfl) ?_ | refine qx_skip rfl rfl (runs_nu rfl rfl rfl) ?_
                    first | refine qx_op rfl rfl (runs_y rfl rfl rfl) (does_load_ref rfl ta22 rfl) ?_ | refine qx_op rfl rfl (runs_y rfl rfl rfl) (does_load_ptr rfl ta22 rfl rfl rfl rfl rfl) ?_ | refine qx_skip rfl rfl (runs_nf rfl rfl rfl) ?_ | refine qx_skip rfl rfl (runs_nu rfl rfl rfl) ?_
                    first | refine qx_op rfl rfl (runs_y rfl rfl rfl) (mv_s (.inl rfl) rfl) ?_ | refine qx_skip rfl rfl (runs_nf rfl rfl rfl) ?_ | refine qx_skip rfl rfl (runs_nu rfl rfl rfl) ?_
                    first | refine qx_op rfl rfl (runs_y rfl rfl rfl) (does_index_sl rfl ts22 ti46 rfl rfl rfl (ix_map (by omega)) rfl) ?_ | refine qx_op rfl rfl (runs_y rfl rfl rfl) (does_index_own rfl ts22 ti46 rfl rfl rfl (by omega)) ?_ | refine qx_skip rfl rfl (runs_nf rfl rfl rfl) ?_ | refine qx_skip rfl rfl (runs_nu rfl rfl rfl) ?_
                    first | refine qx_op rfl rfl (runs_y rfl rfl rfl) (does_fieldAddr_ptr rfl tf46_0 (by decide) rfl) ?_ | refine qx_op rfl rfl (runs_y rfl rfl rfl) (does_fieldAddr_ref rfl tf46_0 (by decide) rfl) ?_ | refine qx_skip rfl rfl (runs_nf rfl rfl rfl) ?_ | refine qx_skip rfl rfl (runs_nu rfl rfl rfl) ?_
                    first | refine qx_op rfl rfl (runs_y rfl rfl rfl) (does_load_ref rfl ta9 rfl) ?_ | refine qx_op rfl rfl (runs_y rfl rfl rfl) (does_load_ptr rfl ta9 rfl rfl rfl rfl rfl) ?_ | refine qx_skip rfl rfl (runs_nf rfl rfl rfl) ?_ | refine qx_skip rfl rfl (runs_nu rfl rfl rfl) ?_
                    first | refine qx_op rfl rfl (runs_y rfl rfl rfl) (does_nes rfl rfl rfl) ?_ | refine qx_skip rfl rfl (runs_nf rfl rfl rfl) ?_ | refine qx_skip rfl rfl (runs_nu rfl rfl rfl) ?_
                    first | refine qx_op rfl rfl (runs_none rfl) (pickT_s rfl rfl rfl) ?_ | refine qx_op rfl rfl (runs_none rfl) (pickF_s rfl rfl rfl) ?_ | refine qx_op rfl rfl (runs_none rfl) (does_pickT rfl rfl rfl) ?_ | refine qx_op rfl rfl (runs_none rfl) (does_pickF rfl rfl rfl) ?_
                    refine qx_nil ?_
                    repeat (first | refine aw_seq ?_ | refine ath_n ?_ | refine aw_skip ?_ | refine abl_n ?_ | refine aw_block ?_)
                    refine aw_true rfl ?_
                    (refine aw_exit ?_; repeat (first | refine ath_x ?_ | refine abl_hit ?_ | refine abl_miss rfl ?_ | refine abl_n ?_ | refine ath_n ?_ | refine aw_seq ?_ | refine aw_skip ?_ | refine aw_block ?_))
                    refine aw_region ?_
                    refine ops_op rfl rfl (runs_none rfl) (mv_s (.inl rfl) rfl) ?_
                    refine ops_op rfl rfl (runs_none rfl) (does_add rfl rfl rfl (IntWalk.i64_in _ (by omega))) ?_
                    refine ops_op rfl rfl (runs_none rfl) (mv_s (.inr rfl) rfl) ?_
                    refine ops_nil ?_
                    repeat (first | refine aw_seq ?_ | refine ath_n ?_ | refine aw_skip ?_ | refine abl_n ?_ | refine aw_block ?_)
                    refine ⟨k + 1, hkt, by omega, ?_⟩
                    rw [hqS, hSq]
                    exact wk_sub _ ⟨rfl, rfl, rfl, rfl, rfl, rfl, trivial⟩
                  · have hkw : kn < w.length := by omega
                    by_cases hwl : gti w kn = (gti n.trans k).label
                    · rw [if_neg (by rw [not_or, hkn, Int.toNat_natCast]; exact ⟨by omega, fun h => h hwl⟩)] at hlk
                      refine aw_draw hmix ?_
                      refine adraw_quiet (by kernel_rfl) ?_
                      refine qx_op rfl rfl (runs_none rfl) (mv_s (.inl rfl) rfl) ?_
                      first | refine qx_op rfl rfl (runs_none rfl) (mv_own (.inl rfl) rfl) ?_ | refine qx_op rfl rfl (runs_none rfl) (mv_sl (.inl rfl) rfl) ?_ | refine qx_op rfl rfl (runs_none rfl) (mv_s (.inl rfl) rfl) ?_ | refine qx_op rfl rfl (runs_none rfl) (mv_emp (.inl rfl) rfl) ?_
                      first | refine qx_op rfl rfl (runs_none rfl) (does_len_map rfl ts25 rfl) ?_ | refine qx_op rfl rfl (runs_none rfl) (does_len_sl rfl ts25 rfl) ?_ | refine qx_op rfl rfl (runs_none rfl) (does_len_own rfl ts25 rfl) ?_ | refine qx_op rfl rfl (runs_none rfl) (does_len_s rfl ts25 rfl) ?_ | refine qx_op rfl rfl (runs_none rfl) (does_len_emp rfl ts25 rfl) ?_
                      refine qx_op rfl rfl (runs_none rfl) (dec_f hke (does_geq rfl rfl rfl)) ?_
                      refine qx_op rfl rfl (runs_none rfl) (mv_s (.inl rfl) rfl) ?_
                      first | refine qx_op rfl rfl (runs_y rfl rfl rfl) (mv_own (.inl rfl) rfl) ?_ | refine qx_op rfl rfl (runs_y rfl rfl rfl) (mv_sl (.inl rfl) rfl) ?_ | refine qx_op rfl rfl (runs_y rfl rfl rfl) (mv_s (.inl rfl) rfl) ?_ | refine qx_op rfl rfl (runs_y rfl rfl rfl) (mv_emp (.inl rfl) rfl) ?_ | refine qx_skip rfl rfl (runs_nf rfl rfl rfl) ?_ | refine qx_skip rfl rfl (runs_nu rfl rfl rfl) ?_
                      first | refine qx_op rfl rfl (runs_y rfl rfl rfl) (mv_s (.inl rfl) rfl) ?_ | refine qx_skip rfl rfl (runs_nf rfl rfl rfl) ?_ | refine qx_skip rfl rfl (runs_nu rfl rfl rfl) ?_
                      first | refine qx_op rfl rfl (runs_y rfl rfl rfl) (does_index_sl rfl ts25 ti9 rfl rfl hkn (ix_map hkw) rfl) ?_ | refine qx_op rfl rfl (runs_y rfl rfl rfl) (does_index_own rfl ts25 ti9 rfl rfl hkn (ix_map hkw)) ?_ | refine qx_skip rfl rfl (runs_nf rfl rfl rfl) ?_ | refine qx_skip rfl rfl (runs_nu rfl rfl rfl) ?_
                      first | refine qx_op rfl rfl (runs_y rfl rfl rfl) (does_load_ref rfl ta9 rfl) ?_ | refine qx_op rfl rfl (runs_y rfl rfl rfl) (does_load_ptr rfl ta9 rfl rfl rfl rfl rfl) ?_ | refine qx_skip rfl rfl (runs_nf rfl rfl rfl) ?_ | refine qx_skip rfl rfl (runs_nu rfl rfl rfl) ?_
                      first | refine qx_op rfl rfl (runs_y rfl rfl rfl) (does_fieldAddr_ptr rfl tf24_1 (by decide) rfl) ?_ | refine qx_op rfl rfl (runs_y rfl rfl rfl) (does_fieldAddr_ref rfl tf24_1 (by decide) rfl) ?_ | refine qx_skip rfl rfl (runs_nf rfl rfl rfl) ?_ | refine qx_skip rfl rfl (runs_nu rfl rfl rfl) ?_
                      first | refine qx_op rfl rfl (runs_y rfl rfl rfl) (does_load_ref rfl ta22 rfl) ?_ | refine qx_op rfl rfl (runs_y rfl rfl rfl) (does_load_ptr rfl ta22 rfl rfl rfl rfl rfl) ?_ | refine qx_skip rfl rfl (runs_nf rfl rfl rfl) ?_ | refine qx_skip rfl rfl (runs_nu rfl rfl rfl) ?_
                      first | refine qx_op rfl rfl (runs_y rfl rfl rfl) (mv_s (.inl rfl) rfl) ?_ | refine qx_skip rfl rfl (runs_nf rfl rfl rfl) ?_ | refine qx_skip rfl rfl (runs_nu rfl rfl rfl) ?_
                      first | refine qx_op rfl rfl (runs_y rfl rfl rfl) (does_index_sl rfl ts22 ti46 rfl rfl rfl (ix_map hkt) rfl) ?_ | refine qx_op rfl rfl (runs_y rfl rfl rfl) (does_index_own rfl ts22 ti46 rfl rfl rfl (ix_map hkt)) ?_ | refine qx_skip rfl rfl (runs_nf rfl rfl rfl) ?_ | refine qx_skip rfl rfl (runs_nu rfl rfl rfl) ?_
                      first | refine qx_op rfl rfl (runs_y rfl rfl rfl) (does_fieldAddr_ptr rfl tf46_0 (by decide) rfl) ?_ | refine qx_op rfl rfl (runs_y rfl rfl rfl) (does_fieldAddr_ref rfl tf46_0 (by decide) rfl) ?_ | refine qx_skip rfl rfl (runs_nf rfl rfl rfl) ?_ | refine qx_skip rfl rfl (runs_nu rfl rfl rfl) ?_
                      first | refine qx_op rfl rfl (runs_y rfl rfl rfl) (does_load_ref rfl ta9 rfl) ?_ | refine qx_op rfl rfl (runs_y rfl rfl rfl) (does_load_ptr rfl ta9 rfl rfl rfl rfl rfl) ?_ | refine qx_skip rfl rfl (runs_nf rfl rfl rfl) ?_ | refine qx_skip rfl rfl (runs_nu rfl rfl rfl) ?_
                      first | refine qx_op rfl rfl (runs_y rfl rfl rfl) (dec_f (fun h => h hwl) (does_nes rfl rfl rfl)) ?_ | refine qx_skip rfl rfl (runs_nf rfl rfl rfl) ?_ | refine qx_skip rfl rfl (runs_nu rfl rfl rfl) ?_
                      first | refine qx_op rfl rfl (runs_none rfl) (pickT_s rfl rfl rfl) ?_ | refine qx_op rfl rfl (runs_none rfl) (pickF_s rfl rfl rfl) ?_ | refine qx_op rfl rfl (runs_none rfl) (does_pickT rfl rfl rfl) ?_ | refine qx_op rfl rfl (runs_none rfl) (does_pickF rfl rfl rfl) ?_
                      refine qx_nil ?_
                      repeat (first | refine aw_seq ?_ | refine ath_n ?_ | refine aw_skip ?_ | refine abl_n ?_ | refine aw_block ?_)
                      refine aw_false rfl ?_
                      repeat (first | refine aw_seq ?_ | refine ath_n ?_ | refine aw_skip ?_ | refine abl_n ?_ | refine aw_block ?_)
                      refine aw_region ?_
                      refine ops_op rfl rfl (runs_none rfl) (mv_s (.inl rfl) rfl) ?_
                      refine ops_op rfl rfl (runs_none rfl) (does_add rfl rfl rfl (IntWalk.i64_in _ (by omega))) ?_
                      refine ops_op rfl rfl (runs_none rfl) (mv_s (.inr rfl) rfl) ?_
                      refine ops_nil ?_
                      repeat (first | refine aw_seq ?_ | refine ath_n ?_ | refine aw_skip ?_ | refine abl_n ?_ | refine aw_block ?_)
                      exact ⟨xk + 1, hlk, wk_sub _ ⟨rfl, rfl, rfl, rfl, rfl, rfl, rfl, trivial⟩⟩
                    · rw [if_pos (.inr (by rw [hkn, Int.toNat_natCast]; exact hwl))] at hlk
                      have hSq := hSn hlk
                      refine aw_draw hmix ?_
                      refine adraw_quiet (by kernel_rfl) ?_
                      refine qx_op rfl rfl (runs_none rfl) (mv_s (.inl rfl) rfl) ?_
                      first | refine qx_op rfl rfl (runs_none rfl) (mv_own (.inl rfl) rfl) ?_ | refine qx_op rfl rfl (runs_none rfl) (mv_sl (.inl rfl) rfl) ?_ | refine qx_op rfl rfl (runs_none rfl) (mv_s (.inl rfl) rfl) ?_ | refine qx_op rfl rfl (runs_none rfl) (mv_emp (.inl rfl) rfl) ?_
                      first | refine qx_op rfl rfl (runs_none rfl) (does_len_map rfl ts25 rfl) ?_ | refine qx_op rfl rfl (runs_none rfl) (does_len_sl rfl ts25 rfl) ?_ | refine qx_op rfl rfl (runs_none rfl) (does_len_own rfl ts25 rfl) ?_ | refine qx_op rfl rfl (runs_none rfl) (does_len_s rfl ts25 rfl) ?_ | refine qx_op rfl rfl (runs_none rfl) (does_len_emp rfl ts25 rfl) ?_
                      refine qx_op rfl rfl (runs_none rfl) (dec_f hke (does_geq rfl rfl rfl)) ?_
                      refine qx_op rfl rfl (runs_none rfl) (mv_s (.inl rfl) rfl) ?_
                      first | refine qx_op rfl rfl (runs_y rfl rfl rfl) (mv_own (.inl rfl) rfl) ?_ | refine qx_op rfl rfl (runs_y rfl rfl rfl) (mv_sl (.inl rfl) rfl) ?_ | refine qx_op rfl rfl (runs_y rfl rfl rfl) (mv_s (.inl rfl) rfl) ?_ | refine qx_op rfl rfl (runs_y rfl rfl rfl) (mv_emp (.inl rfl) rfl) ?_ | refine qx_skip rfl rfl (runs_nf rfl rfl rfl) ?_ | refine qx_skip rfl rfl (runs_nu rfl rfl rfl) ?_
                      first | refine qx_op rfl rfl (runs_y rfl rfl rfl) (mv_s (.inl rfl) rfl) ?_ | refine qx_skip rfl rfl (runs_nf rfl rfl rfl) ?_ | refine qx_skip rfl rfl (runs_nu rfl rfl rfl) ?_
                      first | refine qx_op rfl rfl (runs_y rfl rfl rfl) (does_index_sl rfl ts25 ti9 rfl rfl hkn (ix_map hkw) rfl) ?_ | refine qx_op rfl rfl (runs_y rfl rfl rfl) (does_index_own rfl ts25 ti9 rfl rfl hkn (ix_map hkw)) ?_ | refine qx_skip rfl rfl (runs_nf rfl rfl rfl) ?_ | refine qx_skip rfl rfl (runs_nu rfl rfl rfl) ?_
                      first | refine qx_op rfl rfl (runs_y rfl rfl rfl) (does_load_ref rfl ta9 rfl) ?_ | refine qx_op rfl rfl (runs_y rfl rfl rfl) (does_load_ptr rfl ta9 rfl rfl rfl rfl rfl) ?_ | refine qx_skip rfl rfl (runs_nf rfl rfl rfl) ?_ | refine qx_skip rfl rfl (runs_nu rfl rfl rfl) ?_
                      first | refine qx_op rfl rfl (runs_y rfl rfl rfl) (does_fieldAddr_ptr rfl tf24_1 (by decide) rfl) ?_ | refine qx_op rfl rfl (runs_y rfl rfl rfl) (does_fieldAddr_ref rfl tf24_1 (by decide) rfl) ?_ | refine qx_skip rfl rfl (runs_nf rfl rfl rfl) ?_ | refine qx_skip rfl rfl (runs_nu rfl rfl rfl) ?_
                      first | refine qx_op rfl rfl (runs_y rfl rfl rfl) (does_load_ref rfl ta22 rfl) ?_ | refine qx_op rfl rfl (runs_y rfl rfl rfl) (does_load_ptr rfl ta22 rfl rfl rfl rfl rfl) ?_ | refine qx_skip rfl rfl (runs_nf rfl rfl rfl) ?_ | refine qx_skip rfl rfl (runs_nu rfl rfl rfl) ?_
                      first | refine qx_op rfl rfl (runs_y rfl rfl rfl) (mv_s (.inl rfl) rfl) ?_ | refine qx_skip rfl rfl (runs_nf rfl rfl rfl) ?_ | refine qx_skip rfl rfl (runs_nu rfl rfl rfl) ?_
                      first | refine qx_op rfl rfl (runs_y rfl rfl rfl) (does_index_sl rfl ts22 ti46 rfl rfl rfl (ix_map hkt) rfl) ?_ | refine qx_op rfl rfl (runs_y rfl rfl rfl) (does_index_own rfl ts22 ti46 rfl rfl rfl (ix_map hkt)) ?_ | refine qx_skip rfl rfl (runs_nf rfl rfl rfl) ?_ | refine qx_skip rfl rfl (runs_nu rfl rfl rfl) ?_
                      first | refine qx_op rfl rfl (runs_y rfl rfl rfl) (does_fieldAddr_ptr rfl tf46_0 (by decide) rfl) ?_ | refine qx_op rfl rfl (runs_y rfl rfl rfl) (does_fieldAddr_ref rfl tf46_0 (by decide) rfl) ?_ | refine qx_skip rfl rfl (runs_nf rfl rfl rfl) ?_ | refine qx_skip rfl rfl (runs_nu rfl rfl rfl) ?_
                      first | refine qx_op rfl rfl (runs_y rfl rfl rfl) (does_load_ref rfl ta9 rfl) ?_ | refine qx_op rfl rfl (runs_y rfl rfl rfl) (does_load_ptr rfl ta9 rfl rfl rfl rfl rfl) ?_ | refine qx_skip rfl rfl (runs_nf rfl rfl rfl) ?_ | refine qx_skip rfl rfl (runs_nu rfl rfl rfl) ?_
                      first | refine qx_op rfl rfl (runs_y rfl rfl rfl) (dec_t hwl (does_nes rfl rfl rfl)) ?_ | refine qx_skip rfl rfl (runs_nf rfl rfl rfl) ?_ | refine qx_skip rfl rfl (runs_nu rfl rfl rfl) ?_
                      first | refine qx_op rfl rfl (runs_none rfl) (pickT_s rfl rfl rfl) ?_ | refine qx_op rfl rfl (runs_none rfl) (pickF_s rfl rfl rfl) ?_ | refine qx_op rfl rfl (runs_none rfl) (does_pickT rfl rfl rfl) ?_ | refine qx_op rfl rfl (runs_none rfl) (does_pickF rfl rfl rfl) ?_
                      refine qx_nil ?_
                      repeat (first | refine aw_seq ?_ | refine ath_n ?_ | refine aw_skip ?_ | refine abl_n ?_ | refine aw_block ?_)
                      refine aw_true rfl ?_
                      (refine aw_exit ?_; repeat (first | refine ath_x ?_ | refine abl_hit ?_ | refine abl_miss rfl ?_ | refine abl_n ?_ | refine ath_n ?_ | refine aw_seq ?_ | refine aw_skip ?_ | refine aw_block ?_))
                      refine aw_region ?_
                      refine ops_op rfl rfl (runs_none rfl) (mv_s (.inl rfl) rfl) ?_
                      refine ops_op rfl rfl (runs_none rfl) (does_add rfl rfl rfl (IntWalk.i64_in _ (by omega))) ?_
                      refine ops_op rfl rfl (runs_none rfl) (mv_s (.inr rfl) rfl) ?_
                      refine ops_nil ?_
                      repeat (first | refine aw_seq ?_ | refine ath_n ?_ | refine aw_skip ?_ | refine abl_n ?_ | refine aw_block ?_)
                      refine ⟨k + 1, hkt, by omega, ?_⟩
                      rw [hqS, hSq]
                      exact wk_sub _ ⟨rfl, rfl, rfl, rfl, rfl, rfl, trivial⟩
              · intro kk hkk
                have hSS := hSs kk hkk
                have hfire := rFire_pf (P := P) n (gti qk i).m k
                repeat (first | refine aw_seq ?_ | refine ath_n ?_ | refine aw_skip ?_ | refine abl_n ?_ | refine aw_block ?_)
                refine aw_draw hmix ?_
                refine adraw_quiet (by kernel_rfl) ?_
                first | refine qx_op rfl rfl (runs_none rfl) (does_load_refw rfl ta24 ti24 rfl rfl) ?_ | refine qx_op rfl rfl (runs_none rfl) (does_load_whole rfl ta24 ti24 rfl rfl rfl rfl rfl) ?_ | refine qx_op rfl rfl (runs_none rfl) (does_load_refs rfl ta24 ti24 rfl (Nat.le_of_ble_eq_true rfl)) ?_ | refine qx_op rfl rfl (runs_none rfl) (does_load_ptrs rfl ta24 ti24 rfl rfl rfl rfl (Nat.le_of_ble_eq_true rfl)) ?_
                first | refine qx_op rfl rfl (runs_none rfl) (mv_own (.inl rfl) rfl) ?_ | refine qx_op rfl rfl (runs_none rfl) (mv_sl (.inl rfl) rfl) ?_ | refine qx_op rfl rfl (runs_none rfl) (mv_s (.inl rfl) rfl) ?_ | refine qx_op rfl rfl (runs_none rfl) (mv_emp (.inl rfl) rfl) ?_
                refine qx_op rfl rfl (runs_none rfl) (mv_s (.inl rfl) rfl) ?_
                first | refine qx_op rfl rfl (runs_none rfl) (does_index_sl rfl ts95 ti94 rfl rfl rfl (ix_map (by omega)) rfl) ?_ | refine qx_op rfl rfl (runs_none rfl) (does_index_own rfl ts95 ti94 rfl rfl rfl (by omega)) ?_
                first | refine qx_op rfl rfl (runs_none rfl) (does_fieldAddr_ptr rfl tf94_1 (by decide) rfl) ?_ | refine qx_op rfl rfl (runs_none rfl) (does_fieldAddr_ref rfl tf94_1 (by decide) rfl) ?_
                first | refine qx_op rfl rfl (runs_none rfl) (does_load_ref rfl ta30 rfl) ?_ | refine qx_op rfl rfl (runs_none rfl) (does_load_ptr rfl ta30 rfl rfl rfl (ix_map hi2) rfl) ?_
                refine qx_op rfl rfl (runs_none rfl) (mv_s (.inl rfl) rfl) ?_
                refine qx_op rfl rfl (runs_none rfl) (does_call rfl rfl (hfire) (evc_cons rfl (evc_cons rfl (evc_cons rfl evc_nil)))) ?_
                first | refine qx_op rfl rfl (runs_none rfl) (mv_tup (.inl rfl) rfl) ?_ | refine qx_op rfl rfl (runs_none rfl) (mv_s (.inl rfl) rfl) ?_
                refine qx_op rfl rfl (runs_none rfl) (does_extract rfl rfl rfl) ?_
                refine qx_op rfl rfl (runs_none rfl) (does_extract rfl rfl rfl) ?_
                first | refine qx_op rfl rfl (runs_none rfl) (mv_own (.inr rfl) rfl) ?_ | refine qx_op rfl rfl (runs_none rfl) (mv_sl (.inr rfl) rfl) ?_ | refine qx_op rfl rfl (runs_none rfl) (mv_s (.inr rfl) rfl) ?_ | refine qx_op rfl rfl (runs_none rfl) (mv_emp (.inr rfl) rfl) ?_
                refine qx_op rfl rfl (runs_none rfl) (mv_s (.inr rfl) rfl) ?_
                refine qx_nil ?_
                repeat (first | refine aw_seq ?_ | refine ath_n ?_ | refine aw_skip ?_ | refine abl_n ?_ | refine aw_block ?_)
                rw [hxm2]
                generalize hfe : FireE n (gti q i).m k = fe at *
                refine aw_region ?_
                refine ops_op rfl rfl (runs_none rfl) (mv_s (.inl rfl) rfl) ?_
                refine ops_op rfl rfl (runs_none rfl) (does_neq rfl rfl rfl) ?_
                refine ops_op rfl rfl (runs_none rfl) (mv_s (.inr rfl) rfl) ?_
                refine ops_nil ?_
                repeat (first | refine aw_seq ?_ | refine ath_n ?_ | refine aw_skip ?_ | refine abl_n ?_ | refine aw_block ?_)
                refine aw_region ?_
                refine ops_op rfl rfl (runs_none rfl) (mv_s (.inr rfl) rfl) ?_
                refine ops_nil ?_
                repeat (first | refine aw_seq ?_ | refine ath_n ?_ | refine aw_skip ?_ | refine abl_n ?_ | refine aw_block ?_)
                refine aw_loops (S := Nat × Bool) (fun s => (17, eI s.1) :: (16, eB s.2) :: (14, eL eI fe.1) :: (13, eI kk) :: (12, eI k) :: rfF n w most qk i) (fun _ => rfS qk) (fun s => s.1 ≤ qk.length ∧ (s.2 = true ↔ fe.2 ≠ 0 ∨ (kk, fe.1) ∈ (qk.take s.1).map nkey)) (fun s => qk.length - s.1) (0, decide (fe.2 ≠ 0)) (wk_sub _ ⟨rfl, rfl, rfl, rfl, rfl, rfl, rfl, rfl, rfl, rfl, trivial⟩) ⟨Nat.zero_le _, by simp⟩ ?_
                rintro ⟨j, b⟩ ⟨hj, hb⟩
                dsimp only at hj hb ⊢
                repeat (first | refine aw_seq ?_ | refine ath_n ?_ | refine aw_skip ?_ | refine abl_n ?_ | refine aw_block ?_)
                by_cases hjl : j < qk.length
                · have htake : (qk.take (j + 1)).map nkey = (qk.take j).map nkey ++ [nkey (gti qk j)] := by rw [List.take_add_one, gti_get hjl]; simp
                  cases b with
                  | false =>
                    have hb2 : ¬ (fe.2 ≠ 0 ∨ (kk, fe.1) ∈ (qk.take j).map nkey) := fun h => by have := hb.2 h; cases this
                    rw [not_or] at hb2
                    refine aw_region ?_
                    refine ops_op rfl rfl (runs_none rfl) (mv_s (.inl rfl) rfl) ?_
                    first | refine ops_op rfl rfl (runs_none rfl) (mv_own (.inl rfl) rfl) ?_ | refine ops_op rfl rfl (runs_none rfl) (mv_sl (.inl rfl) rfl) ?_ | refine ops_op rfl rfl (runs_none rfl) (mv_s (.inl rfl) rfl) ?_ | refine ops_op rfl rfl (runs_none rfl) (mv_emp (.inl rfl) rfl) ?_
                    first | refine ops_op rfl rfl (runs_none rfl) (does_len_map rfl ts95 rfl) ?_ | refine ops_op rfl rfl (runs_none rfl) (does_len_sl rfl ts95 rfl) ?_ | refine ops_op rfl rfl (runs_none rfl) (does_len_own rfl ts95 rfl) ?_ | refine ops_op rfl rfl (runs_none rfl) (does_len_s rfl ts95 rfl) ?_ | refine ops_op rfl rfl (runs_none rfl) (does_len_emp rfl ts95 rfl) ?_
                    refine ops_op rfl rfl (runs_none rfl) (dec_t (by omega) (does_lss rfl rfl rfl)) ?_
                    refine ops_op rfl rfl (runs_none rfl) (mv_s (.inl rfl) rfl) ?_
                    first | refine ops_op rfl rfl (runs_y rfl rfl rfl) (mv_s (.inl rfl) rfl) ?_ | refine ops_skip rfl rfl (runs_nt rfl rfl rfl) ?_ | refine ops_skip rfl rfl (runs_nu rfl rfl rfl) ?_
                    first | refine ops_op rfl rfl (runs_y rfl rfl rfl) (does_notp rfl rfl) ?_ | refine ops_op rfl rfl (runs_y rfl rfl rfl) (does_not rfl rfl) ?_ | refine ops_skip rfl rfl (runs_nt rfl rfl rfl) ?_ | refine ops_skip rfl rfl (runs_nu rfl rfl rfl) ?_
                    first | refine ops_op rfl rfl (runs_none rfl) (pickT_s rfl rfl rfl) ?_ | refine ops_op rfl rfl (runs_none rfl) (pickF_s rfl rfl rfl) ?_ | refine ops_op rfl rfl (runs_none rfl) (does_pickT rfl rfl rfl) ?_ | refine ops_op rfl rfl (runs_none rfl) (does_pickF rfl rfl rfl) ?_
                    refine ops_nil ?_
                    repeat (first | refine aw_seq ?_ | refine ath_n ?_ | refine aw_skip ?_ | refine abl_n ?_ | refine aw_block ?_)
                    refine aw_true rfl ?_
                    repeat (first | refine aw_seq ?_ | refine ath_n ?_ | refine aw_skip ?_ | refine abl_n ?_ | refine aw_block ?_)
                    by_cases hyk : (gti qk j).k = kk
                    · have hsr := sameRow_pf (P := P) (gti qk j).m fe.1
                      refine aw_region ?_
                      first | refine ops_op rfl rfl (runs_none rfl) (mv_own (.inl rfl) rfl) ?_ | refine ops_op rfl rfl (runs_none rfl) (mv_sl (.inl rfl) rfl) ?_ | refine ops_op rfl rfl (runs_none rfl) (mv_s (.inl rfl) rfl) ?_ | refine ops_op rfl rfl (runs_none rfl) (mv_emp (.inl rfl) rfl) ?_
                      refine ops_op rfl rfl (runs_none rfl) (mv_s (.inl rfl) rfl) ?_
                      first | refine ops_op rfl rfl (runs_none rfl) (does_index_sl rfl ts95 ti94 rfl rfl rfl (ix_map (by omega)) rfl) ?_ | refine ops_op rfl rfl (runs_none rfl) (does_index_own rfl ts95 ti94 rfl rfl rfl (by omega)) ?_
                      first | refine ops_op rfl rfl (runs_none rfl) (does_fieldAddr_ptr rfl tf94_0 (by decide) rfl) ?_ | refine ops_op rfl rfl (runs_none rfl) (does_fieldAddr_ref rfl tf94_0 (by decide) rfl) ?_
                      first | refine ops_op rfl rfl (runs_none rfl) (does_load_ref rfl ta3 rfl) ?_ | refine ops_op rfl rfl (runs_none rfl) (does_load_ptr rfl ta3 rfl rfl rfl (ix_map hjl) rfl) ?_
                      refine ops_op rfl rfl (runs_none rfl) (mv_s (.inl rfl) rfl) ?_
                      refine ops_op rfl rfl (runs_none rfl) (dec_t hyk (does_eql rfl rfl rfl)) ?_
                      refine ops_op rfl rfl (runs_none rfl) (mv_s (.inl rfl) rfl) ?_
                      first | refine ops_op rfl rfl (runs_y rfl rfl rfl) (mv_own (.inl rfl) rfl) ?_ | refine ops_op rfl rfl (runs_y rfl rfl rfl) (mv_sl (.inl rfl) rfl) ?_ | refine ops_op rfl rfl (runs_y rfl rfl rfl) (mv_s (.inl rfl) rfl) ?_ | refine ops_op rfl rfl (runs_y rfl rfl rfl) (mv_emp (.inl rfl) rfl) ?_ | refine ops_skip rfl rfl (runs_nt rfl rfl rfl) ?_ | refine ops_skip rfl rfl (runs_nu rfl rfl rfl) ?_
                      first | refine ops_op rfl rfl (runs_y rfl rfl rfl) (mv_s (.inl rfl) rfl) ?_ | refine ops_skip rfl rfl (runs_nt rfl rfl rfl) ?_ | refine ops_skip rfl rfl (runs_nu rfl rfl rfl) ?_
                      first | refine ops_op rfl rfl (runs_y rfl rfl rfl) (does_index_sl rfl ts95 ti94 rfl rfl rfl (ix_map (by omega)) rfl) ?_ | refine ops_op rfl rfl (runs_y rfl rfl rfl) (does_index_own rfl ts95 ti94 rfl rfl rfl (by omega)) ?_ | refine ops_skip rfl rfl (runs_nt rfl rfl rfl) ?_ | refine ops_skip rfl rfl (runs_nu rfl rfl rfl) ?_
                      first | refine ops_op rfl rfl (runs_y rfl rfl rfl) (does_fieldAddr_ptr rfl tf94_1 (by decide) rfl) ?_ | refine ops_op rfl rfl (runs_y rfl rfl rfl) (does_fieldAddr_ref rfl tf94_1 (by decide) rfl) ?_ | refine ops_skip rfl rfl (runs_nt rfl rfl rfl) ?_ | refine ops_skip rfl rfl (runs_nu rfl rfl rfl) ?_
                      first | refine ops_op rfl rfl (runs_y rfl rfl rfl) (does_load_ref rfl ta30 rfl) ?_ | refine ops_op rfl rfl (runs_y rfl rfl rfl) (does_load_ptr rfl ta30 rfl rfl rfl (ix_map hjl) rfl) ?_ | refine ops_skip rfl rfl (runs_nt rfl rfl rfl) ?_ | refine ops_skip rfl rfl (runs_nu rfl rfl rfl) ?_
                      first | refine ops_op rfl rfl (runs_y rfl rfl rfl) (mv_own (.inl rfl) rfl) ?_ | refine ops_op rfl rfl (runs_y rfl rfl rfl) (mv_sl (.inl rfl) rfl) ?_ | refine ops_op rfl rfl (runs_y rfl rfl rfl) (mv_s (.inl rfl) rfl) ?_ | refine ops_op rfl rfl (runs_y rfl rfl rfl) (mv_emp (.inl rfl) rfl) ?_ | refine ops_skip rfl rfl (runs_nt rfl rfl rfl) ?_ | refine ops_skip rfl rfl (runs_nu rfl rfl rfl) ?_
                      first | refine ops_op rfl rfl (runs_y rfl rfl rfl) (does_call rfl rfl (hsr) (evc_cons rfl (evc_cons rfl evc_nil))) ?_ | refine ops_skip rfl rfl (runs_nt rfl rfl rfl) ?_ | refine ops_skip rfl rfl (runs_nu rfl rfl rfl) ?_
                      first | refine ops_op rfl rfl (runs_none rfl) (pickT_s rfl rfl rfl) ?_ | refine ops_op rfl rfl (runs_none rfl) (pickF_s rfl rfl rfl) ?_ | refine ops_op rfl rfl (runs_none rfl) (does_pickT rfl rfl rfl) ?_ | refine ops_op rfl rfl (runs_none rfl) (does_pickF rfl rfl rfl) ?_
                      refine ops_op rfl rfl (runs_none rfl) (mv_s (.inr rfl) rfl) ?_
                      refine ops_nil ?_
                      repeat (first | refine aw_seq ?_ | refine ath_n ?_ | refine aw_skip ?_ | refine abl_n ?_ | refine aw_block ?_)
                      refine aw_region ?_
                      refine ops_op rfl rfl (runs_none rfl) (mv_s (.inl rfl) rfl) ?_
                      refine ops_op rfl rfl (runs_none rfl) (does_add rfl rfl rfl (IntWalk.i64_in _ (by omega))) ?_
                      refine ops_op rfl rfl (runs_none rfl) (mv_s (.inr rfl) rfl) ?_
                      refine ops_nil ?_
                      repeat (first | refine aw_seq ?_ | refine ath_n ?_ | refine aw_skip ?_ | refine abl_n ?_ | refine aw_block ?_)
                      refine ⟨(j + 1, decide ((gti qk j).m = fe.1)), ⟨hjl, ?_⟩, by dsimp only; omega, wk_sub _ ⟨rfl, rfl, rfl, rfl, rfl, rfl, rfl, rfl, rfl, rfl, trivial⟩⟩
                      dsimp only
                      rw [htake, decide_eq_true_eq, List.mem_append, List.mem_singleton]
                      constructor
                      · intro h; exact .inr (.inr (by unfold nkey; rw [hyk, h]))
                      · rintro (h | h | h)
                        · exact absurd h hb2.1
                        · exact absurd h hb2.2
                        · unfold nkey at h; injection h with h1 h2; exact h2.symm
                    · skip
                      refine aw_region ?_
                      first | refine ops_op rfl rfl (runs_none rfl) (mv_own (.inl rfl) rfl) ?_ | refine ops_op rfl rfl (runs_none rfl) (mv_sl (.inl rfl) rfl) ?_ | refine ops_op rfl rfl (runs_none rfl) (mv_s (.inl rfl) rfl) ?_ | refine ops_op rfl rfl (runs_none rfl) (mv_emp (.inl rfl) rfl) ?_
                      refine ops_op rfl rfl (runs_none rfl) (mv_s (.inl rfl) rfl) ?_
                      first | refine ops_op rfl rfl (runs_none rfl) (does_index_sl rfl ts95 ti94 rfl rfl rfl (ix_map (by omega)) rfl) ?_ | refine ops_op rfl rfl (runs_none rfl) (does_index_own rfl ts95 ti94 rfl rfl rfl (by omega)) ?_
                      first | refine ops_op rfl rfl (runs_none rfl) (does_fieldAddr_ptr rfl tf94_0 (by decide) rfl) ?_ | refine ops_op rfl rfl (runs_none rfl) (does_fieldAddr_ref rfl tf94_0 (by decide) rfl) ?_
                      first | refine ops_op rfl rfl (runs_none rfl) (does_load_ref rfl ta3 rfl) ?_ | refine ops_op rfl rfl (runs_none rfl) (does_load_ptr rfl ta3 rfl rfl rfl (ix_map hjl) rfl) ?_
                      refine ops_op rfl rfl (runs_none rfl) (mv_s (.inl rfl) rfl) ?_
                      refine ops_op rfl rfl (runs_none rfl) (dec_f hyk (does_eql rfl rfl rfl)) ?_
                      refine ops_op rfl rfl (runs_none rfl) (mv_s (.inl rfl) rfl) ?_
                      first | refine ops_op rfl rfl (runs_y rfl rfl rfl) (mv_own (.inl rfl) rfl) ?_ | refine ops_op rfl rfl (runs_y rfl rfl rfl) (mv_sl (.inl rfl) rfl) ?_ | refine ops_op rfl rfl (runs_y rfl rfl rfl) (mv_s (.inl rfl) rfl) ?_ | refine ops_op rfl rfl (runs_y rfl rfl rfl) (mv_emp (.inl rfl) rfl) ?_ | refine ops_skip rfl rfl (runs_nt rfl rfl rfl) ?_ | refine ops_skip rfl rfl (runs_nu rfl rfl rfl) ?_
                      first | refine ops_op rfl rfl (runs_y rfl rfl rfl) (mv_s (.inl rfl) rfl) ?_ | refine ops_skip rfl rfl (runs_nt rfl rfl rfl) ?_ | refine ops_skip rfl rfl (runs_nu rfl rfl rfl) ?_
                      first | refine ops_op rfl rfl (runs_y rfl rfl rfl) (does_index_sl rfl ts95 ti94 rfl rfl rfl (ix_map (by omega)) rfl) ?_ | refine ops_op rfl rfl (runs_y rfl rfl rfl) (does_index_own rfl ts95 ti94 rfl rfl rfl (by omega)) ?_ | refine ops_skip rfl rfl (runs_nt rfl rfl rfl) ?_ | refine ops_skip rfl rfl (runs_nu rfl rfl rfl) ?_
                      first | refine ops_op rfl rfl (runs_y rfl rfl rfl) (does_fieldAddr_ptr rfl tf94_1 (by decide) rfl) ?_ | refine ops_op rfl rfl (runs_y rfl rfl rfl) (does_fieldAddr_ref rfl tf94_1 (by decide) rfl) ?_ | refine ops_skip rfl rfl (runs_nt rfl rfl rfl) ?_ | refine ops_skip rfl rfl (runs_nu rfl rfl rfl) ?_
                      first | refine ops_op rfl rfl (runs_y rfl rfl rfl) (does_load_ref rfl ta30 rfl) ?_ | refine ops_op rfl rfl (runs_y rfl rfl rfl) (does_load_ptr rfl ta30 rfl rfl rfl rfl rfl) ?_ | refine ops_skip rfl rfl (runs_nt rfl rfl rfl) ?_ | refine ops_skip rfl rfl (runs_nu rfl rfl rfl) ?_
                      first | refine ops_op rfl rfl (runs_y rfl rfl rfl) (mv_own (.inl rfl) rfl) ?_ | refine ops_op rfl rfl (runs_y rfl rfl rfl) (mv_sl (.inl rfl) rfl) ?_ | refine ops_op rfl rfl (runs_y rfl rfl rfl) (mv_s (.inl rfl) rfl) ?_ | refine ops_op rfl rfl (runs_y rfl rfl rfl) (mv_emp (.inl rfl) rfl) ?_ | refine ops_skip rfl rfl (runs_nt rfl rfl rfl) ?_ | refine ops_skip rfl rfl (runs_nu rfl rfl rfl) ?_
                      first | refine ops_op rfl rfl (runs_y rfl rfl rfl) (does_call rfl rfl (by assumption) (evc_cons rfl (evc_cons rfl evc_nil))) ?_ | refine ops_skip rfl rfl (runs_nt rfl rfl rfl) ?_ | refine ops_skip rfl rfl (runs_nu rfl rfl rfl) ?_
                      first | refine ops_op rfl rfl (runs_none rfl) (pickT_s rfl rfl rfl) ?_ | refine ops_op rfl rfl (runs_none rfl) (pickF_s rfl rfl rfl) ?_ | refine ops_op rfl rfl (runs_none rfl) (does_pickT rfl rfl rfl) ?_ | refine ops_op rfl rfl (runs_none rfl) (does_pickF rfl rfl rfl) ?_
                      refine ops_op rfl rfl (runs_none rfl) (mv_s (.inr rfl) rfl) ?_
                      refine ops_nil ?_
                      repeat (first | refine aw_seq ?_ | refine ath_n ?_ | refine aw_skip ?_ | refine abl_n ?_ | refine aw_block ?_)
                      refine aw_region ?_
                      refine ops_op rfl rfl (runs_none rfl) (mv_s (.inl rfl) rfl) ?_
                      refine ops_op rfl rfl (runs_none rfl) (does_add rfl rfl rfl (IntWalk.i64_in _ (by omega))) ?_
                      refine ops_op rfl rfl (runs_none rfl) (mv_s (.inr rfl) rfl) ?_
                      refine ops_nil ?_
                      repeat (first | refine aw_seq ?_ | refine ath_n ?_ | refine aw_skip ?_ | refine abl_n ?_ | refine aw_block ?_)
                      refine ⟨(j + 1, false), ⟨hjl, ?_⟩, by dsimp only; omega, wk_sub _ ⟨rfl, rfl, rfl, rfl, rfl, rfl, rfl, rfl, rfl, rfl, trivial⟩⟩
                      dsimp only
                      rw [htake, List.mem_append, List.mem_singleton]
                      constructor
                      · intro h; cases h
                      · rintro (h | h | h)
                        · exact absurd h hb2.1
                        · exact absurd h hb2.2
                        · unfold nkey at h; injection h with h1 h2; exact absurd h1.symm hyk
                  | true =>
                    have hb2 : fe.2 ≠ 0 ∨ (kk, fe.1) ∈ qk.map nkey := (hb.1 rfl).imp (fun h => h) (fun h => by
                      rw [List.mem_map] at h ⊢
                      obtain ⟨y, h1, h2⟩ := h
                      exact ⟨y, List.mem_of_mem_take h1, h2⟩)
                    rw [if_pos hb2] at hSS
                    refine aw_region ?_
                    refine ops_op rfl rfl (runs_none rfl) (mv_s (.inl rfl) rfl) ?_
                    first | refine ops_op rfl rfl (runs_none rfl) (mv_own (.inl rfl) rfl) ?_ | refine ops_op rfl rfl (runs_none rfl) (mv_sl (.inl rfl) rfl) ?_ | refine ops_op rfl rfl (runs_none rfl) (mv_s (.inl rfl) rfl) ?_ | refine ops_op rfl rfl (runs_none rfl) (mv_emp (.inl rfl) rfl) ?_
                    first | refine ops_op rfl rfl (runs_none rfl) (does_len_map rfl ts95 rfl) ?_ | refine ops_op rfl rfl (runs_none rfl) (does_len_sl rfl ts95 rfl) ?_ | refine ops_op rfl rfl (runs_none rfl) (does_len_own rfl ts95 rfl) ?_ | refine ops_op rfl rfl (runs_none rfl) (does_len_s rfl ts95 rfl) ?_ | refine ops_op rfl rfl (runs_none rfl) (does_len_emp rfl ts95 rfl) ?_
                    refine ops_op rfl rfl (runs_none rfl) (dec_t (by omega) (does_lss rfl rfl rfl)) ?_
                    refine ops_op rfl rfl (runs_none rfl) (mv_s (.inl rfl) rfl) ?_
                    first | refine ops_op rfl rfl (runs_y rfl rfl rfl) (mv_s (.inl rfl) rfl) ?_ | refine ops_skip rfl rfl (runs_nt rfl rfl rfl) ?_ | refine ops_skip rfl rfl (runs_nu rfl rfl rfl) ?_
                    first | refine ops_op rfl rfl (runs_y rfl rfl rfl) (does_notp rfl rfl) ?_ | refine ops_op rfl rfl (runs_y rfl rfl rfl) (does_not rfl rfl) ?_ | refine ops_skip rfl rfl (runs_nt rfl rfl rfl) ?_ | refine ops_skip rfl rfl (runs_nu rfl rfl rfl) ?_
                    first | refine ops_op rfl rfl (runs_none rfl) (pickT_s rfl rfl rfl) ?_ | refine ops_op rfl rfl (runs_none rfl) (pickF_s rfl rfl rfl) ?_ | refine ops_op rfl rfl (runs_none rfl) (does_pickT rfl rfl rfl) ?_ | refine ops_op rfl rfl (runs_none rfl) (does_pickF rfl rfl rfl) ?_
                    refine ops_nil ?_
                    repeat (first | refine aw_seq ?_ | refine ath_n ?_ | refine aw_skip ?_ | refine abl_n ?_ | refine aw_block ?_)
                    refine aw_false rfl ?_
                    (refine aw_exit ?_; repeat (first | refine ath_x ?_ | refine abl_hit ?_ | refine abl_miss rfl ?_ | refine abl_n ?_ | refine ath_n ?_ | refine aw_seq ?_ | refine aw_skip ?_ | refine aw_block ?_))
                    refine aw_region ?_
                    refine ops_op rfl rfl (runs_none rfl) (mv_s (.inl rfl) rfl) ?_
                    first | refine ops_op rfl rfl (runs_none rfl) (does_notp rfl rfl) ?_ | refine ops_op rfl rfl (runs_none rfl) (does_not rfl rfl) ?_
                    refine ops_nil ?_
                    repeat (first | refine aw_seq ?_ | refine ath_n ?_ | refine aw_skip ?_ | refine abl_n ?_ | refine aw_block ?_)
                    refine aw_false rfl ?_
                    repeat (first | refine aw_seq ?_ | refine ath_n ?_ | refine aw_skip ?_ | refine abl_n ?_ | refine aw_block ?_)
                    refine aw_region ?_
                    refine ops_op rfl rfl (runs_none rfl) (mv_s (.inl rfl) rfl) ?_
                    refine ops_op rfl rfl (runs_none rfl) (does_add rfl rfl rfl (IntWalk.i64_in _ (by omega))) ?_
                    refine ops_op rfl rfl (runs_none rfl) (mv_s (.inr rfl) rfl) ?_
                    refine ops_nil ?_
                    repeat (first | refine aw_seq ?_ | refine ath_n ?_ | refine aw_skip ?_ | refine abl_n ?_ | refine aw_block ?_)
                    refine ⟨k + 1, hkt, by omega, ?_⟩
                    rw [hqS, hSS]
                    exact wk_sub _ ⟨rfl, rfl, rfl, rfl, rfl, rfl, trivial⟩
                · rw [List.take_of_length_le (by omega)] at hb
                  refine aw_region ?_
                  refine ops_op rfl rfl (runs_none rfl) (mv_s (.inl rfl) rfl) ?_
                  first | refine ops_op rfl rfl (runs_none rfl) (mv_own (.inl rfl) rfl) ?_ | refine ops_op rfl rfl (runs_none rfl) (mv_sl (.inl rfl) rfl) ?_ | refine ops_op rfl rfl (runs_none rfl) (mv_s (.inl rfl) rfl) ?_ | refine ops_op rfl rfl (runs_none rfl) (mv_emp (.inl rfl) rfl) ?_
                  first | refine ops_op rfl rfl (runs_none rfl) (does_len_map rfl ts95 rfl) ?_ | refine ops_op rfl rfl (runs_none rfl) (does_len_sl rfl ts95 rfl) ?_ | refine ops_op rfl rfl (runs_none rfl) (does_len_own rfl ts95 rfl) ?_ | refine ops_op rfl rfl (runs_none rfl) (does_len_s rfl ts95 rfl) ?_ | refine ops_op rfl rfl (runs_none rfl) (does_len_emp rfl ts95 rfl) ?_
                  refine ops_op rfl rfl (runs_none rfl) (dec_f (by omega) (does_lss rfl rfl rfl)) ?_
                  refine ops_op rfl rfl (runs_none rfl) (mv_s (.inl rfl) rfl) ?_
                  first | refine ops_op rfl rfl (runs_y rfl rfl rfl) (mv_s (.inl rfl) rfl) ?_ | refine ops_skip rfl rfl (runs_nt rfl rfl rfl) ?_ | refine ops_skip rfl rfl (runs_nu rfl rfl rfl) ?_
                  first | refine ops_op rfl rfl (runs_y rfl rfl rfl) (does_notp rfl rfl) ?_ | refine ops_op rfl rfl (runs_y rfl rfl rfl) (does_not rfl rfl) ?_ | refine ops_skip rfl rfl (runs_nt rfl rfl rfl) ?_ | refine ops_skip rfl rfl (runs_nu rfl rfl rfl) ?_
                  first | refine ops_op rfl rfl (runs_none rfl) (pickT_s rfl rfl rfl) ?_ | refine ops_op rfl rfl (runs_none rfl) (pickF_s rfl rfl rfl) ?_ | refine ops_op rfl rfl (runs_none rfl) (does_pickT rfl rfl rfl) ?_ | refine ops_op rfl rfl (runs_none rfl) (does_pickF rfl rfl rfl) ?_
                  refine ops_nil ?_
                  repeat (first | refine aw_seq ?_ | refine ath_n ?_ | refine aw_skip ?_ | refine abl_n ?_ | refine aw_block ?_)
                  refine aw_false rfl ?_
                  (refine aw_exit ?_; repeat (first | refine ath_x ?_ | refine abl_hit ?_ | refine abl_miss rfl ?_ | refine abl_n ?_ | refine ath_n ?_ | refine aw_seq ?_ | refine aw_skip ?_ | refine aw_block ?_))
                  refine aw_region ?_
                  refine ops_op rfl rfl (runs_none rfl) (mv_s (.inl rfl) rfl) ?_
                  first | refine ops_op rfl rfl (runs_none rfl) (does_notp rfl rfl) ?_ | refine ops_op rfl rfl (runs_none rfl) (does_not rfl rfl) ?_
                  refine ops_nil ?_
                  repeat (first | refine aw_seq ?_ | refine ath_n ?_ | refine aw_skip ?_ | refine abl_n ?_ | refine aw_block ?_)
                  cases b with
                  | true =>
                    rw [if_pos (hb.1 rfl)] at hSS
                    refine aw_false rfl ?_
                    repeat (first | refine aw_seq ?_ | refine ath_n ?_ | refine aw_skip ?_ | refine abl_n ?_ | refine aw_block ?_)
                    refine aw_region ?_
                    refine ops_op rfl rfl (runs_none rfl) (mv_s (.inl rfl) rfl) ?_
                    refine ops_op rfl rfl (runs_none rfl) (does_add rfl rfl rfl (IntWalk.i64_in _ (by omega))) ?_
                    refine ops_op rfl rfl (runs_none rfl) (mv_s (.inr rfl) rfl) ?_
                    refine ops_nil ?_
                    repeat (first | refine aw_seq ?_ | refine ath_n ?_ | refine aw_skip ?_ | refine abl_n ?_ | refine aw_block ?_)
                    refine ⟨k + 1, hkt, by omega, ?_⟩
                    rw [hqS, hSS]
                    exact wk_sub _ ⟨rfl, rfl, rfl, rfl, rfl, rfl, trivial⟩
                  | false =>
                    rw [if_neg (fun h => by have := hb.2 h; cases this)] at hSS
                    refine aw_true rfl ?_
                    repeat (first | refine aw_seq ?_ | refine ath_n ?_ | refine aw_skip ?_ | refine abl_n ?_ | refine aw_block ?_)
                    refine aw_region ?_
                    first | refine ops_op rfl rfl (runs_none rfl) (mv_own (.inl rfl) rfl) ?_ | refine ops_op rfl rfl (runs_none rfl) (mv_sl (.inl rfl) rfl) ?_ | refine ops_op rfl rfl (runs_none rfl) (mv_s (.inl rfl) rfl) ?_ | refine ops_op rfl rfl (runs_none rfl) (mv_emp (.inl rfl) rfl) ?_
                    refine ops_op rfl rfl (runs_none rfl) (mv_s (.inl rfl) rfl) ?_
                    first | refine ops_op rfl rfl (runs_none rfl) (mv_own (.inl rfl) rfl) ?_ | refine ops_op rfl rfl (runs_none rfl) (mv_sl (.inl rfl) rfl) ?_ | refine ops_op rfl rfl (runs_none rfl) (mv_s (.inl rfl) rfl) ?_ | refine ops_op rfl rfl (runs_none rfl) (mv_emp (.inl rfl) rfl) ?_
                    refine ops_op rfl rfl (runs_none rfl) (does_lit0 rfl rfl ts30 ti3) ?_
                    first | refine ops_op rfl rfl (runs_none rfl) (mv_own (.inl rfl) rfl) ?_ | refine ops_op rfl rfl (runs_none rfl) (mv_sl (.inl rfl) rfl) ?_ | refine ops_op rfl rfl (runs_none rfl) (mv_s (.inl rfl) rfl) ?_ | refine ops_op rfl rfl (runs_none rfl) (mv_emp (.inl rfl) rfl) ?_
                    refine ops_op rfl rfl (runs_none rfl) (mv_s (.inl rfl) rfl) ?_
                    first | refine ops_op rfl rfl (runs_none rfl) (does_index_sl rfl ts95 ti94 rfl rfl rfl (ix_map (by omega)) rfl) ?_ | refine ops_op rfl rfl (runs_none rfl) (does_index_own rfl ts95 ti94 rfl rfl rfl (by omega)) ?_
                    first | refine ops_op rfl rfl (runs_none rfl) (does_fieldAddr_ptr rfl tf94_2 (by decide) rfl) ?_ | refine ops_op rfl rfl (runs_none rfl) (does_fieldAddr_ref rfl tf94_2 (by decide) rfl) ?_
                    first | refine ops_op rfl rfl (runs_none rfl) (does_load_ref rfl ta30 rfl) ?_ | refine ops_op rfl rfl (runs_none rfl) (does_load_ptr rfl ta30 rfl rfl rfl (ix_map hi2) rfl) ?_
                    first | refine ops_op rfl rfl (runs_none rfl) (does_append rfl ts30 ti3 rfl (by decide) rfl rfl (by first | rfl | simp) rfl (by first | exact .own _ _ _ rfl rfl _ (by first | rfl | simp) | exact .emp | exact .nil | exact .sl _ (by first | simp; done | intro e he; simp at he; obtain ⟨_, _, rfl⟩ := he; rfl)) (by first | omega | (simp; omega) | (unfold maxLen; simp; omega)) (by first | omega | (simp; omega) | (unfold maxLen; simp; omega))) ?_ | refine ops_op rfl rfl (runs_none rfl) (does_append0 rfl ts30 ti3 rfl (by decide) rfl (.inl rfl) rfl (by first | exact .own _ _ _ rfl rfl _ (by first | rfl | simp) | exact .emp | exact .nil | exact .sl _ (by first | simp; done | intro e he; simp at he; obtain ⟨_, _, rfl⟩ := he; rfl)) (by first | omega | (simp; omega) | (unfold maxLen; simp; omega)) (by first | omega | (simp; omega) | (unfold maxLen; simp; omega))) ?_ | refine ops_op rfl rfl (runs_none rfl) (does_append0 rfl ts30 ti3 rfl (by decide) rfl (.inr rfl) rfl (by first | exact .own _ _ _ rfl rfl _ (by first | rfl | simp) | exact .emp | exact .nil | exact .sl _ (by first | simp; done | intro e he; simp at he; obtain ⟨_, _, rfl⟩ := he; rfl)) (by first | omega | (simp; omega) | (unfold maxLen; simp; omega)) (by first | omega | (simp; omega) | (unfold maxLen; simp; omega))) ?_
                    refine ops_op rfl rfl (runs_none rfl) (mv_s (.inl rfl) rfl) ?_
                    first | refine ops_op rfl rfl (runs_none rfl) (lit1_s rfl ts30 ti3 rfl rfl rfl rfl) ?_ | refine ops_op rfl rfl (runs_none rfl) (lit1_sl rfl ts30 ti3 rfl rfl rfl rfl) ?_ | refine ops_op rfl rfl (runs_none rfl) (does_litA rfl ts30 ti3 rfl rfl (by decide) (by decide) rfl rfl rfl) ?_
                    first | refine ops_op rfl rfl (runs_none rfl) (does_append rfl ts30 ti3 rfl (by decide) rfl rfl (by first | rfl | simp) rfl (by first | exact .own _ _ _ rfl rfl _ (by first | rfl | simp) | exact .emp | exact .nil | exact .sl _ (by first | simp; done | intro e he; simp at he; obtain ⟨_, _, rfl⟩ := he; rfl)) (by first | omega | (simp; omega) | (unfold maxLen; simp; omega)) (by first | omega | (simp; omega) | (unfold maxLen; simp; omega))) ?_ | refine ops_op rfl rfl (runs_none rfl) (does_append0 rfl ts30 ti3 rfl (by decide) rfl (.inl rfl) rfl (by first | exact .own _ _ _ rfl rfl _ (by first | rfl | simp) | exact .emp | exact .nil | exact .sl _ (by first | simp; done | intro e he; simp at he; obtain ⟨_, _, rfl⟩ := he; rfl)) (by first | omega | (simp; omega) | (unfold maxLen; simp; omega)) (by first | omega | (simp; omega) | (unfold maxLen; simp; omega))) ?_ | refine ops_op rfl rfl (runs_none rfl) (does_append0 rfl ts30 ti3 rfl (by decide) rfl (.inr rfl) rfl (by first | exact .own _ _ _ rfl rfl _ (by first | rfl | simp) | exact .emp | exact .nil | exact .sl _ (by first | simp; done | intro e he; simp at he; obtain ⟨_, _, rfl⟩ := he; rfl)) (by first | omega | (simp; omega) | (unfold maxLen; simp; omega)) (by first | omega | (simp; omega) | (unfold maxLen; simp; omega))) ?_
                    refine aops_weak (wk_froz (id := 3) rfl) (aops_weak (wk_sl (d := 169) rfl rfl (by first | rfl | (simp; done) | (simp; omega))) ?_)
                    refine ops_op rfl rfl (runs_none rfl) (does_build rfl ti94 tp94 rfl rfl) ?_
                    first | refine ops_op rfl rfl (runs_none rfl) (lit1_s rfl ts95 ti94 rfl rfl rfl rfl) ?_ | refine ops_op rfl rfl (runs_none rfl) (lit1_sl rfl ts95 ti94 rfl rfl rfl rfl) ?_ | refine ops_op rfl rfl (runs_none rfl) (does_litA rfl ts95 ti94 rfl rfl (by decide) (by decide) rfl rfl rfl) ?_
                    first | refine ops_op rfl rfl (runs_none rfl) (does_append rfl ts95 ti94 rfl (by decide) rfl rfl (by first | rfl | simp) rfl (by first | exact .own _ _ _ rfl rfl _ (by first | rfl | simp) | exact .emp | exact .nil | exact .sl _ (by first | simp; done | intro e he; simp at he; obtain ⟨_, _, rfl⟩ := he; rfl)) (by first | omega | (simp; omega) | (unfold maxLen; simp; omega)) (by first | omega | (simp; omega) | (unfold maxLen; simp; omega))) ?_ | refine ops_op rfl rfl (runs_none rfl) (does_append0 rfl ts95 ti94 rfl (by decide) rfl (.inl rfl) rfl (by first | exact .own _ _ _ rfl rfl _ (by first | rfl | simp) | exact .emp | exact .nil | exact .sl _ (by first | simp; done | intro e he; simp at he; obtain ⟨_, _, rfl⟩ := he; rfl)) (by first | omega | (simp; omega) | (unfold maxLen; simp; omega)) (by first | omega | (simp; omega) | (unfold maxLen; simp; omega))) ?_ | refine ops_op rfl rfl (runs_none rfl) (does_append0 rfl ts95 ti94 rfl (by decide) rfl (.inr rfl) rfl (by first | exact .own _ _ _ rfl rfl _ (by first | rfl | simp) | exact .emp | exact .nil | exact .sl _ (by first | simp; done | intro e he; simp at he; obtain ⟨_, _, rfl⟩ := he; rfl)) (by first | omega | (simp; omega) | (unfold maxLen; simp; omega)) (by first | omega | (simp; omega) | (unfold maxLen; simp; omega))) ?_
                    first | refine ops_op rfl rfl (runs_none rfl) (mv_own (.inr rfl) rfl) ?_ | refine ops_op rfl rfl (runs_none rfl) (mv_sl (.inr rfl) rfl) ?_ | refine ops_op rfl rfl (runs_none rfl) (mv_s (.inr rfl) rfl) ?_ | refine ops_op rfl rfl (runs_none rfl) (mv_emp (.inr rfl) rfl) ?_
                    refine ops_nil ?_
                    repeat (first | refine aw_seq ?_ | refine ath_n ?_ | refine aw_skip ?_ | refine abl_n ?_ | refine aw_block ?_)
                    refine aw_region ?_
                    refine ops_op rfl rfl (runs_none rfl) (mv_s (.inl rfl) rfl) ?_
                    refine ops_op rfl rfl (runs_none rfl) (does_add rfl rfl rfl (IntWalk.i64_in _ (by omega))) ?_
                    refine ops_op rfl rfl (runs_none rfl) (mv_s (.inr rfl) rfl) ?_
                    refine ops_nil ?_
                    repeat (first | refine aw_seq ?_ | refine ath_n ?_ | refine aw_skip ?_ | refine abl_n ?_ | refine aw_block ?_)
                    refine ⟨k + 1, hkt, by omega, ?_⟩
                    have hrow : (qk ++ [(⟨kk, fe.1, (gti q i).run ++ [(k : Int)]⟩ : Nd)]).map eNd = qk.map eNd ++ [AV.agg [eI kk, eL eI fe.1, .sl ((gti qk i).run.map eI ++ [eI k])]] := by rw [← hqx]; simp [eNd, eL]
                    rw [hqS, hSS]
                    exact wk_st [5] (by decide) ⟨⟨_, rfl, .rowE (by repeat' (first | exact Lo.s _ | exact Lo.emp | exact Lo.any | exact lo_nil | exact lo_nilE | refine lo_cons ?_ ?_ | refine lo_consE ?_ ?_ | refine lo_map ?_ | refine lo_mapE ?_ | refine Lo.cells ?_ | refine Lo.agg _ ?_ | refine Lo.ref _ ?_ | refine Lo.tup _ ?_ | refine Lo.fn _ _ ?_ | refine Lo.sl _ ?_ | intro _)) (Eq.trans (b := qk.map eNd ++ [AV.agg [eI kk, eL eI fe.1, .sl ((gti qk i).run.map eI ++ [eI k])]]) rfl hrow.symm)⟩, trivial⟩ ⟨.lo _ (by repeat' (first | exact Lo.s _ | exact Lo.emp | exact Lo.any | exact lo_nil | exact lo_nilE | refine lo_cons ?_ ?_ | refine lo_consE ?_ ?_ | refine lo_map ?_ | refine lo_mapE ?_ | refine Lo.cells ?_ | refine Lo.agg _ ?_ | refine Lo.ref _ ?_ | refine Lo.tup _ ?_ | refine Lo.fn _ _ ?_ | refine Lo.sl _ ?_ | intro _)), .lo _ (by repeat' (first | exact Lo.s _ | exact Lo.emp | exact Lo.any | exact lo_nil | exact lo_nilE | refine lo_cons ?_ ?_ | refine lo_consE ?_ ?_ | refine lo_map ?_ | refine lo_mapE ?_ | refine Lo.cells ?_ | refine Lo.agg _ ?_ | refine Lo.ref _ ?_ | refine Lo.tup _ ?_ | refine Lo.fn _ _ ?_ | refine Lo.sl _ ?_ | intro _)), .lo _ (by repeat' (first | exact Lo.s _ | exact Lo.emp | exact Lo.any | exact lo_nil | exact lo_nilE | refine lo_cons ?_ ?_ | refine lo_consE ?_ ?_ | refine lo_map ?_ | refine lo_mapE ?_ | refine Lo.cells ?_ | refine Lo.agg _ ?_ | refine Lo.ref _ ?_ | refine Lo.tup _ ?_ | refine Lo.fn _ _ ?_ | refine Lo.sl _ ?_ | intro _)), .lo _ (by repeat' (first | exact Lo.s _ | exact Lo.emp | exact Lo.any | exact lo_nil | exact lo_nilE | refine lo_cons ?_ ?_ | refine lo_consE ?_ ?_ | refine lo_map ?_ | refine lo_mapE ?_ | refine Lo.cells ?_ | refine Lo.agg _ ?_ | refine Lo.ref _ ?_ | refine Lo.tup _ ?_ | refine Lo.fn _ _ ?_ | refine Lo.sl _ ?_ | intro _)), .own 5 0 3 _ _ rfl (by simp), .lo _ (by repeat' (first | exact Lo.s _ | exact Lo.emp | exact Lo.any | exact lo_nil | exact lo_nilE | refine lo_cons ?_ ?_ | refine lo_consE ?_ ?_ | refine lo_map ?_ | refine lo_mapE ?_ | refine Lo.cells ?_ | refine Lo.agg _ ?_ | refine Lo.ref _ ?_ | refine Lo.tup _ ?_ | refine Lo.fn _ _ ?_ | refine Lo.sl _ ?_ | intro _)), trivial⟩
            · have hT := hend (.inr (by omega))
              refine aw_region ?_
              refine ops_op rfl rfl (runs_none rfl) (mv_s (.inl rfl) rfl) ?_
              first | refine ops_op rfl rfl (runs_none rfl) (does_fieldAddr_ptr rfl tf24_1 (by decide) rfl) ?_ | refine ops_op rfl rfl (runs_none rfl) (does_fieldAddr_ref rfl tf24_1 (by decide) rfl) ?_
              first | refine ops_op rfl rfl (runs_none rfl) (does_load_ref rfl ta22 rfl) ?_ | refine ops_op rfl rfl (runs_none rfl) (does_load_ptr rfl ta22 rfl rfl rfl rfl rfl) ?_
              first | refine ops_op rfl rfl (runs_none rfl) (does_len_map rfl ts22 rfl) ?_ | refine ops_op rfl rfl (runs_none rfl) (does_len_sl rfl ts22 rfl) ?_ | refine ops_op rfl rfl (runs_none rfl) (does_len_own rfl ts22 rfl) ?_ | refine ops_op rfl rfl (runs_none rfl) (does_len_s rfl ts22 rfl) ?_ | refine ops_op rfl rfl (runs_none rfl) (does_len_emp rfl ts22 rfl) ?_
              refine ops_op rfl rfl (runs_none rfl) (dec_t (by omega) (does_lss rfl rfl rfl)) ?_
              refine ops_op rfl rfl (runs_none rfl) (mv_s (.inl rfl) rfl) ?_
              first | refine ops_op rfl rfl (runs_y rfl rfl rfl) (mv_own (.inl rfl) rfl) ?_ | refine ops_op rfl rfl (runs_y rfl rfl rfl) (mv_sl (.inl rfl) rfl) ?_ | refine ops_op rfl rfl (runs_y rfl rfl rfl) (mv_s (.inl rfl) rfl) ?_ | refine ops_op rfl rfl (runs_y rfl rfl rfl) (mv_emp (.inl rfl) rfl) ?_ | refine ops_skip rfl rfl (runs_nt rfl rfl rfl) ?_ | refine ops_skip rfl rfl (runs_nu rfl rfl rfl) ?_
              first | refine ops_op rfl rfl (runs_y rfl rfl rfl) (does_len_map rfl ts95 rfl) ?_ | refine ops_op rfl rfl (runs_y rfl rfl rfl) (does_len_sl rfl ts95 rfl) ?_ | refine ops_op rfl rfl (runs_y rfl rfl rfl) (does_len_own rfl ts95 rfl) ?_ | refine ops_op rfl rfl (runs_y rfl rfl rfl) (does_len_s rfl ts95 rfl) ?_ | refine ops_op rfl rfl (runs_y rfl rfl rfl) (does_len_emp rfl ts95 rfl) ?_ | refine ops_skip rfl rfl (runs_nt rfl rfl rfl) ?_ | refine ops_skip rfl rfl (runs_nu rfl rfl rfl) ?_
              first | refine ops_op rfl rfl (runs_y rfl rfl rfl) (mv_s (.inl rfl) rfl) ?_ | refine ops_skip rfl rfl (runs_nt rfl rfl rfl) ?_ | refine ops_skip rfl rfl (runs_nu rfl rfl rfl) ?_
              first | refine ops_op rfl rfl (runs_y rfl rfl rfl) (dec_f hmk (does_leq rfl rfl rfl)) ?_ | refine ops_skip rfl rfl (runs_nt rfl rfl rfl) ?_ | refine ops_skip rfl rfl (runs_nu rfl rfl rfl) ?_
              first | refine ops_op rfl rfl (runs_none rfl) (pickT_s rfl rfl rfl) ?_ | refine ops_op rfl rfl (runs_none rfl) (pickF_s rfl rfl rfl) ?_ | refine ops_op rfl rfl (runs_none rfl) (does_pickT rfl rfl rfl) ?_ | refine ops_op rfl rfl (runs_none rfl) (does_pickF rfl rfl rfl) ?_
              refine ops_nil ?_
              repeat (first | refine aw_seq ?_ | refine ath_n ?_ | refine aw_skip ?_ | refine abl_n ?_ | refine aw_block ?_)
              refine aw_false rfl ?_
              (refine aw_exit ?_; repeat (first | refine ath_x ?_ | refine abl_hit ?_ | refine abl_miss rfl ?_ | refine abl_n ?_ | refine ath_n ?_ | refine aw_seq ?_ | refine aw_skip ?_ | refine aw_block ?_))
              refine aw_region ?_
              refine ops_op rfl rfl (runs_none rfl) (mv_s (.inl rfl) rfl) ?_
              refine ops_op rfl rfl (runs_none rfl) (does_add rfl rfl rfl (IntWalk.i64_in _ (by omega))) ?_
              refine ops_op rfl rfl (runs_none rfl) (mv_s (.inr rfl) rfl) ?_
              refine ops_nil ?_
              repeat (first | refine aw_seq ?_ | refine ath_n ?_ | refine aw_skip ?_ | refine abl_n ?_ | refine aw_block ?_)
              rw [← hT] at *
              exact ⟨(qT, i + 1), ⟨by dsimp only; omega, by dsimp only; omega, by dsimp only; omega, hQT, HI1⟩, by dsimp only; omega, wk_sub _ ⟨rfl, rfl, rfl, rfl, rfl, trivial⟩⟩
          · have hT := hend (.inl (by omega))
            refine aw_region ?_
            refine ops_op rfl rfl (runs_none rfl) (mv_s (.inl rfl) rfl) ?_
            first | refine ops_op rfl rfl (runs_none rfl) (does_fieldAddr_ptr rfl tf24_1 (by decide) rfl) ?_ | refine ops_op rfl rfl (runs_none rfl) (does_fieldAddr_ref rfl tf24_1 (by decide) rfl) ?_
            first | refine ops_op rfl rfl (runs_none rfl) (does_load_ref rfl ta22 rfl) ?_ | refine ops_op rfl rfl (runs_none rfl) (does_load_ptr rfl ta22 rfl rfl rfl rfl rfl) ?_
            first | refine ops_op rfl rfl (runs_none rfl) (does_len_map rfl ts22 rfl) ?_ | refine ops_op rfl rfl (runs_none rfl) (does_len_sl rfl ts22 rfl) ?_ | refine ops_op rfl rfl (runs_none rfl) (does_len_own rfl ts22 rfl) ?_ | refine ops_op rfl rfl (runs_none rfl) (does_len_s rfl ts22 rfl) ?_ | refine ops_op rfl rfl (runs_none rfl) (does_len_emp rfl ts22 rfl) ?_
            refine ops_op rfl rfl (runs_none rfl) (dec_f (by omega) (does_lss rfl rfl rfl)) ?_
            refine ops_op rfl rfl (runs_none rfl) (mv_s (.inl rfl) rfl) ?_
            first | refine ops_op rfl rfl (runs_y rfl rfl rfl) (mv_own (.inl rfl) rfl) ?_ | refine ops_op rfl rfl (runs_y rfl rfl rfl) (mv_sl (.inl rfl) rfl) ?_ | refine ops_op rfl rfl (runs_y rfl rfl rfl) (mv_s (.inl rfl) rfl) ?_ | refine ops_op rfl rfl (runs_y rfl rfl rfl) (mv_emp (.inl rfl) rfl) ?_ | refine ops_skip rfl rfl (runs_nt rfl rfl rfl) ?_ | refine ops_skip rfl rfl (runs_nu rfl rfl rfl) ?_
            first | refine ops_op rfl rfl (runs_y rfl rfl rfl) (does_len_map rfl ts95 rfl) ?_ | refine ops_op rfl rfl (runs_y rfl rfl rfl) (does_len_sl rfl ts95 rfl) ?_ | refine ops_op rfl rfl (runs_y rfl rfl rfl) (does_len_own rfl ts95 rfl) ?_ | refine ops_op rfl rfl (runs_y rfl rfl rfl) (does_len_s rfl ts95 rfl) ?_ | refine ops_op rfl rfl (runs_y rfl rfl rfl) (does_len_emp rfl ts95 rfl) ?_ | refine ops_skip rfl rfl (runs_nt rfl rfl rfl) ?_ | refine ops_skip rfl rfl (runs_nu rfl rfl rfl) ?_
            first | refine ops_op rfl rfl (runs_y rfl rfl rfl) (mv_s (.inl rfl) rfl) ?_ | refine ops_skip rfl rfl (runs_nt rfl rfl rfl) ?_ | refine ops_skip rfl rfl (runs_nu rfl rfl rfl) ?_
            first | refine ops_op rfl rfl (runs_y rfl rfl rfl) (does_leq rfl rfl rfl) ?_ | refine ops_skip rfl rfl (runs_nt rfl rfl rfl) ?_ | refine ops_skip rfl rfl (runs_nu rfl rfl rfl) ?_
            first | refine ops_op rfl rfl (runs_none rfl) (pickT_s rfl rfl rfl) ?_ | refine ops_op rfl rfl (runs_none rfl) (pickF_s rfl rfl rfl) ?_ | refine ops_op rfl rfl (runs_none rfl) (does_pickT rfl rfl rfl) ?_ | refine ops_op rfl rfl (runs_none rfl) (does_pickF rfl rfl rfl) ?_
            refine ops_nil ?_
            repeat (first | refine aw_seq ?_ | refine ath_n ?_ | refine aw_skip ?_ | refine abl_n ?_ | refine aw_block ?_)
            refine aw_false rfl ?_
            (refine aw_exit ?_; repeat (first | refine ath_x ?_ | refine abl_hit ?_ | refine abl_miss rfl ?_ | refine abl_n ?_ | refine ath_n ?_ | refine aw_seq ?_ | refine aw_skip ?_ | refine aw_block ?_))
            refine aw_region ?_
            refine ops_op rfl rfl (runs_none rfl) (mv_s (.inl rfl) rfl) ?_
            refine ops_op rfl rfl (runs_none rfl) (does_add rfl rfl rfl (IntWalk.i64_in _ (by omega))) ?_
            refine ops_op rfl rfl (runs_none rfl) (mv_s (.inr rfl) rfl) ?_
            refine ops_nil ?_
            repeat (first | refine aw_seq ?_ | refine ath_n ?_ | refine aw_skip ?_ | refine abl_n ?_ | refine aw_block ?_)
            rw [← hT] at *
            exact ⟨(qT, i + 1), ⟨by dsimp only; omega, by dsimp only; omega, by dsimp only; omega, hQT, HI1⟩, by dsimp only; omega, wk_sub _ ⟨rfl, rfl, rfl, rfl, rfl, trivial⟩⟩
      · have HE : FitsE n w most = (false, [], if most < q.length then 13 else 0) := by
          rw [HI, show most.toNat + 1 - i = (most.toNat - i) + 1 by omega, srchF, if_neg (by omega)]
        refine aw_region ?_
        refine ops_op rfl rfl (runs_none rfl) (mv_s (.inl rfl) rfl) ?_
        first | refine ops_op rfl rfl (runs_none rfl) (mv_own (.inl rfl) rfl) ?_ | refine ops_op rfl rfl (runs_none rfl) (mv_sl (.inl rfl) rfl) ?_ | refine ops_op rfl rfl (runs_none rfl) (mv_s (.inl rfl) rfl) ?_ | refine ops_op rfl rfl (runs_none rfl) (mv_emp (.inl rfl) rfl) ?_
        first | refine ops_op rfl rfl (runs_none rfl) (does_len_map rfl ts95 rfl) ?_ | refine ops_op rfl rfl (runs_none rfl) (does_len_sl rfl ts95 rfl) ?_ | refine ops_op rfl rfl (runs_none rfl) (does_len_own rfl ts95 rfl) ?_ | refine ops_op rfl rfl (runs_none rfl) (does_len_s rfl ts95 rfl) ?_ | refine ops_op rfl rfl (runs_none rfl) (does_len_emp rfl ts95 rfl) ?_
        refine ops_op rfl rfl (runs_none rfl) (dec_t (by omega) (does_lss rfl rfl rfl)) ?_
        refine ops_op rfl rfl (runs_none rfl) (mv_s (.inl rfl) rfl) ?_
        first | refine ops_op rfl rfl (runs_y rfl rfl rfl) (mv_s (.inl rfl) rfl) ?_ | refine ops_skip rfl rfl (runs_nt rfl rfl rfl) ?_ | refine ops_skip rfl rfl (runs_nu rfl rfl rfl) ?_
        first | refine ops_op rfl rfl (runs_y rfl rfl rfl) (mv_s (.inl rfl) rfl) ?_ | refine ops_skip rfl rfl (runs_nt rfl rfl rfl) ?_ | refine ops_skip rfl rfl (runs_nu rfl rfl rfl) ?_
        first | refine ops_op rfl rfl (runs_y rfl rfl rfl) (dec_f hm (does_lss rfl rfl rfl)) ?_ | refine ops_skip rfl rfl (runs_nt rfl rfl rfl) ?_ | refine ops_skip rfl rfl (runs_nu rfl rfl rfl) ?_
        first | refine ops_op rfl rfl (runs_none rfl) (pickT_s rfl rfl rfl) ?_ | refine ops_op rfl rfl (runs_none rfl) (pickF_s rfl rfl rfl) ?_ | refine ops_op rfl rfl (runs_none rfl) (does_pickT rfl rfl rfl) ?_ | refine ops_op rfl rfl (runs_none rfl) (does_pickF rfl rfl rfl) ?_
        refine ops_nil ?_
        repeat (first | refine aw_seq ?_ | refine ath_n ?_ | refine aw_skip ?_ | refine abl_n ?_ | refine aw_block ?_)
        refine aw_false rfl ?_
        (refine aw_exit ?_; repeat (first | refine ath_x ?_ | refine abl_hit ?_ | refine abl_miss rfl ?_ | refine abl_n ?_ | refine ath_n ?_ | refine aw_seq ?_ | refine aw_skip ?_ | refine aw_block ?_))
        refine aw_region ?_
        first | refine ops_op rfl rfl (runs_none rfl) (mv_own (.inl rfl) rfl) ?_ | refine ops_op rfl rfl (runs_none rfl) (mv_sl (.inl rfl) rfl) ?_ | refine ops_op rfl rfl (runs_none rfl) (mv_s (.inl rfl) rfl) ?_ | refine ops_op rfl rfl (runs_none rfl) (mv_emp (.inl rfl) rfl) ?_
        first | refine ops_op rfl rfl (runs_none rfl) (does_len_map rfl ts95 rfl) ?_ | refine ops_op rfl rfl (runs_none rfl) (does_len_sl rfl ts95 rfl) ?_ | refine ops_op rfl rfl (runs_none rfl) (does_len_own rfl ts95 rfl) ?_ | refine ops_op rfl rfl (runs_none rfl) (does_len_s rfl ts95 rfl) ?_ | refine ops_op rfl rfl (runs_none rfl) (does_len_emp rfl ts95 rfl) ?_
        refine ops_op rfl rfl (runs_none rfl) (mv_s (.inl rfl) rfl) ?_
        refine ops_op rfl rfl (runs_none rfl) (does_gtr rfl rfl rfl) ?_
        refine ops_nil ?_
        repeat (first | refine aw_seq ?_ | refine ath_n ?_ | refine aw_skip ?_ | refine abl_n ?_ | refine aw_block ?_)
        refine aw_if rfl (fun h => ?_) (fun h => ?_)
        · rw [if_pos (by omega)] at HE
          repeat (first | refine aw_seq ?_ | refine ath_n ?_ | refine aw_skip ?_ | refine abl_n ?_ | refine aw_block ?_)
          refine aw_region ?_
          refine ops_op rfl rfl (runs_none rfl) (mv_s (.inr rfl) rfl) ?_
          first | refine ops_op rfl rfl (runs_none rfl) (mv_own (.inr rfl) rfl) ?_ | refine ops_op rfl rfl (runs_none rfl) (mv_sl (.inr rfl) rfl) ?_ | refine ops_op rfl rfl (runs_none rfl) (mv_s (.inr rfl) rfl) ?_ | refine ops_op rfl rfl (runs_none rfl) (mv_emp (.inr rfl) rfl) ?_
          refine ops_op rfl rfl (runs_none rfl) (mv_s (.inr rfl) rfl) ?_
          refine ops_nil ?_
          repeat (first | refine aw_seq ?_ | refine ath_n ?_ | refine aw_skip ?_ | refine abl_n ?_ | refine aw_block ?_)
          (refine aw_ret ?_; repeat (first | refine ath_r ?_ | refine abl_r ?_))
          rw [HE]
          exact post3 (.inr rfl) rfl rfl rfl (.refl _) .nil (.refl _)
        · rw [if_neg (by omega)] at HE
          repeat (first | refine aw_seq ?_ | refine ath_n ?_ | refine aw_skip ?_ | refine abl_n ?_ | refine aw_block ?_)
          refine aw_region ?_
          refine ops_op rfl rfl (runs_none rfl) (mv_s (.inr rfl) rfl) ?_
          first | refine ops_op rfl rfl (runs_none rfl) (mv_own (.inr rfl) rfl) ?_ | refine ops_op rfl rfl (runs_none rfl) (mv_sl (.inr rfl) rfl) ?_ | refine ops_op rfl rfl (runs_none rfl) (mv_s (.inr rfl) rfl) ?_ | refine ops_op rfl rfl (runs_none rfl) (mv_emp (.inr rfl) rfl) ?_
          refine ops_op rfl rfl (runs_none rfl) (mv_s (.inr rfl) rfl) ?_
          refine ops_nil ?_
          repeat (first | refine aw_seq ?_ | refine ath_n ?_ | refine aw_skip ?_ | refine abl_n ?_ | refine aw_block ?_)
          (refine aw_ret ?_; repeat (first | refine ath_r ?_ | refine abl_r ?_))
          rw [HE]
          exact post3 (.inr rfl) rfl rfl rfl (.refl _) .nil (.refl _)
    · have HE : FitsE n w most = (false, [], if most < q.length then 13 else 0) := by
        rw [HI, show most.toNat + 1 - i = (most.toNat - i) + 1 by omega, srchF, if_neg (by omega)]
      refine aw_region ?_
      refine ops_op rfl rfl (runs_none rfl) (mv_s (.inl rfl) rfl) ?_
      first | refine ops_op rfl rfl (runs_none rfl) (mv_own (.inl rfl) rfl) ?_ | refine ops_op rfl rfl (runs_none rfl) (mv_sl (.inl rfl) rfl) ?_ | refine ops_op rfl rfl (runs_none rfl) (mv_s (.inl rfl) rfl) ?_ | refine ops_op rfl rfl (runs_none rfl) (mv_emp (.inl rfl) rfl) ?_
      first | refine ops_op rfl rfl (runs_none rfl) (does_len_map rfl ts95 rfl) ?_ | refine ops_op rfl rfl (runs_none rfl) (does_len_sl rfl ts95 rfl) ?_ | refine ops_op rfl rfl (runs_none rfl) (does_len_own rfl ts95 rfl) ?_ | refine ops_op rfl rfl (runs_none rfl) (does_len_s rfl ts95 rfl) ?_ | refine ops_op rfl rfl (runs_none rfl) (does_len_emp rfl ts95 rfl) ?_
      refine ops_op rfl rfl (runs_none rfl) (dec_f (by omega) (does_lss rfl rfl rfl)) ?_
      refine ops_op rfl rfl (runs_none rfl) (mv_s (.inl rfl) rfl) ?_
      first | refine ops_op rfl rfl (runs_y rfl rfl rfl) (mv_s (.inl rfl) rfl) ?_ | refine ops_skip rfl rfl (runs_nt rfl rfl rfl) ?_ | refine ops_skip rfl rfl (runs_nu rfl rfl rfl) ?_
      first | refine ops_op rfl rfl (runs_y rfl rfl rfl) (mv_s (.inl rfl) rfl) ?_ | refine ops_skip rfl rfl (runs_nt rfl rfl rfl) ?_ | refine ops_skip rfl rfl (runs_nu rfl rfl rfl) ?_
      first | refine ops_op rfl rfl (runs_y rfl rfl rfl) (does_lss rfl rfl rfl) ?_ | refine ops_skip rfl rfl (runs_nt rfl rfl rfl) ?_ | refine ops_skip rfl rfl (runs_nu rfl rfl rfl) ?_
      first | refine ops_op rfl rfl (runs_none rfl) (pickT_s rfl rfl rfl) ?_ | refine ops_op rfl rfl (runs_none rfl) (pickF_s rfl rfl rfl) ?_ | refine ops_op rfl rfl (runs_none rfl) (does_pickT rfl rfl rfl) ?_ | refine ops_op rfl rfl (runs_none rfl) (does_pickF rfl rfl rfl) ?_
      refine ops_nil ?_
      repeat (first | refine aw_seq ?_ | refine ath_n ?_ | refine aw_skip ?_ | refine abl_n ?_ | refine aw_block ?_)
      refine aw_false rfl ?_
      (refine aw_exit ?_; repeat (first | refine ath_x ?_ | refine abl_hit ?_ | refine abl_miss rfl ?_ | refine abl_n ?_ | refine ath_n ?_ | refine aw_seq ?_ | refine aw_skip ?_ | refine aw_block ?_))
      refine aw_region ?_
      first | refine ops_op rfl rfl (runs_none rfl) (mv_own (.inl rfl) rfl) ?_ | refine ops_op rfl rfl (runs_none rfl) (mv_sl (.inl rfl) rfl) ?_ | refine ops_op rfl rfl (runs_none rfl) (mv_s (.inl rfl) rfl) ?_ | refine ops_op rfl rfl (runs_none rfl) (mv_emp (.inl rfl) rfl) ?_
      first | refine ops_op rfl rfl (runs_none rfl) (does_len_map rfl ts95 rfl) ?_ | refine ops_op rfl rfl (runs_none rfl) (does_len_sl rfl ts95 rfl) ?_ | refine ops_op rfl rfl (runs_none rfl) (does_len_own rfl ts95 rfl) ?_ | refine ops_op rfl rfl (runs_none rfl) (does_len_s rfl ts95 rfl) ?_ | refine ops_op rfl rfl (runs_none rfl) (does_len_emp rfl ts95 rfl) ?_
      refine ops_op rfl rfl (runs_none rfl) (mv_s (.inl rfl) rfl) ?_
      refine ops_op rfl rfl (runs_none rfl) (does_gtr rfl rfl rfl) ?_
      refine ops_nil ?_
      repeat (first | refine aw_seq ?_ | refine ath_n ?_ | refine aw_skip ?_ | refine abl_n ?_ | refine aw_block ?_)
      refine aw_if rfl (fun h => ?_) (fun h => ?_)
      · rw [if_pos (by omega)] at HE
        repeat (first | refine aw_seq ?_ | refine ath_n ?_ | refine aw_skip ?_ | refine abl_n ?_ | refine aw_block ?_)
        refine aw_region ?_
        refine ops_op rfl rfl (runs_none rfl) (mv_s (.inr rfl) rfl) ?_
        first | refine ops_op rfl rfl (runs_none rfl) (mv_own (.inr rfl) rfl) ?_ | refine ops_op rfl rfl (runs_none rfl) (mv_sl (.inr rfl) rfl) ?_ | refine ops_op rfl rfl (runs_none rfl) (mv_s (.inr rfl) rfl) ?_ | refine ops_op rfl rfl (runs_none rfl) (mv_emp (.inr rfl) rfl) ?_
        refine ops_op rfl rfl (runs_none rfl) (mv_s (.inr rfl) rfl) ?_
        refine ops_nil ?_
        repeat (first | refine aw_seq ?_ | refine ath_n ?_ | refine aw_skip ?_ | refine abl_n ?_ | refine aw_block ?_)
        (refine aw_ret ?_; repeat (first | refine ath_r ?_ | refine abl_r ?_))
        rw [HE]
        exact post3 (.inr rfl) rfl rfl rfl (.refl _) .nil (.refl _)
      · rw [if_neg (by omega)] at HE
        repeat (first | refine aw_seq ?_ | refine ath_n ?_ | refine aw_skip ?_ | refine abl_n ?_ | refine aw_block ?_)
        refine aw_region ?_
        refine ops_op rfl rfl (runs_none rfl) (mv_s (.inr rfl) rfl) ?_
        first | refine ops_op rfl rfl (runs_none rfl) (mv_own (.inr rfl) rfl) ?_ | refine ops_op rfl rfl (runs_none rfl) (mv_sl (.inr rfl) rfl) ?_ | refine ops_op rfl rfl (runs_none rfl) (mv_s (.inr rfl) rfl) ?_ | refine ops_op rfl rfl (runs_none rfl) (mv_emp (.inr rfl) rfl) ?_
        refine ops_op rfl rfl (runs_none rfl) (mv_s (.inr rfl) rfl) ?_
        refine ops_nil ?_
        repeat (first | refine aw_seq ?_ | refine ath_n ?_ | refine aw_skip ?_ | refine abl_n ?_ | refine aw_block ?_)
        (refine aw_ret ?_; repeat (first | refine ath_r ?_ | refine abl_r ?_))
        rw [HE]
        exact post3 (.inr rfl) rfl rfl rfl (.refl _) .nil (.refl _)
end Go.Proofs.Ytmhbfoaecebobaa.Aw
end
