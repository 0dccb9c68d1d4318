/-
  Texts joined: Sr. Conditions: none.
-/
import Derived.Test.YtmhbfoaecebobaaJP18
section
namespace Go.Proofs.Ytmhbfoaecebobaa.Aw
set_option linter.unusedSimpArgs false
set_option linter.unusedVariables false
open Go.RowKit Go.Proofs
variable {P : Program} [IsP P]

def eO (r : Option (List Int)) : AV := .tup [eL eI (r.getD []), eB r.isSome]
abbrev srF (n : Net) (act : ByteArray) (q : List Nd) (i : Nat) : Frm := [(2, eS act), (3, .ref (eN n).cells), (8, .own 0 1 q.length), (9, .own 1 1 q.length), (10, eI i)]
abbrev srS (q : List Nd) : List Ob := [.row 1 (q.map fun x => eL eI x.m), .row 1 (q.map fun x => eL eI x.run)]
theorem ix_own {α : Type} [Inhabited α] {f : α → AV} {l : List α} {k : Nat} (h : k < l.length) : (l.map f)[k]? = some (f (gti l k)) := ix_map h
abbrev eBA : ByteArray := { data := #[] }
theorem has_pf' (q : List Nd) (m : List Int) : Pure P 79 [.sl (q.map fun x => eL eI x.m), eL eI m] (eB (decide (m ∈ q.map Nd.m))) := by
  have := has_pf (P := P) (q.map Nd.m) m
  unfold eL at this ⊢
  rwa [List.map_map] at this
theorem empty_iff (s : ByteArray) : s.toList.isEmpty = decide (s = eBA) := by
  rw [ByteArray.toList_eq, Bool.eq_iff_iff, List.isEmpty_iff, decide_eq_true_eq]
  constructor
  · intro h; exact ByteArray.ext (Array.toList_inj.1 h)
  · intro h; subst h; rfl
set_option maxHeartbeats 4000000 in
theorem search_pf (n : Net) (m : List Int) (act : ByteArray) (good : List Int → Bool) (hmk : markB n m = true) (hval : validB n = true)
    (hgood : ∀ x, markB n x = true → good x = if act = eBA then goodF n x else goodA n act x) :
    Pure P 33 [eN n, eL eI m, eS act] (eO (silE n good m)) := by
  obtain ⟨ks, hks⟩ : ∃ k : Nat, n.sink = k := ⟨n.sink.toNat, by have := (validB_ends hval).2; omega⟩
  have hksn : (ks : Int) < n.places := by have := (validB_ends hval).2; omega
  have hpl := validB_places hval
  refine aw_fn (by rw [IsP.eq (P := P)]; exact Try.func33) rfl rfl rfl rfl rfl (by repeat' (first | exact Lo.s _ | exact Lo.emp | exact Lo.any | exact lo_nil | exact lo_nilE | refine lo_cons ?_ ?_ | refine lo_consE ?_ ?_ | refine lo_map ?_ | refine lo_mapE ?_ | refine Lo.cells ?_ | refine Lo.agg _ ?_ | refine Lo.ref _ ?_ | refine Lo.tup _ ?_ | refine Lo.fn _ _ ?_ | refine Lo.sl _ ?_ | intro _)) (by repeat' (first | exact Lo.s _ | exact Lo.emp | exact Lo.any | exact lo_nil | exact lo_nilE | refine lo_cons ?_ ?_ | refine lo_consE ?_ ?_ | refine lo_map ?_ | refine lo_mapE ?_ | refine Lo.cells ?_ | refine Lo.agg _ ?_ | refine Lo.ref _ ?_ | refine Lo.tup _ ?_ | refine Lo.fn _ _ ?_ | refine Lo.sl _ ?_ | intro _)) (by simp only [argF]; rfl) ?_
  repeat (first | refine aw_seq ?_ | refine ath_n ?_ | refine aw_skip ?_ | refine abl_n ?_ | refine aw_block ?_)
  refine aw_region ?_
  refine ops_op rfl rfl (runs_none rfl) (does_box rfl rfl rfl rfl) ?_
  refine aops_weak (wk_froz (id := 0) rfl) (aops_weak (wk_ref (d := 3) rfl rfl rfl) ?_)
  first | refine ops_op rfl rfl (runs_none rfl) (mv_own (.inr rfl) rfl) ?_ | refine ops_op rfl rfl (runs_none rfl) (mv_sl (.inr rfl) rfl) ?_ | refine ops_op rfl rfl (runs_none rfl) (mv_s (.inr rfl) rfl) ?_ | refine ops_op rfl rfl (runs_none rfl) (mv_emp (.inr rfl) rfl) ?_
  refine ops_op rfl rfl (runs_none rfl) (mv_s (.inr rfl) rfl) ?_
  refine ops_nil ?_
  repeat (first | refine aw_seq ?_ | refine ath_n ?_ | refine aw_skip ?_ | refine abl_n ?_ | refine aw_block ?_)
  refine aw_region ?_
  first | refine ops_op rfl rfl (runs_none rfl) (mv_own (.inl rfl) rfl) ?_ | refine ops_op rfl rfl (runs_none rfl) (mv_sl (.inl rfl) rfl) ?_ | refine ops_op rfl rfl (runs_none rfl) (mv_s (.inl rfl) rfl) ?_ | refine ops_op rfl rfl (runs_none rfl) (mv_emp (.inl rfl) rfl) ?_
  first | refine ops_op rfl rfl (runs_none rfl) (lit1_s rfl ts101 ti30 rfl rfl rfl rfl) ?_ | refine ops_op rfl rfl (runs_none rfl) (lit1_sl rfl ts101 ti30 rfl rfl rfl rfl) ?_ | refine ops_op rfl rfl (runs_none rfl) (does_litA rfl ts101 ti30 rfl rfl (by decide) (by decide) rfl rfl rfl) ?_
  first | refine ops_op rfl rfl (runs_none rfl) (mv_own (.inr rfl) rfl) ?_ | refine ops_op rfl rfl (runs_none rfl) (mv_sl (.inr rfl) rfl) ?_ | refine ops_op rfl rfl (runs_none rfl) (mv_s (.inr rfl) rfl) ?_ | refine ops_op rfl rfl (runs_none rfl) (mv_emp (.inr rfl) rfl) ?_
  refine ops_nil ?_
  repeat (first | refine aw_seq ?_ | refine ath_n ?_ | refine aw_skip ?_ | refine abl_n ?_ | refine aw_block ?_)
  refine aw_region ?_
  first | refine ops_op rfl rfl (runs_none rfl) (lit1_s rfl ts101 ti30 rfl rfl rfl rfl) ?_ | refine ops_op rfl rfl (runs_none rfl) (lit1_sl rfl ts101 ti30 rfl rfl rfl rfl) ?_ | refine ops_op rfl rfl (runs_none rfl) (does_litA rfl ts101 ti30 rfl rfl (by decide) (by decide) rfl rfl rfl) ?_
  first | refine ops_op rfl rfl (runs_none rfl) (mv_own (.inr rfl) rfl) ?_ | refine ops_op rfl rfl (runs_none rfl) (mv_sl (.inr rfl) rfl) ?_ | refine ops_op rfl rfl (runs_none rfl) (mv_s (.inr rfl) rfl) ?_ | refine ops_op rfl rfl (runs_none rfl) (mv_emp (.inr rfl) rfl) ?_
  refine ops_nil ?_
  repeat (first | refine aw_seq ?_ | refine ath_n ?_ | refine aw_skip ?_ | refine abl_n ?_ | refine aw_block ?_)
  refine aw_region ?_
  refine ops_op rfl rfl (runs_none rfl) (mv_s (.inr rfl) rfl) ?_
  refine ops_nil ?_
  repeat (first | refine aw_seq ?_ | refine ath_n ?_ | refine aw_skip ?_ | refine abl_n ?_ | refine aw_block ?_)
  refine aw_weak (wk_cv (id := 2) (cs' := [eL eI []]) rfl rfl (cv1 .nil)) ?_
  refine aw_loops (S := List Nd × Nat) (fun s => srF n act s.1 s.2) (fun s => srS s.1) (fun s => s.2 ≤ s.1.length ∧ QI n m s.1 ∧ silE n good m = srch n good (201 - s.2) s.2 s.1) (fun s => 201 - s.2) ([⟨0, m, []⟩], 0)
    (wk_st [1, 2] (by decide) ⟨⟨_, rfl, .row 1 [eL eI m] (by repeat' (first | exact Lo.s _ | exact Lo.emp | exact Lo.any | exact lo_nil | exact lo_nilE | refine lo_cons ?_ ?_ | refine lo_consE ?_ ?_ | refine lo_map ?_ | refine lo_mapE ?_ | refine Lo.cells ?_ | refine Lo.agg _ ?_ | refine Lo.ref _ ?_ | refine Lo.tup _ ?_ | refine Lo.fn _ _ ?_ | refine Lo.sl _ ?_ | intro _))⟩, ⟨_, rfl, .row 1 [eL eI []] (by repeat' (first | exact Lo.s _ | exact Lo.emp | exact Lo.any | exact lo_nil | exact lo_nilE | refine lo_cons ?_ ?_ | refine lo_consE ?_ ?_ | refine lo_map ?_ | refine lo_mapE ?_ | refine Lo.cells ?_ | refine Lo.agg _ ?_ | refine Lo.ref _ ?_ | refine Lo.tup _ ?_ | refine Lo.fn _ _ ?_ | refine Lo.sl _ ?_ | intro _))⟩, trivial⟩ ⟨.lo _ (by repeat' (first | exact Lo.s _ | exact Lo.emp | exact Lo.any | exact lo_nil | exact lo_nilE | refine lo_cons ?_ ?_ | refine lo_consE ?_ ?_ | refine lo_map ?_ | refine lo_mapE ?_ | refine Lo.cells ?_ | refine Lo.agg _ ?_ | refine Lo.ref _ ?_ | refine Lo.tup _ ?_ | refine Lo.fn _ _ ?_ | refine Lo.sl _ ?_ | intro _)), .lo _ (by repeat' (first | exact Lo.s _ | exact Lo.emp | exact Lo.any | exact lo_nil | exact lo_nilE | refine lo_cons ?_ ?_ | refine lo_consE ?_ ?_ | refine lo_map ?_ | refine lo_mapE ?_ | refine Lo.cells ?_ | refine Lo.agg _ ?_ | refine Lo.ref _ ?_ | refine Lo.tup _ ?_ | refine Lo.fn _ _ ?_ | refine Lo.sl _ ?_ | intro _)), .own 1 0 1 1 _ rfl rfl, .own 2 1 1 1 _ rfl rfl, .lo _ (by repeat' (first | exact Lo.s _ | exact Lo.emp | exact Lo.any | exact lo_nil | exact lo_nilE | refine lo_cons ?_ ?_ | refine lo_consE ?_ ?_ | refine lo_map ?_ | refine lo_mapE ?_ | refine Lo.cells ?_ | refine Lo.agg _ ?_ | refine Lo.ref _ ?_ | refine Lo.tup _ ?_ | refine Lo.fn _ _ ?_ | refine Lo.sl _ ?_ | intro _)), trivial⟩) ⟨Nat.zero_le _, QI.init hmk, rfl⟩ ?_
  rintro ⟨q, i⟩ ⟨hil, HQ, HI⟩
  dsimp only at hil HQ HI ⊢
  have hql := HQ.len
  repeat (first | refine aw_seq ?_ | refine ath_n ?_ | refine aw_skip ?_ | refine abl_n ?_ | refine aw_block ?_)
  refine aw_region ?_
  refine ops_op rfl rfl (runs_none rfl) (mv_s (.inl rfl) rfl) ?_
  first | refine ops_op rfl rfl (runs_none rfl) (mv_own (.inl rfl) rfl) ?_ | refine ops_op rfl rfl (runs_none rfl) (mv_sl (.inl rfl) rfl) ?_ | refine ops_op rfl rfl (runs_none rfl) (mv_s (.inl rfl) rfl) ?_ | refine ops_op rfl rfl (runs_none rfl) (mv_emp (.inl rfl) rfl) ?_
  first | refine ops_op rfl rfl (runs_none rfl) (does_len_map rfl ts101 rfl) ?_ | refine ops_op rfl rfl (runs_none rfl) (does_len_sl rfl ts101 rfl) ?_ | refine ops_op rfl rfl (runs_none rfl) (does_len_own rfl ts101 rfl) ?_ | refine ops_op rfl rfl (runs_none rfl) (does_len_s rfl ts101 rfl) ?_ | refine ops_op rfl rfl (runs_none rfl) (does_len_emp rfl ts101 rfl) ?_
  refine ops_op rfl rfl (runs_none rfl) (does_lss rfl rfl rfl) ?_
  refine ops_nil ?_
  repeat (first | refine aw_seq ?_ | refine ath_n ?_ | refine aw_skip ?_ | refine abl_n ?_ | refine aw_block ?_)
  refine aw_if rfl (fun h => ?_) (fun h => ?_)
  · have hlt : i < q.length := by omega
    obtain ⟨hxm, hxr, hxt⟩ := HQ.at_ i hlt
    have hxl := markB_len hxm
    have HS1 : silE n good m = if good (gti q i).m then some (gti q i).run else srch n good (201 - (i + 1)) (i + 1) (roundS n (gti q i) q n.trans.length) := by
      rw [HI]
      have e : 201 - i = (201 - (i + 1)) + 1 := by omega
      rw [e, srch, if_pos hlt]
    have hks1 : ks < (gti q i).m.length := by omega
    have hnn : ∀ j, 0 ≤ gti (gti q i).m j := fun j => by have := markB_small hxm; exact (mark2B_at (n := n) (by have := hxm; unfold markB at this; simp only [Bool.and_eq_true] at this; exact this.2) j).1
    have hin := InOk.of hval hxl.2.2
    have hg := hgood _ hxm
    -- the test
    obtain ⟨z, hz⟩ : ∃ z, good (gti q i).m = z := ⟨_, rfl⟩
    rw [hz] at hg HS1
    repeat (first | refine aw_seq ?_ | refine ath_n ?_ | refine aw_skip ?_ | refine abl_n ?_ | refine aw_block ?_)
    refine aw_cuts (S := Unit) (fun _ => (49, eB z) :: srF n act q i) (fun _ => srS q) (fun _ => True) ?_ (fun _ _ => ?_)
    · by_cases hact : act = eBA
      · rw [if_pos hact] at hg
        unfold goodF at hg
        rw [hks, Int.toNat_natCast] at hg
        by_cases hpos : 0 < gti (gti q i).m ks
        · rw [decide_eq_true hpos] at hg
          refine aw_draw hmix ?_
          refine adraw_quiet (by kernel_rfl) ?_
          refine qx_op rfl rfl (runs_none rfl) (mv_s (.inl rfl) rfl) ?_
          refine qx_op rfl rfl (runs_none rfl) (dec_t hact (does_eqs rfl rfl rfl)) ?_
          refine qx_op rfl rfl (runs_none rfl) (mv_s (.inl rfl) rfl) ?_
          first | refine qx_op rfl rfl (runs_y rfl rfl rfl) (mv_own (.inl rfl) rfl) ?_ | refine qx_op rfl rfl (runs_y rfl rfl rfl) (mv_sl (.inl rfl) rfl) ?_ | refine qx_op rfl rfl (runs_y rfl rfl rfl) (mv_s (.inl rfl) rfl) ?_ | refine qx_op rfl rfl (runs_y rfl rfl rfl) (mv_emp (.inl rfl) rfl) ?_ | refine qx_skip rfl rfl (runs_nt rfl rfl rfl) ?_ | refine qx_skip rfl rfl (runs_nu rfl rfl rfl) ?_
          first | refine qx_op rfl rfl (runs_y rfl rfl rfl) (mv_s (.inl rfl) rfl) ?_ | refine qx_skip rfl rfl (runs_nt rfl rfl rfl) ?_ | refine qx_skip rfl rfl (runs_nu rfl rfl rfl) ?_
          first | refine qx_op rfl rfl (runs_y rfl rfl rfl) (does_index_sl rfl ts101 ti30 rfl rfl rfl (ix_map (by omega)) rfl) ?_ | refine qx_op rfl rfl (runs_y rfl rfl rfl) (does_index_own rfl ts101 ti30 rfl rfl rfl (by omega)) ?_ | refine qx_skip rfl rfl (runs_nt rfl rfl rfl) ?_ | refine qx_skip rfl rfl (runs_nu rfl rfl rfl) ?_
          first | refine qx_op rfl rfl (runs_y rfl rfl rfl) (does_load_ref rfl ta30 rfl) ?_ | refine qx_op rfl rfl (runs_y rfl rfl rfl) (does_load_ptr rfl ta30 rfl rfl rfl (ix_map hlt) rfl) ?_ | refine qx_skip rfl rfl (runs_nt rfl rfl rfl) ?_ | refine qx_skip rfl rfl (runs_nu rfl rfl rfl) ?_
          first | refine qx_op rfl rfl (runs_y rfl rfl rfl) (does_fieldAddr_ptr rfl tf24_3 (by decide) rfl) ?_ | refine qx_op rfl rfl (runs_y rfl rfl rfl) (does_fieldAddr_ref rfl tf24_3 (by decide) rfl) ?_ | refine qx_skip rfl rfl (runs_nt rfl rfl rfl) ?_ | refine qx_skip rfl rfl (runs_nu rfl rfl rfl) ?_
          first | refine qx_op rfl rfl (runs_y rfl rfl rfl) (does_load_ref rfl ta3 rfl) ?_ | refine qx_op rfl rfl (runs_y rfl rfl rfl) (does_load_ptr rfl ta3 rfl rfl rfl rfl rfl) ?_ | refine qx_skip rfl rfl (runs_nt rfl rfl rfl) ?_ | refine qx_skip rfl rfl (runs_nu rfl rfl rfl) ?_
          first | refine qx_op rfl rfl (runs_y rfl rfl rfl) (does_index_sl rfl ts30 ti3 rfl rfl hks (ix_map hks1) rfl) ?_ | refine qx_op rfl rfl (runs_y rfl rfl rfl) (does_index_own rfl ts30 ti3 rfl rfl hks (ix_map hks1)) ?_ | refine qx_skip rfl rfl (runs_nt rfl rfl rfl) ?_ | refine qx_skip rfl rfl (runs_nu rfl rfl rfl) ?_
          first | refine qx_op rfl rfl (runs_y rfl rfl rfl) (does_load_ref rfl ta3 rfl) ?_ | refine qx_op rfl rfl (runs_y rfl rfl rfl) (does_load_ptr rfl ta3 rfl rfl rfl rfl rfl) ?_ | refine qx_skip rfl rfl (runs_nt rfl rfl rfl) ?_ | refine qx_skip rfl rfl (runs_nu rfl rfl rfl) ?_
          first | refine qx_op rfl rfl (runs_y rfl rfl rfl) (dec_t hpos (does_gtr rfl rfl rfl)) ?_ | refine qx_skip rfl rfl (runs_nt rfl rfl rfl) ?_ | refine qx_skip rfl rfl (runs_nu rfl rfl rfl) ?_
          first | refine qx_op rfl rfl (runs_none rfl) (pickT_s rfl rfl rfl) ?_ | refine qx_op rfl rfl (runs_none rfl) (pickF_s rfl rfl rfl) ?_ | refine qx_op rfl rfl (runs_none rfl) (does_pickT rfl rfl rfl) ?_ | refine qx_op rfl rfl (runs_none rfl) (does_pickF rfl rfl rfl) ?_
          refine qx_op rfl rfl (runs_none rfl) (mv_s (.inl rfl) rfl) ?_
          first | refine qx_op rfl rfl (runs_y rfl rfl rfl) (mv_s (.inl rfl) rfl) ?_ | refine qx_skip rfl rfl (runs_nf rfl rfl rfl) ?_ | refine qx_skip rfl rfl (runs_nu rfl rfl rfl) ?_
          first | refine qx_op rfl rfl (runs_y rfl rfl rfl) (does_nes rfl rfl rfl) ?_ | refine qx_skip rfl rfl (runs_nf rfl rfl rfl) ?_ | refine qx_skip rfl rfl (runs_nu rfl rfl rfl) ?_
          first | refine qx_op rfl rfl (runs_y rfl rfl rfl) (mv_s (.inl rfl) rfl) ?_ | refine qx_skip rfl rfl (runs_nf rfl rfl rfl) ?_ | refine qx_skip rfl rfl (runs_nu rfl rfl rfl) ?_
          first | refine qx_op rfl rfl (runs_y rfl rfl rfl) (does_load_refw rfl ta24 ti24 rfl rfl) ?_ | refine qx_op rfl rfl (runs_y rfl rfl rfl) (does_load_whole rfl ta24 ti24 rfl rfl rfl rfl rfl) ?_ | refine qx_op rfl rfl (runs_y rfl rfl rfl) (does_load_refs rfl ta24 ti24 rfl (Nat.le_of_ble_eq_true rfl)) ?_ | refine qx_op rfl rfl (runs_y rfl rfl rfl) (does_load_ptrs rfl ta24 ti24 rfl rfl rfl rfl (Nat.le_of_ble_eq_true rfl)) ?_ | refine qx_skip rfl rfl (runs_nt rfl rfl rfl) ?_ | refine qx_skip rfl rfl (runs_nu rfl rfl rfl) ?_
          first | refine qx_op rfl rfl (runs_y rfl rfl rfl) (mv_own (.inl rfl) rfl) ?_ | refine qx_op rfl rfl (runs_y rfl rfl rfl) (mv_sl (.inl rfl) rfl) ?_ | refine qx_op rfl rfl (runs_y rfl rfl rfl) (mv_s (.inl rfl) rfl) ?_ | refine qx_op rfl rfl (runs_y rfl rfl rfl) (mv_emp (.inl rfl) rfl) ?_ | refine qx_skip rfl rfl (runs_nt rfl rfl rfl) ?_ | refine qx_skip rfl rfl (runs_nu rfl rfl rfl) ?_
          first | refine qx_op rfl rfl (runs_y rfl rfl rfl) (mv_s (.inl rfl) rfl) ?_ | refine qx_skip rfl rfl (runs_nt rfl rfl rfl) ?_ | refine qx_skip rfl rfl (runs_nu rfl rfl rfl) ?_
          first | refine qx_op rfl rfl (runs_y rfl rfl rfl) (does_index_sl rfl ts101 ti30 rfl rfl rfl (ix_map (by omega)) rfl) ?_ | refine qx_op rfl rfl (runs_y rfl rfl rfl) (does_index_own rfl ts101 ti30 rfl rfl rfl (by omega)) ?_ | refine qx_skip rfl rfl (runs_nt rfl rfl rfl) ?_ | refine qx_skip rfl rfl (runs_nu rfl rfl rfl) ?_
          first | refine qx_op rfl rfl (runs_y rfl rfl rfl) (does_load_ref rfl ta30 rfl) ?_ | refine qx_op rfl rfl (runs_y rfl rfl rfl) (does_load_ptr rfl ta30 rfl rfl rfl rfl rfl) ?_ | refine qx_skip rfl rfl (runs_nt rfl rfl rfl) ?_ | refine qx_skip rfl rfl (runs_nu rfl rfl rfl) ?_
          first | refine qx_op rfl rfl (runs_y rfl rfl rfl) (mv_s (.inl rfl) rfl) ?_ | refine qx_skip rfl rfl (runs_nt rfl rfl rfl) ?_ | refine qx_skip rfl rfl (runs_nu rfl rfl rfl) ?_
          first | refine qx_op rfl rfl (runs_y rfl rfl rfl) (does_call rfl rfl (by assumption) (evc_cons rfl (evc_cons rfl (evc_cons rfl evc_nil)))) ?_ | refine qx_skip rfl rfl (runs_nt rfl rfl rfl) ?_ | refine qx_skip rfl rfl (runs_nu rfl rfl rfl) ?_
          first | refine qx_op rfl rfl (runs_y rfl rfl rfl) (does_geq rfl rfl rfl) ?_ | refine qx_skip rfl rfl (runs_nt rfl rfl rfl) ?_ | refine qx_skip rfl rfl (runs_nu rfl rfl rfl) ?_
          first | refine qx_op rfl rfl (runs_y rfl rfl rfl) (pickT_s rfl rfl rfl) ?_ | refine qx_op rfl rfl (runs_y rfl rfl rfl) (pickF_s rfl rfl rfl) ?_ | refine qx_op rfl rfl (runs_y rfl rfl rfl) (does_pickT rfl rfl rfl) ?_ | refine qx_op rfl rfl (runs_y rfl rfl rfl) (does_pickF rfl rfl rfl) ?_ | refine qx_skip rfl rfl (runs_nf rfl rfl rfl) ?_ | refine qx_skip rfl rfl (runs_nu rfl rfl rfl) ?_
          first | refine qx_op rfl rfl (runs_none rfl) (pickT_s rfl rfl rfl) ?_ | refine qx_op rfl rfl (runs_none rfl) (pickF_s rfl rfl rfl) ?_ | refine qx_op rfl rfl (runs_none rfl) (does_pickT rfl rfl rfl) ?_ | refine qx_op rfl rfl (runs_none rfl) (does_pickF rfl rfl rfl) ?_
          refine qx_nil ?_
          repeat (first | refine aw_seq ?_ | refine ath_n ?_ | refine aw_skip ?_ | refine abl_n ?_ | refine aw_block ?_)
          exact ⟨(), trivial, wk_sub _ ⟨by rw [hg]; rfl, rfl, rfl, rfl, rfl, rfl, trivial⟩⟩
        · rw [decide_eq_false hpos] at hg
          refine aw_draw hmix ?_
          refine adraw_quiet (by kernel_rfl) ?_
          refine qx_op rfl rfl (runs_none rfl) (mv_s (.inl rfl) rfl) ?_
          refine qx_op rfl rfl (runs_none rfl) (dec_t hact (does_eqs rfl rfl rfl)) ?_
          refine qx_op rfl rfl (runs_none rfl) (mv_s (.inl rfl) rfl) ?_
          first | refine qx_op rfl rfl (runs_y rfl rfl rfl) (mv_own (.inl rfl) rfl) ?_ | refine qx_op rfl rfl (runs_y rfl rfl rfl) (mv_sl (.inl rfl) rfl) ?_ | refine qx_op rfl rfl (runs_y rfl rfl rfl) (mv_s (.inl rfl) rfl) ?_ | refine qx_op rfl rfl (runs_y rfl rfl rfl) (mv_emp (.inl rfl) rfl) ?_ | refine qx_skip rfl rfl (runs_nt rfl rfl rfl) ?_ | refine qx_skip rfl rfl (runs_nu rfl rfl rfl) ?_
          first | refine qx_op rfl rfl (runs_y rfl rfl rfl) (mv_s (.inl rfl) rfl) ?_ | refine qx_skip rfl rfl (runs_nt rfl rfl rfl) ?_ | refine qx_skip rfl rfl (runs_nu rfl rfl rfl) ?_
          first | refine qx_op rfl rfl (runs_y rfl rfl rfl) (does_index_sl rfl ts101 ti30 rfl rfl rfl (ix_map (by omega)) rfl) ?_ | refine qx_op rfl rfl (runs_y rfl rfl rfl) (does_index_own rfl ts101 ti30 rfl rfl rfl (by omega)) ?_ | refine qx_skip rfl rfl (runs_nt rfl rfl rfl) ?_ | refine qx_skip rfl rfl (runs_nu rfl rfl rfl) ?_
          first | refine qx_op rfl rfl (runs_y rfl rfl rfl) (does_load_ref rfl ta30 rfl) ?_ | refine qx_op rfl rfl (runs_y rfl rfl rfl) (does_load_ptr rfl ta30 rfl rfl rfl (ix_map hlt) rfl) ?_ | refine qx_skip rfl rfl (runs_nt rfl rfl rfl) ?_ | refine qx_skip rfl rfl (runs_nu rfl rfl rfl) ?_
          first | refine qx_op rfl rfl (runs_y rfl rfl rfl) (does_fieldAddr_ptr rfl tf24_3 (by decide) rfl) ?_ | refine qx_op rfl rfl (runs_y rfl rfl rfl) (does_fieldAddr_ref rfl tf24_3 (by decide) rfl) ?_ | refine qx_skip rfl rfl (runs_nt rfl rfl rfl) ?_ | refine qx_skip rfl rfl (runs_nu rfl rfl rfl) ?_
          first | refine qx_op rfl rfl (runs_y rfl rfl rfl) (does_load_ref rfl ta3 rfl) ?_ | refine qx_op rfl rfl (runs_y rfl rfl rfl) (does_load_ptr rfl ta3 rfl rfl rfl rfl rfl) ?_ | refine qx_skip rfl rfl (runs_nt rfl rfl rfl) ?_ | refine qx_skip rfl rfl (runs_nu rfl rfl rfl) ?_
          first | refine qx_op rfl rfl (runs_y rfl rfl rfl) (does_index_sl rfl ts30 ti3 rfl rfl hks (ix_map hks1) rfl) ?_ | refine qx_op rfl rfl (runs_y rfl rfl rfl) (does_index_own rfl ts30 ti3 rfl rfl hks (ix_map hks1)) ?_ | refine qx_skip rfl rfl (runs_nt rfl rfl rfl) ?_ | refine qx_skip rfl rfl (runs_nu rfl rfl rfl) ?_
          first | refine qx_op rfl rfl (runs_y rfl rfl rfl) (does_load_ref rfl ta3 rfl) ?_ | refine qx_op rfl rfl (runs_y rfl rfl rfl) (does_load_ptr rfl ta3 rfl rfl rfl rfl rfl) ?_ | refine qx_skip rfl rfl (runs_nt rfl rfl rfl) ?_ | refine qx_skip rfl rfl (runs_nu rfl rfl rfl) ?_
          first | refine qx_op rfl rfl (runs_y rfl rfl rfl) (dec_f hpos (does_gtr rfl rfl rfl)) ?_ | refine qx_skip rfl rfl (runs_nt rfl rfl rfl) ?_ | refine qx_skip rfl rfl (runs_nu rfl rfl rfl) ?_
          first | refine qx_op rfl rfl (runs_none rfl) (pickT_s rfl rfl rfl) ?_ | refine qx_op rfl rfl (runs_none rfl) (pickF_s rfl rfl rfl) ?_ | refine qx_op rfl rfl (runs_none rfl) (does_pickT rfl rfl rfl) ?_ | refine qx_op rfl rfl (runs_none rfl) (does_pickF rfl rfl rfl) ?_
          refine qx_op rfl rfl (runs_none rfl) (mv_s (.inl rfl) rfl) ?_
          first | refine qx_op rfl rfl (runs_y rfl rfl rfl) (mv_s (.inl rfl) rfl) ?_ | refine qx_skip rfl rfl (runs_nf rfl rfl rfl) ?_ | refine qx_skip rfl rfl (runs_nu rfl rfl rfl) ?_
          first | refine qx_op rfl rfl (runs_y rfl rfl rfl) (dec_f (fun h => h hact) (does_nes rfl rfl rfl)) ?_ | refine qx_skip rfl rfl (runs_nf rfl rfl rfl) ?_ | refine qx_skip rfl rfl (runs_nu rfl rfl rfl) ?_
          first | refine qx_op rfl rfl (runs_y rfl rfl rfl) (mv_s (.inl rfl) rfl) ?_ | refine qx_skip rfl rfl (runs_nf rfl rfl rfl) ?_ | refine qx_skip rfl rfl (runs_nu rfl rfl rfl) ?_
          first | refine qx_op rfl rfl (runs_y rfl rfl rfl) (does_load_refw rfl ta24 ti24 rfl rfl) ?_ | refine qx_op rfl rfl (runs_y rfl rfl rfl) (does_load_whole rfl ta24 ti24 rfl rfl rfl rfl rfl) ?_ | refine qx_op rfl rfl (runs_y rfl rfl rfl) (does_load_refs rfl ta24 ti24 rfl (Nat.le_of_ble_eq_true rfl)) ?_ | refine qx_op rfl rfl (runs_y rfl rfl rfl) (does_load_ptrs rfl ta24 ti24 rfl rfl rfl rfl (Nat.le_of_ble_eq_true rfl)) ?_ | refine qx_skip rfl rfl (runs_nt rfl rfl rfl) ?_ | refine qx_skip rfl rfl (runs_nu rfl rfl rfl) ?_
          first | refine qx_op rfl rfl (runs_y rfl rfl rfl) (mv_own (.inl rfl) rfl) ?_ | refine qx_op rfl rfl (runs_y rfl rfl rfl) (mv_sl (.inl rfl) rfl) ?_ | refine qx_op rfl rfl (runs_y rfl rfl rfl) (mv_s (.inl rfl) rfl) ?_ | refine qx_op rfl rfl (runs_y rfl rfl rfl) (mv_emp (.inl rfl) rfl) ?_ | refine qx_skip rfl rfl (runs_nt rfl rfl rfl) ?_ | refine qx_skip rfl rfl (runs_nu rfl rfl rfl) ?_
          first | refine qx_op rfl rfl (runs_y rfl rfl rfl) (mv_s (.inl rfl) rfl) ?_ | refine qx_skip rfl rfl (runs_nt rfl rfl rfl) ?_ | refine qx_skip rfl rfl (runs_nu rfl rfl rfl) ?_
          first | refine qx_op rfl rfl (runs_y rfl rfl rfl) (does_index_sl rfl ts101 ti30 rfl rfl rfl (ix_map (by omega)) rfl) ?_ | refine qx_op rfl rfl (runs_y rfl rfl rfl) (does_index_own rfl ts101 ti30 rfl rfl rfl (by omega)) ?_ | refine qx_skip rfl rfl (runs_nt rfl rfl rfl) ?_ | refine qx_skip rfl rfl (runs_nu rfl rfl rfl) ?_
          first | refine qx_op rfl rfl (runs_y rfl rfl rfl) (does_load_ref rfl ta30 rfl) ?_ | refine qx_op rfl rfl (runs_y rfl rfl rfl) (does_load_ptr rfl ta30 rfl rfl rfl rfl rfl) ?_ | refine qx_skip rfl rfl (runs_nt rfl rfl rfl) ?_ | refine qx_skip rfl rfl (runs_nu rfl rfl rfl) ?_
          first | refine qx_op rfl rfl (runs_y rfl rfl rfl) (mv_s (.inl rfl) rfl) ?_ | refine qx_skip rfl rfl (runs_nt rfl rfl rfl) ?_ | refine qx_skip rfl rfl (runs_nu rfl rfl rfl) ?_
          first | refine qx_op rfl rfl (runs_y rfl rfl rfl) (does_call rfl rfl (by assumption) (evc_cons rfl (evc_cons rfl (evc_cons rfl evc_nil)))) ?_ | refine qx_skip rfl rfl (runs_nt rfl rfl rfl) ?_ | refine qx_skip rfl rfl (runs_nu rfl rfl rfl) ?_
          first | refine qx_op rfl rfl (runs_y rfl rfl rfl) (does_geq rfl rfl rfl) ?_ | refine qx_skip rfl rfl (runs_nt rfl rfl rfl) ?_ | refine qx_skip rfl rfl (runs_nu rfl rfl rfl) ?_
          first | refine qx_op rfl rfl (runs_y rfl rfl rfl) (pickT_s rfl rfl rfl) ?_ | refine qx_op rfl rfl (runs_y rfl rfl rfl) (pickF_s rfl rfl rfl) ?_ | refine qx_op rfl rfl (runs_y rfl rfl rfl) (does_pickT rfl rfl rfl) ?_ | refine qx_op rfl rfl (runs_y rfl rfl rfl) (does_pickF rfl rfl rfl) ?_ | refine qx_skip rfl rfl (runs_nf rfl rfl rfl) ?_ | refine qx_skip rfl rfl (runs_nu rfl rfl rfl) ?_
          first | refine qx_op rfl rfl (runs_none rfl) (pickT_s rfl rfl rfl) ?_ | refine qx_op rfl rfl (runs_none rfl) (pickF_s rfl rfl rfl) ?_ | refine qx_op rfl rfl (runs_none rfl) (does_pickT rfl rfl rfl) ?_ | refine qx_op rfl rfl (runs_none rfl) (does_pickF rfl rfl rfl) ?_
          refine qx_nil ?_
          repeat (first | refine aw_seq ?_ | refine ath_n ?_ | refine aw_skip ?_ | refine abl_n ?_ | refine aw_block ?_)
          exact ⟨(), trivial, wk_sub _ ⟨by rw [hg]; rfl, rfl, rfl, rfl, rfl, rfl, trivial⟩⟩
      · rw [if_neg hact] at hg
        unfold goodA at hg
        have hen := renabled_pf (P := P) n (gti q i).m act hnn hin
        refine aw_draw hmix ?_
        refine adraw_quiet (by kernel_rfl) ?_
        refine qx_op rfl rfl (runs_none rfl) (mv_s (.inl rfl) rfl) ?_
        refine qx_op rfl rfl (runs_none rfl) (dec_f hact (does_eqs rfl rfl rfl)) ?_
        refine qx_op rfl rfl (runs_none rfl) (mv_s (.inl rfl) rfl) ?_
        first | refine qx_op rfl rfl (runs_y rfl rfl rfl) (mv_own (.inl rfl) rfl) ?_ | refine qx_op rfl rfl (runs_y rfl rfl rfl) (mv_sl (.inl rfl) rfl) ?_ | refine qx_op rfl rfl (runs_y rfl rfl rfl) (mv_s (.inl rfl) rfl) ?_ | refine qx_op rfl rfl (runs_y rfl rfl rfl) (mv_emp (.inl rfl) rfl) ?_ | refine qx_skip rfl rfl (runs_nt rfl rfl rfl) ?_ | refine qx_skip rfl rfl (runs_nu rfl rfl rfl) ?_
        first | refine qx_op rfl rfl (runs_y rfl rfl rfl) (mv_s (.inl rfl) rfl) ?_ | refine qx_skip rfl rfl (runs_nt rfl rfl rfl) ?_ | refine qx_skip rfl rfl (runs_nu rfl rfl rfl) ?_
        first | refine qx_op rfl rfl (runs_y rfl rfl rfl) (does_index_sl rfl ts101 ti30 rfl rfl rfl (ix_map (by omega)) rfl) ?_ | refine qx_op rfl rfl (runs_y rfl rfl rfl) (does_index_own rfl ts101 ti30 rfl rfl rfl (by omega)) ?_ | refine qx_skip rfl rfl (runs_nt rfl rfl rfl) ?_ | refine qx_skip rfl rfl (runs_nu rfl rfl rfl) ?_
        first | refine qx_op rfl rfl (runs_y rfl rfl rfl) (does_load_ref rfl ta30 rfl) ?_ | refine qx_op rfl rfl (runs_y rfl rfl rfl) (does_load_ptr rfl ta30 rfl rfl rfl rfl rfl) ?_ | refine qx_skip rfl rfl (runs_nt rfl rfl rfl) ?_ | refine qx_skip rfl rfl (runs_nu rfl rfl rfl) ?_
        first | refine qx_op rfl rfl (runs_y rfl rfl rfl) (does_fieldAddr_ptr rfl tf24_3 (by decide) rfl) ?_ | refine qx_op rfl rfl (runs_y rfl rfl rfl) (does_fieldAddr_ref rfl tf24_3 (by decide) rfl) ?_ | refine qx_skip rfl rfl (runs_nt rfl rfl rfl) ?_ | refine qx_skip rfl rfl (runs_nu rfl rfl rfl) ?_
        first | refine qx_op rfl rfl (runs_y rfl rfl rfl) (does_load_ref rfl ta3 rfl) ?_ | refine qx_op rfl rfl (runs_y rfl rfl rfl) (does_load_ptr rfl ta3 rfl rfl rfl rfl rfl) ?_ | refine qx_skip rfl rfl (runs_nt rfl rfl rfl) ?_ | refine qx_skip rfl rfl (runs_nu rfl rfl rfl) ?_
        first | refine qx_op rfl rfl (runs_y rfl rfl rfl) (does_index_sl rfl ts30 ti3 rfl rfl rfl (ix_map (by omega)) rfl) ?_ | refine qx_op rfl rfl (runs_y rfl rfl rfl) (does_index_own rfl ts30 ti3 rfl rfl rfl (by omega)) ?_ | refine qx_skip rfl rfl (runs_nt rfl rfl rfl) ?_ | refine qx_skip rfl rfl (runs_nu rfl rfl rfl) ?_
        first | refine qx_op rfl rfl (runs_y rfl rfl rfl) (does_load_ref rfl ta3 rfl) ?_ | refine qx_op rfl rfl (runs_y rfl rfl rfl) (does_load_ptr rfl ta3 rfl rfl rfl rfl rfl) ?_ | refine qx_skip rfl rfl (runs_nt rfl rfl rfl) ?_ | refine qx_skip rfl rfl (runs_nu rfl rfl rfl) ?_
        first | refine qx_op rfl rfl (runs_y rfl rfl rfl) (does_gtr rfl rfl rfl) ?_ | refine qx_skip rfl rfl (runs_nt rfl rfl rfl) ?_ | refine qx_skip rfl rfl (runs_nu rfl rfl rfl) ?_
        first | refine qx_op rfl rfl (runs_none rfl) (pickT_s rfl rfl rfl) ?_ | refine qx_op rfl rfl (runs_none rfl) (pickF_s rfl rfl rfl) ?_ | refine qx_op rfl rfl (runs_none rfl) (does_pickT rfl rfl rfl) ?_ | refine qx_op rfl rfl (runs_none rfl) (does_pickF rfl rfl rfl) ?_
        refine qx_op rfl rfl (runs_none rfl) (mv_s (.inl rfl) rfl) ?_
        first | refine qx_op rfl rfl (runs_y rfl rfl rfl) (mv_s (.inl rfl) rfl) ?_ | refine qx_skip rfl rfl (runs_nf rfl rfl rfl) ?_ | refine qx_skip rfl rfl (runs_nu rfl rfl rfl) ?_
        first | refine qx_op rfl rfl (runs_y rfl rfl rfl) (dec_t hact (does_nes rfl rfl rfl)) ?_ | refine qx_skip rfl rfl (runs_nf rfl rfl rfl) ?_ | refine qx_skip rfl rfl (runs_nu rfl rfl rfl) ?_
        first | refine qx_op rfl rfl (runs_y rfl rfl rfl) (mv_s (.inl rfl) rfl) ?_ | refine qx_skip rfl rfl (runs_nf rfl rfl rfl) ?_ | refine qx_skip rfl rfl (runs_nu rfl rfl rfl) ?_
        first | refine qx_op rfl rfl (runs_y rfl rfl rfl) (does_load_refw rfl ta24 ti24 rfl rfl) ?_ | refine qx_op rfl rfl (runs_y rfl rfl rfl) (does_load_whole rfl ta24 ti24 rfl rfl rfl rfl rfl) ?_ | refine qx_op rfl rfl (runs_y rfl rfl rfl) (does_load_refs rfl ta24 ti24 rfl (Nat.le_of_ble_eq_true rfl)) ?_ | refine qx_op rfl rfl (runs_y rfl rfl rfl) (does_load_ptrs rfl ta24 ti24 rfl rfl rfl rfl (Nat.le_of_ble_eq_true rfl)) ?_ | refine qx_skip rfl rfl (runs_nt rfl rfl rfl) ?_ | refine qx_skip rfl rfl (runs_nu rfl rfl rfl) ?_
        first | refine qx_op rfl rfl (runs_y rfl rfl rfl) (mv_own (.inl rfl) rfl) ?_ | refine qx_op rfl rfl (runs_y rfl rfl rfl) (mv_sl (.inl rfl) rfl) ?_ | refine qx_op rfl rfl (runs_y rfl rfl rfl) (mv_s (.inl rfl) rfl) ?_ | refine qx_op rfl rfl (runs_y rfl rfl rfl) (mv_emp (.inl rfl) rfl) ?_ | refine qx_skip rfl rfl (runs_nt rfl rfl rfl) ?_ | refine qx_skip rfl rfl (runs_nu rfl rfl rfl) ?_
        first | refine qx_op rfl rfl (runs_y rfl rfl rfl) (mv_s (.inl rfl) rfl) ?_ | refine qx_skip rfl rfl (runs_nt rfl rfl rfl) ?_ | refine qx_skip rfl rfl (runs_nu rfl rfl rfl) ?_
        first | refine qx_op rfl rfl (runs_y rfl rfl rfl) (does_index_sl rfl ts101 ti30 rfl rfl rfl (ix_map (by omega)) rfl) ?_ | refine qx_op rfl rfl (runs_y rfl rfl rfl) (does_index_own rfl ts101 ti30 rfl rfl rfl (by omega)) ?_ | refine qx_skip rfl rfl (runs_nt rfl rfl rfl) ?_ | refine qx_skip rfl rfl (runs_nu rfl rfl rfl) ?_
        first | refine qx_op rfl rfl (runs_y rfl rfl rfl) (does_load_ref rfl ta30 rfl) ?_ | refine qx_op rfl rfl (runs_y rfl rfl rfl) (does_load_ptr rfl ta30 rfl rfl rfl (ix_map hlt) rfl) ?_ | refine qx_skip rfl rfl (runs_nt rfl rfl rfl) ?_ | refine qx_skip rfl rfl (runs_nu rfl rfl rfl) ?_
        first | refine qx_op rfl rfl (runs_y rfl rfl rfl) (mv_s (.inl rfl) rfl) ?_ | refine qx_skip rfl rfl (runs_nt rfl rfl rfl) ?_ | refine qx_skip rfl rfl (runs_nu rfl rfl rfl) ?_
        first | refine qx_op rfl rfl (runs_y rfl rfl rfl) (does_call rfl rfl (hen) (evc_cons rfl (evc_cons rfl (evc_cons rfl evc_nil)))) ?_ | refine qx_skip rfl rfl (runs_nt rfl rfl rfl) ?_ | refine qx_skip rfl rfl (runs_nu rfl rfl rfl) ?_
        first | refine qx_op rfl rfl (runs_y rfl rfl rfl) (does_geq rfl rfl rfl) ?_ | refine qx_skip rfl rfl (runs_nt rfl rfl rfl) ?_ | refine qx_skip rfl rfl (runs_nu rfl rfl rfl) ?_
        first | refine qx_op rfl rfl (runs_y rfl rfl rfl) (pickT_s rfl rfl rfl) ?_ | refine qx_op rfl rfl (runs_y rfl rfl rfl) (pickF_s rfl rfl rfl) ?_ | refine qx_op rfl rfl (runs_y rfl rfl rfl) (does_pickT rfl rfl rfl) ?_ | refine qx_op rfl rfl (runs_y rfl rfl rfl) (does_pickF rfl rfl rfl) ?_ | refine qx_skip rfl rfl (runs_nf rfl rfl rfl) ?_ | refine qx_skip rfl rfl (runs_nu rfl rfl rfl) ?_
        first | refine qx_op rfl rfl (runs_none rfl) (pickT_s rfl rfl rfl) ?_ | refine qx_op rfl rfl (runs_none rfl) (pickF_s rfl rfl rfl) ?_ | refine qx_op rfl rfl (runs_none rfl) (does_pickT rfl rfl rfl) ?_ | refine qx_op rfl rfl (runs_none rfl) (does_pickF rfl rfl rfl) ?_
        refine qx_nil ?_
        repeat (first | refine aw_seq ?_ | refine ath_n ?_ | refine aw_skip ?_ | refine abl_n ?_ | refine aw_block ?_)
        exact ⟨(), trivial, wk_sub _ ⟨by rw [hg]; rfl, rfl, rfl, rfl, rfl, rfl, trivial⟩⟩
    repeat (first | refine aw_seq ?_ | refine ath_n ?_ | refine aw_skip ?_ | refine abl_n ?_ | refine aw_block ?_)
    refine aw_cond rfl (fun h => ?_) (fun h => ?_)
    · subst h
      rw [if_pos rfl] at HS1
      repeat (first | refine aw_seq ?_ | refine ath_n ?_ | refine aw_skip ?_ | refine abl_n ?_ | refine aw_block ?_)
      refine aw_region ?_
      first | refine ops_op rfl rfl (runs_none rfl) (mv_own (.inl rfl) rfl) ?_ | refine ops_op rfl rfl (runs_none rfl) (mv_sl (.inl rfl) rfl) ?_ | refine ops_op rfl rfl (runs_none rfl) (mv_s (.inl rfl) rfl) ?_ | refine ops_op rfl rfl (runs_none rfl) (mv_emp (.inl rfl) rfl) ?_
      refine ops_op rfl rfl (runs_none rfl) (mv_s (.inl rfl) rfl) ?_
      first | refine ops_op rfl rfl (runs_none rfl) (does_index_sl rfl ts101 ti30 rfl rfl rfl (ix_map (by omega)) rfl) ?_ | refine ops_op rfl rfl (runs_none rfl) (does_index_own rfl ts101 ti30 rfl rfl rfl (by omega)) ?_
      first | refine ops_op rfl rfl (runs_none rfl) (does_load_ref rfl ta30 rfl) ?_ | refine ops_op rfl rfl (runs_none rfl) (does_load_ptr rfl ta30 rfl rfl rfl (ix_map hlt) rfl) ?_
      first | refine ops_op rfl rfl (runs_none rfl) (mv_own (.inr rfl) rfl) ?_ | refine ops_op rfl rfl (runs_none rfl) (mv_sl (.inr rfl) rfl) ?_ | refine ops_op rfl rfl (runs_none rfl) (mv_s (.inr rfl) rfl) ?_ | refine ops_op rfl rfl (runs_none rfl) (mv_emp (.inr rfl) rfl) ?_
      refine ops_op rfl rfl (runs_none rfl) (mv_s (.inr rfl) rfl) ?_
      refine ops_nil ?_
      repeat (first | refine aw_seq ?_ | refine ath_n ?_ | refine aw_skip ?_ | refine abl_n ?_ | refine aw_block ?_)
      (refine aw_ret ?_; repeat (first | refine ath_r ?_ | refine abl_r ?_))
      rw [HS1]
      exact post2 (.inr rfl) rfl rfl (.refl _) (.refl _)
    · subst h
      rw [if_neg (by simp)] at HS1
      repeat (first | refine aw_seq ?_ | refine ath_n ?_ | refine aw_skip ?_ | refine abl_n ?_ | refine aw_block ?_)
      refine aw_region ?_
      refine ops_op rfl rfl (runs_none rfl) (mv_s (.inr rfl) rfl) ?_
      refine ops_nil ?_
      repeat (first | refine aw_seq ?_ | refine ath_n ?_ | refine aw_skip ?_ | refine abl_n ?_ | refine aw_block ?_)
      refine aw_loops (S := Nat) (fun k => (11, eI k) :: srF n act (roundS n (gti q i) q k) i) (fun k => srS (roundS n (gti q i) q k)) (fun k => k ≤ n.trans.length) (fun k => n.trans.length - k) 0 (wk_sub _ ⟨rfl, rfl, rfl, rfl, rfl, rfl, trivial⟩) (Nat.zero_le _) (fun k hk => ?_)
      have HQ2 := HQ.round hlt hk
      obtain ⟨hi2, hx2⟩ := roundS_at (n := n) hlt (gti q i) k
      have hq200 := HQ2.len
      have HST : roundS n (gti q i) q (k + 1) = stepS n (gti q i) (roundS n (gti q i) q k) k := rfl
      have HRF : (roundS n (gti q i) q k).length = 200 → roundS n (gti q i) q n.trans.length = roundS n (gti q i) q k := fun h => roundS_full h hk
      have HEND : ∀ q2, roundS n (gti q i) q n.trans.length = q2 → i < q2.length → QI n m q2 → i + 1 ≤ q2.length ∧ QI n m q2 ∧ silE n good m = srch n good (201 - (i + 1)) (i + 1) q2 := fun q2 h1 h2 h3 => ⟨h2, h3, by rw [HS1, h1]⟩
      generalize hq2 : roundS n (gti q i) q k = q2 at *
      -- the end of the round
      have HEX : ∀ (F : Frm) (Q : Exit → Frm → List Ob → Prop), True := fun _ _ => trivial
      repeat (first | refine aw_seq ?_ | refine ath_n ?_ | refine aw_skip ?_ | refine abl_n ?_ | refine aw_block ?_)
      by_cases hlt2 : k < n.trans.length
      · skip
        refine aw_region ?_
        refine ops_op rfl rfl (runs_none rfl) (mv_s (.inl rfl) rfl) ?_
        first | refine ops_op rfl rfl (runs_none rfl) (does_fieldAddr_ptr rfl tf24_1 (by decide) rfl) ?_ | refine ops_op rfl rfl (runs_none rfl) (does_fieldAddr_ref rfl tf24_1 (by decide) rfl) ?_
        first | refine ops_op rfl rfl (runs_none rfl) (does_load_ref rfl ta22 rfl) ?_ | refine ops_op rfl rfl (runs_none rfl) (does_load_ptr rfl ta22 rfl rfl rfl rfl rfl) ?_
        first | refine ops_op rfl rfl (runs_none rfl) (does_len_map rfl ts22 rfl) ?_ | refine ops_op rfl rfl (runs_none rfl) (does_len_sl rfl ts22 rfl) ?_ | refine ops_op rfl rfl (runs_none rfl) (does_len_own rfl ts22 rfl) ?_ | refine ops_op rfl rfl (runs_none rfl) (does_len_s rfl ts22 rfl) ?_ | refine ops_op rfl rfl (runs_none rfl) (does_len_emp rfl ts22 rfl) ?_
        refine ops_op rfl rfl (runs_none rfl) (dec_t (by omega) (does_lss rfl rfl rfl)) ?_
        refine ops_op rfl rfl (runs_none rfl) (mv_s (.inl rfl) rfl) ?_
        first | refine ops_op rfl rfl (runs_y rfl rfl rfl) (mv_own (.inl rfl) rfl) ?_ | refine ops_op rfl rfl (runs_y rfl rfl rfl) (mv_sl (.inl rfl) rfl) ?_ | refine ops_op rfl rfl (runs_y rfl rfl rfl) (mv_s (.inl rfl) rfl) ?_ | refine ops_op rfl rfl (runs_y rfl rfl rfl) (mv_emp (.inl rfl) rfl) ?_ | refine ops_skip rfl rfl (runs_nt rfl rfl rfl) ?_ | refine ops_skip rfl rfl (runs_nu rfl rfl rfl) ?_
        first | refine ops_op rfl rfl (runs_y rfl rfl rfl) (does_len_map rfl ts101 rfl) ?_ | refine ops_op rfl rfl (runs_y rfl rfl rfl) (does_len_sl rfl ts101 rfl) ?_ | refine ops_op rfl rfl (runs_y rfl rfl rfl) (does_len_own rfl ts101 rfl) ?_ | refine ops_op rfl rfl (runs_y rfl rfl rfl) (does_len_s rfl ts101 rfl) ?_ | refine ops_op rfl rfl (runs_y rfl rfl rfl) (does_len_emp rfl ts101 rfl) ?_ | refine ops_skip rfl rfl (runs_nt rfl rfl rfl) ?_ | refine ops_skip rfl rfl (runs_nu rfl rfl rfl) ?_
        first | refine ops_op rfl rfl (runs_y rfl rfl rfl) (does_lss rfl rfl rfl) ?_ | refine ops_skip rfl rfl (runs_nt rfl rfl rfl) ?_ | refine ops_skip rfl rfl (runs_nu rfl rfl rfl) ?_
        first | refine ops_op rfl rfl (runs_none rfl) (pickT_s rfl rfl rfl) ?_ | refine ops_op rfl rfl (runs_none rfl) (pickF_s rfl rfl rfl) ?_ | refine ops_op rfl rfl (runs_none rfl) (does_pickT rfl rfl rfl) ?_ | refine ops_op rfl rfl (runs_none rfl) (does_pickF rfl rfl rfl) ?_
        refine ops_nil ?_
        repeat (first | refine aw_seq ?_ | refine ath_n ?_ | refine aw_skip ?_ | refine abl_n ?_ | refine aw_block ?_)
        refine aw_if rfl (fun h => ?_) (fun h => ?_)
        · have h200 : q2.length ≠ 200 := by omega
          repeat (first | refine aw_seq ?_ | refine ath_n ?_ | refine aw_skip ?_ | refine abl_n ?_ | refine aw_block ?_)
          refine aw_region ?_
          first | refine ops_op rfl rfl (runs_none rfl) (does_fieldAddr_ptr rfl tf24_1 (by decide) rfl) ?_ | refine ops_op rfl rfl (runs_none rfl) (does_fieldAddr_ref rfl tf24_1 (by decide) rfl) ?_
          first | refine ops_op rfl rfl (runs_none rfl) (does_load_ref rfl ta22 rfl) ?_ | refine ops_op rfl rfl (runs_none rfl) (does_load_ptr rfl ta22 rfl rfl rfl rfl rfl) ?_
          refine ops_op rfl rfl (runs_none rfl) (mv_s (.inl rfl) rfl) ?_
          first | refine ops_op rfl rfl (runs_none rfl) (does_index_sl rfl ts22 ti46 rfl rfl rfl (ix_map (by omega)) rfl) ?_ | refine ops_op rfl rfl (runs_none rfl) (does_index_own rfl ts22 ti46 rfl rfl rfl (by omega)) ?_
          first | refine ops_op rfl rfl (runs_none rfl) (does_fieldAddr_ptr rfl tf46_0 (by decide) rfl) ?_ | refine ops_op rfl rfl (runs_none rfl) (does_fieldAddr_ref rfl tf46_0 (by decide) rfl) ?_
          first | refine ops_op rfl rfl (runs_none rfl) (does_load_ref rfl ta9 rfl) ?_ | refine ops_op rfl rfl (runs_none rfl) (does_load_ptr rfl ta9 rfl rfl rfl rfl rfl) ?_
          refine ops_op rfl rfl (runs_none rfl) (does_nes rfl rfl rfl) ?_
          refine ops_nil ?_
          repeat (first | refine aw_seq ?_ | refine ath_n ?_ | refine aw_skip ?_ | refine abl_n ?_ | refine aw_block ?_)
          have hsil := empty_iff (gti n.trans k).label
          refine aw_if rfl (fun hlab => ?_) (fun hlab => ?_)
          · (refine aw_exit ?_; repeat (first | refine ath_x ?_ | refine abl_hit ?_ | refine abl_miss rfl ?_ | refine abl_n ?_ | refine ath_n ?_ | refine aw_seq ?_ | refine aw_skip ?_ | refine aw_block ?_))
            refine aw_region ?_
            refine ops_op rfl rfl (runs_none rfl) (mv_s (.inl rfl) rfl) ?_
            refine ops_op rfl rfl (runs_none rfl) (does_add rfl rfl rfl (IntWalk.i64_in _ (by omega))) ?_
            refine ops_op rfl rfl (runs_none rfl) (mv_s (.inr rfl) rfl) ?_
            refine ops_nil ?_
            repeat (first | refine aw_seq ?_ | refine ath_n ?_ | refine aw_skip ?_ | refine abl_n ?_ | refine aw_block ?_)
            have HS : roundS n (gti q i) q (k + 1) = q2 := by
              rw [HST]; unfold stepS silB; rw [hsil, if_pos (.inl (by simpa using hlab))]
            refine ⟨k + 1, by omega, by omega, ?_⟩
            rw [HS]
            exact wk_sub _ ⟨rfl, rfl, rfl, rfl, rfl, rfl, trivial⟩
          · have hlab2 : silB n k ≠ false := by unfold silB; rw [hsil]; simpa using hlab
            repeat (first | refine aw_seq ?_ | refine ath_n ?_ | refine aw_skip ?_ | refine abl_n ?_ | refine aw_block ?_)
            have hx3 : gti q2 i = gti q i := hx2
            refine aw_draw hmix ?_
            refine adraw_quiet (by kernel_rfl) ?_
            first | refine qx_op rfl rfl (runs_none rfl) (does_load_refw rfl ta24 ti24 rfl rfl) ?_ | refine qx_op rfl rfl (runs_none rfl) (does_load_whole rfl ta24 ti24 rfl rfl rfl rfl rfl) ?_ | refine qx_op rfl rfl (runs_none rfl) (does_load_refs rfl ta24 ti24 rfl (Nat.le_of_ble_eq_true rfl)) ?_ | refine qx_op rfl rfl (runs_none rfl) (does_load_ptrs rfl ta24 ti24 rfl rfl rfl rfl (Nat.le_of_ble_eq_true rfl)) ?_
            first | refine qx_op rfl rfl (runs_none rfl) (mv_own (.inl rfl) rfl) ?_ | refine qx_op rfl rfl (runs_none rfl) (mv_sl (.inl rfl) rfl) ?_ | refine qx_op rfl rfl (runs_none rfl) (mv_s (.inl rfl) rfl) ?_ | refine qx_op rfl rfl (runs_none rfl) (mv_emp (.inl rfl) rfl) ?_
            refine qx_op rfl rfl (runs_none rfl) (mv_s (.inl rfl) rfl) ?_
            first | refine qx_op rfl rfl (runs_none rfl) (does_index_sl rfl ts101 ti30 rfl rfl rfl (ix_map (by omega)) rfl) ?_ | refine qx_op rfl rfl (runs_none rfl) (does_index_own rfl ts101 ti30 rfl rfl rfl (by omega)) ?_
            first | refine qx_op rfl rfl (runs_none rfl) (does_load_ref rfl ta30 rfl) ?_ | refine qx_op rfl rfl (runs_none rfl) (does_load_ptr rfl ta30 rfl rfl rfl (ix_map hi2) rfl) ?_
            refine qx_op rfl rfl (runs_none rfl) (mv_s (.inl rfl) rfl) ?_
            refine qx_op rfl rfl (runs_none rfl) (does_call rfl rfl (rFire_pf n (gti q2 i).m k) (evc_cons rfl (evc_cons rfl (evc_cons rfl evc_nil)))) ?_
            first | refine qx_op rfl rfl (runs_none rfl) (mv_tup (.inl rfl) rfl) ?_ | refine qx_op rfl rfl (runs_none rfl) (mv_s (.inl rfl) rfl) ?_
            refine qx_op rfl rfl (runs_none rfl) (does_extract rfl rfl rfl) ?_
            refine qx_op rfl rfl (runs_none rfl) (does_extract rfl rfl rfl) ?_
            first | refine qx_op rfl rfl (runs_none rfl) (mv_own (.inr rfl) rfl) ?_ | refine qx_op rfl rfl (runs_none rfl) (mv_sl (.inr rfl) rfl) ?_ | refine qx_op rfl rfl (runs_none rfl) (mv_s (.inr rfl) rfl) ?_ | refine qx_op rfl rfl (runs_none rfl) (mv_emp (.inr rfl) rfl) ?_
            refine qx_op rfl rfl (runs_none rfl) (mv_s (.inr rfl) rfl) ?_
            refine qx_nil ?_
            repeat (first | refine aw_seq ?_ | refine ath_n ?_ | refine aw_skip ?_ | refine abl_n ?_ | refine aw_block ?_)
            rw [hx3]
            have HST2 : roundS n (gti q i) q (k + 1) = if (FireE n (gti q i).m k).2 ≠ 0 ∨ (FireE n (gti q i).m k).1 ∈ q2.map Nd.m then q2 else q2 ++ [⟨0, (FireE n (gti q i).m k).1, (gti q i).run ++ [(k : Int)]⟩] := by
              rw [HST]; unfold stepS; rw [if_neg (by simp [hlab2, h200])]
            generalize hfe : FireE n (gti q i).m k = fe at *
            by_cases h0 : fe.2 = 0
            · by_cases hmem : fe.1 ∈ q2.map Nd.m
              · skip
                refine aw_region ?_
                refine ops_op rfl rfl (runs_none rfl) (mv_s (.inl rfl) rfl) ?_
                refine ops_op rfl rfl (runs_none rfl) (dec_t h0 (does_eql rfl rfl rfl)) ?_
                refine ops_op rfl rfl (runs_none rfl) (mv_s (.inl rfl) rfl) ?_
                first | refine ops_op rfl rfl (runs_y rfl rfl rfl) (mv_own (.inl rfl) rfl) ?_ | refine ops_op rfl rfl (runs_y rfl rfl rfl) (mv_sl (.inl rfl) rfl) ?_ | refine ops_op rfl rfl (runs_y rfl rfl rfl) (mv_s (.inl rfl) rfl) ?_ | refine ops_op rfl rfl (runs_y rfl rfl rfl) (mv_emp (.inl rfl) rfl) ?_ | refine ops_skip rfl rfl (runs_nt rfl rfl rfl) ?_ | refine ops_skip rfl rfl (runs_nu rfl rfl rfl) ?_
                first | refine ops_op rfl rfl (runs_y rfl rfl rfl) (mv_own (.inl rfl) rfl) ?_ | refine ops_op rfl rfl (runs_y rfl rfl rfl) (mv_sl (.inl rfl) rfl) ?_ | refine ops_op rfl rfl (runs_y rfl rfl rfl) (mv_s (.inl rfl) rfl) ?_ | refine ops_op rfl rfl (runs_y rfl rfl rfl) (mv_emp (.inl rfl) rfl) ?_ | refine ops_skip rfl rfl (runs_nt rfl rfl rfl) ?_ | refine ops_skip rfl rfl (runs_nu rfl rfl rfl) ?_
                first | refine ops_op rfl rfl (runs_y rfl rfl rfl) (does_callb rfl rfl (has_pf' q2 fe.1) (by repeat' (first | exact FiniL.nil | refine FiniL.cons ?_ ?_ | exact .own _ _ _ _ _ rfl rfl (by first | rfl | simp) | exact .refl _)) (by repeat' (first | exact Flat.s _ | exact flat_nil | refine flat_cons ?_ ?_ | refine Flat.agg ?_ | refine Flat.tup ?_))) ?_ | refine ops_skip rfl rfl (runs_nt rfl rfl rfl) ?_ | refine ops_skip rfl rfl (runs_nu rfl rfl rfl) ?_
                first | refine ops_op rfl rfl (runs_y rfl rfl rfl) (dec_f (fun h => h hmem) (does_notp rfl rfl)) ?_ | refine ops_skip rfl rfl (runs_nt rfl rfl rfl) ?_ | refine ops_skip rfl rfl (runs_nu rfl rfl rfl) ?_
                first | refine ops_op rfl rfl (runs_none rfl) (pickT_s rfl rfl rfl) ?_ | refine ops_op rfl rfl (runs_none rfl) (pickF_s rfl rfl rfl) ?_ | refine ops_op rfl rfl (runs_none rfl) (does_pickT rfl rfl rfl) ?_ | refine ops_op rfl rfl (runs_none rfl) (does_pickF rfl rfl rfl) ?_
                refine ops_nil ?_
                repeat (first | refine aw_seq ?_ | refine ath_n ?_ | refine aw_skip ?_ | refine abl_n ?_ | refine aw_block ?_)
                refine aw_false rfl ?_
                repeat (first | refine aw_seq ?_ | refine ath_n ?_ | refine aw_skip ?_ | refine abl_n ?_ | refine aw_block ?_)
                refine aw_region ?_
                refine ops_op rfl rfl (runs_none rfl) (mv_s (.inl rfl) rfl) ?_
                refine ops_op rfl rfl (runs_none rfl) (does_add rfl rfl rfl (IntWalk.i64_in _ (by omega))) ?_
                refine ops_op rfl rfl (runs_none rfl) (mv_s (.inr rfl) rfl) ?_
                refine ops_nil ?_
                repeat (first | refine aw_seq ?_ | refine ath_n ?_ | refine aw_skip ?_ | refine abl_n ?_ | refine aw_block ?_)
                refine ⟨k + 1, by omega, by omega, ?_⟩
                rw [HST2, if_pos (.inr hmem)]
                exact wk_sub _ ⟨rfl, rfl, rfl, rfl, rfl, rfl, trivial⟩
              · have hrl : (gti q2 i).run.length ≤ 200 := by rw [hx3]; omega
                refine aw_region ?_
                refine ops_op rfl rfl (runs_none rfl) (mv_s (.inl rfl) rfl) ?_
                refine ops_op rfl rfl (runs_none rfl) (dec_t h0 (does_eql rfl rfl rfl)) ?_
                refine ops_op rfl rfl (runs_none rfl) (mv_s (.inl rfl) rfl) ?_
                first | refine ops_op rfl rfl (runs_y rfl rfl rfl) (mv_own (.inl rfl) rfl) ?_ | refine ops_op rfl rfl (runs_y rfl rfl rfl) (mv_sl (.inl rfl) rfl) ?_ | refine ops_op rfl rfl (runs_y rfl rfl rfl) (mv_s (.inl rfl) rfl) ?_ | refine ops_op rfl rfl (runs_y rfl rfl rfl) (mv_emp (.inl rfl) rfl) ?_ | refine ops_skip rfl rfl (runs_nt rfl rfl rfl) ?_ | refine ops_skip rfl rfl (runs_nu rfl rfl rfl) ?_
                first | refine ops_op rfl rfl (runs_y rfl rfl rfl) (mv_own (.inl rfl) rfl) ?_ | refine ops_op rfl rfl (runs_y rfl rfl rfl) (mv_sl (.inl rfl) rfl) ?_ | refine ops_op rfl rfl (runs_y rfl rfl rfl) (mv_s (.inl rfl) rfl) ?_ | refine ops_op rfl rfl (runs_y rfl rfl rfl) (mv_emp (.inl rfl) rfl) ?_ | refine ops_skip rfl rfl (runs_nt rfl rfl rfl) ?_ | refine ops_skip rfl rfl (runs_nu rfl rfl rfl) ?_
                first | refine ops_op rfl rfl (runs_y rfl rfl rfl) (does_callb rfl rfl (has_pf' q2 fe.1) (by repeat' (first | exact FiniL.nil | refine FiniL.cons ?_ ?_ | exact .own _ _ _ _ _ rfl rfl (by first | rfl | simp) | exact .refl _)) (by repeat' (first | exact Flat.s _ | exact flat_nil | refine flat_cons ?_ ?_ | refine Flat.agg ?_ | refine Flat.tup ?_))) ?_ | refine ops_skip rfl rfl (runs_nt rfl rfl rfl) ?_ | refine ops_skip rfl rfl (runs_nu rfl rfl rfl) ?_
                first | refine ops_op rfl rfl (runs_y rfl rfl rfl) (dec_t hmem (does_notp rfl rfl)) ?_ | refine ops_skip rfl rfl (runs_nt rfl rfl rfl) ?_ | refine ops_skip rfl rfl (runs_nu rfl rfl rfl) ?_
                first | refine ops_op rfl rfl (runs_none rfl) (pickT_s rfl rfl rfl) ?_ | refine ops_op rfl rfl (runs_none rfl) (pickF_s rfl rfl rfl) ?_ | refine ops_op rfl rfl (runs_none rfl) (does_pickT rfl rfl rfl) ?_ | refine ops_op rfl rfl (runs_none rfl) (does_pickF rfl rfl rfl) ?_
                refine ops_nil ?_
                repeat (first | refine aw_seq ?_ | refine ath_n ?_ | refine aw_skip ?_ | refine abl_n ?_ | refine aw_block ?_)
                refine aw_true rfl ?_
                repeat (first | refine aw_seq ?_ | refine ath_n ?_ | refine aw_skip ?_ | refine abl_n ?_ | refine aw_block ?_)
                refine aw_region ?_
                first | refine ops_op rfl rfl (runs_none rfl) (mv_own (.inl rfl) rfl) ?_ | refine ops_op rfl rfl (runs_none rfl) (mv_sl (.inl rfl) rfl) ?_ | refine ops_op rfl rfl (runs_none rfl) (mv_s (.inl rfl) rfl) ?_ | refine ops_op rfl rfl (runs_none rfl) (mv_emp (.inl rfl) rfl) ?_
                first | refine ops_op rfl rfl (runs_none rfl) (mv_own (.inl rfl) rfl) ?_ | refine ops_op rfl rfl (runs_none rfl) (mv_sl (.inl rfl) rfl) ?_ | refine ops_op rfl rfl (runs_none rfl) (mv_s (.inl rfl) rfl) ?_ | refine ops_op rfl rfl (runs_none rfl) (mv_emp (.inl rfl) rfl) ?_
                first | refine ops_op rfl rfl (runs_none rfl) (lit1_s rfl ts101 ti30 rfl rfl rfl rfl) ?_ | refine ops_op rfl rfl (runs_none rfl) (lit1_sl rfl ts101 ti30 rfl rfl rfl rfl) ?_ | refine ops_op rfl rfl (runs_none rfl) (does_litA rfl ts101 ti30 rfl rfl (by decide) (by decide) rfl rfl rfl) ?_
                first | refine ops_op rfl rfl (runs_none rfl) (does_append rfl ts101 ti30 rfl (by decide) rfl rfl (by first | rfl | simp) rfl (by first | exact .own _ _ _ rfl rfl _ (by first | rfl | simp) | exact .emp | exact .nil | exact .sl _ (by first | simp; done | intro e he; simp at he; obtain ⟨_, _, rfl⟩ := he; rfl)) (by first | omega | (simp; omega) | (unfold maxLen; simp; omega)) (by first | omega | (simp; omega) | (unfold maxLen; simp; omega))) ?_ | refine ops_op rfl rfl (runs_none rfl) (does_append0 rfl ts101 ti30 rfl (by decide) rfl (.inl rfl) rfl (by first | exact .own _ _ _ rfl rfl _ (by first | rfl | simp) | exact .emp | exact .nil | exact .sl _ (by first | simp; done | intro e he; simp at he; obtain ⟨_, _, rfl⟩ := he; rfl)) (by first | omega | (simp; omega) | (unfold maxLen; simp; omega)) (by first | omega | (simp; omega) | (unfold maxLen; simp; omega))) ?_ | refine ops_op rfl rfl (runs_none rfl) (does_append0 rfl ts101 ti30 rfl (by decide) rfl (.inr rfl) rfl (by first | exact .own _ _ _ rfl rfl _ (by first | rfl | simp) | exact .emp | exact .nil | exact .sl _ (by first | simp; done | intro e he; simp at he; obtain ⟨_, _, rfl⟩ := he; rfl)) (by first | omega | (simp; omega) | (unfold maxLen; simp; omega)) (by first | omega | (simp; omega) | (unfold maxLen; simp; omega))) ?_
                first | refine ops_op rfl rfl (runs_none rfl) (mv_own (.inr rfl) rfl) ?_ | refine ops_op rfl rfl (runs_none rfl) (mv_sl (.inr rfl) rfl) ?_ | refine ops_op rfl rfl (runs_none rfl) (mv_s (.inr rfl) rfl) ?_ | refine ops_op rfl rfl (runs_none rfl) (mv_emp (.inr rfl) rfl) ?_
                refine ops_nil ?_
                repeat (first | refine aw_seq ?_ | refine ath_n ?_ | refine aw_skip ?_ | refine abl_n ?_ | refine aw_block ?_)
                refine aw_region ?_
                first | refine ops_op rfl rfl (runs_none rfl) (mv_own (.inl rfl) rfl) ?_ | refine ops_op rfl rfl (runs_none rfl) (mv_sl (.inl rfl) rfl) ?_ | refine ops_op rfl rfl (runs_none rfl) (mv_s (.inl rfl) rfl) ?_ | refine ops_op rfl rfl (runs_none rfl) (mv_emp (.inl rfl) rfl) ?_
                refine ops_op rfl rfl (runs_none rfl) (does_lit0 rfl rfl ts30 ti3) ?_
                first | refine ops_op rfl rfl (runs_none rfl) (mv_own (.inl rfl) rfl) ?_ | refine ops_op rfl rfl (runs_none rfl) (mv_sl (.inl rfl) rfl) ?_ | refine ops_op rfl rfl (runs_none rfl) (mv_s (.inl rfl) rfl) ?_ | refine ops_op rfl rfl (runs_none rfl) (mv_emp (.inl rfl) rfl) ?_
                refine ops_op rfl rfl (runs_none rfl) (mv_s (.inl rfl) rfl) ?_
                first | refine ops_op rfl rfl (runs_none rfl) (does_index_sl rfl ts101 ti30 rfl rfl rfl (ix_map (by omega)) rfl) ?_ | refine ops_op rfl rfl (runs_none rfl) (does_index_own rfl ts101 ti30 rfl rfl rfl (by omega)) ?_
                first | refine ops_op rfl rfl (runs_none rfl) (does_load_ref rfl ta30 rfl) ?_ | refine ops_op rfl rfl (runs_none rfl) (does_load_ptr rfl ta30 rfl rfl rfl (ix_map hi2) rfl) ?_
                first | refine ops_op rfl rfl (runs_none rfl) (does_append rfl ts30 ti3 rfl (by decide) rfl rfl (by first | rfl | simp) rfl (by first | exact .own _ _ _ rfl rfl _ (by first | rfl | simp) | exact .emp | exact .nil | exact .sl _ (by first | simp; done | intro e he; simp at he; obtain ⟨_, _, rfl⟩ := he; rfl)) (by first | omega | (simp; omega) | (unfold maxLen; simp; omega)) (by first | omega | (simp; omega) | (unfold maxLen; simp; omega))) ?_ | refine ops_op rfl rfl (runs_none rfl) (does_append0 rfl ts30 ti3 rfl (by decide) rfl (.inl rfl) rfl (by first | exact .own _ _ _ rfl rfl _ (by first | rfl | simp) | exact .emp | exact .nil | exact .sl _ (by first | simp; done | intro e he; simp at he; obtain ⟨_, _, rfl⟩ := he; rfl)) (by first | omega | (simp; omega) | (unfold maxLen; simp; omega)) (by first | omega | (simp; omega) | (unfold maxLen; simp; omega))) ?_ | refine ops_op rfl rfl (runs_none rfl) (does_append0 rfl ts30 ti3 rfl (by decide) rfl (.inr rfl) rfl (by first | exact .own _ _ _ rfl rfl _ (by first | rfl | simp) | exact .emp | exact .nil | exact .sl _ (by first | simp; done | intro e he; simp at he; obtain ⟨_, _, rfl⟩ := he; rfl)) (by first | omega | (simp; omega) | (unfold maxLen; simp; omega)) (by first | omega | (simp; omega) | (unfold maxLen; simp; omega))) ?_
                refine ops_op rfl rfl (runs_none rfl) (mv_s (.inl rfl) rfl) ?_
                first | refine ops_op rfl rfl (runs_none rfl) (lit1_s rfl ts30 ti3 rfl rfl rfl rfl) ?_ | refine ops_op rfl rfl (runs_none rfl) (lit1_sl rfl ts30 ti3 rfl rfl rfl rfl) ?_ | refine ops_op rfl rfl (runs_none rfl) (does_litA rfl ts30 ti3 rfl rfl (by decide) (by decide) rfl rfl rfl) ?_
                first | refine ops_op rfl rfl (runs_none rfl) (does_append rfl ts30 ti3 rfl (by decide) rfl rfl (by first | rfl | simp) rfl (by first | exact .own _ _ _ rfl rfl _ (by first | rfl | simp) | exact .emp | exact .nil | exact .sl _ (by first | simp; done | intro e he; simp at he; obtain ⟨_, _, rfl⟩ := he; rfl)) (by first | omega | (simp; omega) | (unfold maxLen; simp; omega)) (by first | omega | (simp; omega) | (unfold maxLen; simp; omega))) ?_ | refine ops_op rfl rfl (runs_none rfl) (does_append0 rfl ts30 ti3 rfl (by decide) rfl (.inl rfl) rfl (by first | exact .own _ _ _ rfl rfl _ (by first | rfl | simp) | exact .emp | exact .nil | exact .sl _ (by first | simp; done | intro e he; simp at he; obtain ⟨_, _, rfl⟩ := he; rfl)) (by first | omega | (simp; omega) | (unfold maxLen; simp; omega)) (by first | omega | (simp; omega) | (unfold maxLen; simp; omega))) ?_ | refine ops_op rfl rfl (runs_none rfl) (does_append0 rfl ts30 ti3 rfl (by decide) rfl (.inr rfl) rfl (by first | exact .own _ _ _ rfl rfl _ (by first | rfl | simp) | exact .emp | exact .nil | exact .sl _ (by first | simp; done | intro e he; simp at he; obtain ⟨_, _, rfl⟩ := he; rfl)) (by first | omega | (simp; omega) | (unfold maxLen; simp; omega)) (by first | omega | (simp; omega) | (unfold maxLen; simp; omega))) ?_
                refine aops_weak (wk_froz (id := 6) rfl) (aops_weak (wk_sl (d := 104) rfl rfl (by first | rfl | simp)) ?_)
                first | refine ops_op rfl rfl (runs_none rfl) (lit1_s rfl ts101 ti30 rfl rfl rfl rfl) ?_ | refine ops_op rfl rfl (runs_none rfl) (lit1_sl rfl ts101 ti30 rfl rfl rfl rfl) ?_ | refine ops_op rfl rfl (runs_none rfl) (does_litA rfl ts101 ti30 rfl rfl (by decide) (by decide) rfl rfl rfl) ?_
                first | refine ops_op rfl rfl (runs_none rfl) (does_append rfl ts101 ti30 rfl (by decide) rfl rfl (by first | rfl | simp) rfl (by first | exact .own _ _ _ rfl rfl _ (by first | rfl | simp) | exact .emp | exact .nil | exact .sl _ (by first | simp; done | intro e he; simp at he; obtain ⟨_, _, rfl⟩ := he; rfl)) (by first | omega | (simp; omega) | (unfold maxLen; simp; omega)) (by first | omega | (simp; omega) | (unfold maxLen; simp; omega))) ?_ | refine ops_op rfl rfl (runs_none rfl) (does_append0 rfl ts101 ti30 rfl (by decide) rfl (.inl rfl) rfl (by first | exact .own _ _ _ rfl rfl _ (by first | rfl | simp) | exact .emp | exact .nil | exact .sl _ (by first | simp; done | intro e he; simp at he; obtain ⟨_, _, rfl⟩ := he; rfl)) (by first | omega | (simp; omega) | (unfold maxLen; simp; omega)) (by first | omega | (simp; omega) | (unfold maxLen; simp; omega))) ?_ | refine ops_op rfl rfl (runs_none rfl) (does_append0 rfl ts101 ti30 rfl (by decide) rfl (.inr rfl) rfl (by first | exact .own _ _ _ rfl rfl _ (by first | rfl | simp) | exact .emp | exact .nil | exact .sl _ (by first | simp; done | intro e he; simp at he; obtain ⟨_, _, rfl⟩ := he; rfl)) (by first | omega | (simp; omega) | (unfold maxLen; simp; omega)) (by first | omega | (simp; omega) | (unfold maxLen; simp; omega))) ?_
                first | refine ops_op rfl rfl (runs_none rfl) (mv_own (.inr rfl) rfl) ?_ | refine ops_op rfl rfl (runs_none rfl) (mv_sl (.inr rfl) rfl) ?_ | refine ops_op rfl rfl (runs_none rfl) (mv_s (.inr rfl) rfl) ?_ | refine ops_op rfl rfl (runs_none rfl) (mv_emp (.inr rfl) rfl) ?_
                refine ops_nil ?_
                repeat (first | refine aw_seq ?_ | refine ath_n ?_ | refine aw_skip ?_ | refine abl_n ?_ | refine aw_block ?_)
                refine aw_region ?_
                refine ops_op rfl rfl (runs_none rfl) (mv_s (.inl rfl) rfl) ?_
                refine ops_op rfl rfl (runs_none rfl) (does_add rfl rfl rfl (IntWalk.i64_in _ (by omega))) ?_
                refine ops_op rfl rfl (runs_none rfl) (mv_s (.inr rfl) rfl) ?_
                refine ops_nil ?_
                repeat (first | refine aw_seq ?_ | refine ath_n ?_ | refine aw_skip ?_ | refine abl_n ?_ | refine aw_block ?_)
                refine ⟨k + 1, by omega, by omega, ?_⟩
                rw [HST2, if_neg (by simp [h0, hmem])]
                refine wk_st [3, 8] (by decide) ⟨⟨_, rfl, .rowE (by repeat' (first | exact Lo.s _ | exact Lo.emp | exact Lo.any | exact lo_nil | exact lo_nilE | refine lo_cons ?_ ?_ | refine lo_consE ?_ ?_ | refine lo_map ?_ | refine lo_mapE ?_ | refine Lo.cells ?_ | refine Lo.agg _ ?_ | refine Lo.ref _ ?_ | refine Lo.tup _ ?_ | refine Lo.fn _ _ ?_ | refine Lo.sl _ ?_ | intro _)) (by rw [List.map_append]; rfl)⟩, ⟨_, rfl, .rowE (by repeat' (first | exact Lo.s _ | exact Lo.emp | exact Lo.any | exact lo_nil | exact lo_nilE | refine lo_cons ?_ ?_ | refine lo_consE ?_ ?_ | refine lo_map ?_ | refine lo_mapE ?_ | refine Lo.cells ?_ | refine Lo.agg _ ?_ | refine Lo.ref _ ?_ | refine Lo.tup _ ?_ | refine Lo.fn _ _ ?_ | refine Lo.sl _ ?_ | intro _)) (by rw [List.map_append, ← hx3]; simp [eL, eI])⟩, trivial⟩ ⟨.lo _ (by repeat' (first | exact Lo.s _ | exact Lo.emp | exact Lo.any | exact lo_nil | exact lo_nilE | refine lo_cons ?_ ?_ | refine lo_consE ?_ ?_ | refine lo_map ?_ | refine lo_mapE ?_ | refine Lo.cells ?_ | refine Lo.agg _ ?_ | refine Lo.ref _ ?_ | refine Lo.tup _ ?_ | refine Lo.fn _ _ ?_ | refine Lo.sl _ ?_ | intro _)), .lo _ (by repeat' (first | exact Lo.s _ | exact Lo.emp | exact Lo.any | exact lo_nil | exact lo_nilE | refine lo_cons ?_ ?_ | refine lo_consE ?_ ?_ | refine lo_map ?_ | refine lo_mapE ?_ | refine Lo.cells ?_ | refine Lo.agg _ ?_ | refine Lo.ref _ ?_ | refine Lo.tup _ ?_ | refine Lo.fn _ _ ?_ | refine Lo.sl _ ?_ | intro _)), .lo _ (by repeat' (first | exact Lo.s _ | exact Lo.emp | exact Lo.any | exact lo_nil | exact lo_nilE | refine lo_cons ?_ ?_ | refine lo_consE ?_ ?_ | refine lo_map ?_ | refine lo_mapE ?_ | refine Lo.cells ?_ | refine Lo.agg _ ?_ | refine Lo.ref _ ?_ | refine Lo.tup _ ?_ | refine Lo.fn _ _ ?_ | refine Lo.sl _ ?_ | intro _)), .own 3 0 1 _ _ rfl (by simp), .own 8 1 1 _ _ rfl (by simp), .lo _ (by repeat' (first | exact Lo.s _ | exact Lo.emp | exact Lo.any | exact lo_nil | exact lo_nilE | refine lo_cons ?_ ?_ | refine lo_consE ?_ ?_ | refine lo_map ?_ | refine lo_mapE ?_ | refine Lo.cells ?_ | refine Lo.agg _ ?_ | refine Lo.ref _ ?_ | refine Lo.tup _ ?_ | refine Lo.fn _ _ ?_ | refine Lo.sl _ ?_ | intro _)), trivial⟩
            · skip
              refine aw_region ?_
              refine ops_op rfl rfl (runs_none rfl) (mv_s (.inl rfl) rfl) ?_
              refine ops_op rfl rfl (runs_none rfl) (dec_f h0 (does_eql rfl rfl rfl)) ?_
              refine ops_op rfl rfl (runs_none rfl) (mv_s (.inl rfl) rfl) ?_
              first | refine ops_op rfl rfl (runs_y rfl rfl rfl) (mv_own (.inl rfl) rfl) ?_ | refine ops_op rfl rfl (runs_y rfl rfl rfl) (mv_sl (.inl rfl) rfl) ?_ | refine ops_op rfl rfl (runs_y rfl rfl rfl) (mv_s (.inl rfl) rfl) ?_ | refine ops_op rfl rfl (runs_y rfl rfl rfl) (mv_emp (.inl rfl) rfl) ?_ | refine ops_skip rfl rfl (runs_nt rfl rfl rfl) ?_ | refine ops_skip rfl rfl (runs_nu rfl rfl rfl) ?_
              first | refine ops_op rfl rfl (runs_y rfl rfl rfl) (mv_own (.inl rfl) rfl) ?_ | refine ops_op rfl rfl (runs_y rfl rfl rfl) (mv_sl (.inl rfl) rfl) ?_ | refine ops_op rfl rfl (runs_y rfl rfl rfl) (mv_s (.inl rfl) rfl) ?_ | refine ops_op rfl rfl (runs_y rfl rfl rfl) (mv_emp (.inl rfl) rfl) ?_ | refine ops_skip rfl rfl (runs_nt rfl rfl rfl) ?_ | refine ops_skip rfl rfl (runs_nu rfl rfl rfl) ?_
              first | refine ops_op rfl rfl (runs_y rfl rfl rfl) (does_call rfl rfl (by assumption) (evc_cons rfl (evc_cons rfl evc_nil))) ?_ | refine ops_skip rfl rfl (runs_nt rfl rfl rfl) ?_ | refine ops_skip rfl rfl (runs_nu rfl rfl rfl) ?_
              first | refine ops_op rfl rfl (runs_y rfl rfl rfl) (does_notp rfl rfl) ?_ | refine ops_op rfl rfl (runs_y rfl rfl rfl) (does_not rfl rfl) ?_ | refine ops_skip rfl rfl (runs_nt rfl rfl rfl) ?_ | refine ops_skip rfl rfl (runs_nu rfl rfl rfl) ?_
              first | refine ops_op rfl rfl (runs_none rfl) (pickT_s rfl rfl rfl) ?_ | refine ops_op rfl rfl (runs_none rfl) (pickF_s rfl rfl rfl) ?_ | refine ops_op rfl rfl (runs_none rfl) (does_pickT rfl rfl rfl) ?_ | refine ops_op rfl rfl (runs_none rfl) (does_pickF rfl rfl rfl) ?_
              refine ops_nil ?_
              repeat (first | refine aw_seq ?_ | refine ath_n ?_ | refine aw_skip ?_ | refine abl_n ?_ | refine aw_block ?_)
              refine aw_false rfl ?_
              repeat (first | refine aw_seq ?_ | refine ath_n ?_ | refine aw_skip ?_ | refine abl_n ?_ | refine aw_block ?_)
              refine aw_region ?_
              refine ops_op rfl rfl (runs_none rfl) (mv_s (.inl rfl) rfl) ?_
              refine ops_op rfl rfl (runs_none rfl) (does_add rfl rfl rfl (IntWalk.i64_in _ (by omega))) ?_
              refine ops_op rfl rfl (runs_none rfl) (mv_s (.inr rfl) rfl) ?_
              refine ops_nil ?_
              repeat (first | refine aw_seq ?_ | refine ath_n ?_ | refine aw_skip ?_ | refine abl_n ?_ | refine aw_block ?_)
              refine ⟨k + 1, by omega, by omega, ?_⟩
              rw [HST2, if_pos (.inl h0)]
              exact wk_sub _ ⟨rfl, rfl, rfl, rfl, rfl, rfl, trivial⟩
        · (refine aw_exit ?_; repeat (first | refine ath_x ?_ | refine abl_hit ?_ | refine abl_miss rfl ?_ | refine abl_n ?_ | refine ath_n ?_ | refine aw_seq ?_ | refine aw_skip ?_ | refine aw_block ?_))
          refine aw_region ?_
          refine ops_op rfl rfl (runs_none rfl) (mv_s (.inl rfl) rfl) ?_
          refine ops_op rfl rfl (runs_none rfl) (does_add rfl rfl rfl (IntWalk.i64_in _ (by omega))) ?_
          refine ops_op rfl rfl (runs_none rfl) (mv_s (.inr rfl) rfl) ?_
          refine ops_nil ?_
          repeat (first | refine aw_seq ?_ | refine ath_n ?_ | refine aw_skip ?_ | refine abl_n ?_ | refine aw_block ?_)
          exact ⟨(q2, i + 1), HEND q2 (HRF (by omega)) hi2 HQ2, by dsimp only; omega, wk_sub _ ⟨rfl, rfl, rfl, rfl, rfl, trivial⟩⟩
      · skip
        refine aw_region ?_
        refine ops_op rfl rfl (runs_none rfl) (mv_s (.inl rfl) rfl) ?_
        first | refine ops_op rfl rfl (runs_none rfl) (does_fieldAddr_ptr rfl tf24_1 (by decide) rfl) ?_ | refine ops_op rfl rfl (runs_none rfl) (does_fieldAddr_ref rfl tf24_1 (by decide) rfl) ?_
        first | refine ops_op rfl rfl (runs_none rfl) (does_load_ref rfl ta22 rfl) ?_ | refine ops_op rfl rfl (runs_none rfl) (does_load_ptr rfl ta22 rfl rfl rfl rfl rfl) ?_
        first | refine ops_op rfl rfl (runs_none rfl) (does_len_map rfl ts22 rfl) ?_ | refine ops_op rfl rfl (runs_none rfl) (does_len_sl rfl ts22 rfl) ?_ | refine ops_op rfl rfl (runs_none rfl) (does_len_own rfl ts22 rfl) ?_ | refine ops_op rfl rfl (runs_none rfl) (does_len_s rfl ts22 rfl) ?_ | refine ops_op rfl rfl (runs_none rfl) (does_len_emp rfl ts22 rfl) ?_
        refine ops_op rfl rfl (runs_none rfl) (dec_f (by omega) (does_lss rfl rfl rfl)) ?_
        refine ops_op rfl rfl (runs_none rfl) (mv_s (.inl rfl) rfl) ?_
        first | refine ops_op rfl rfl (runs_y rfl rfl rfl) (mv_own (.inl rfl) rfl) ?_ | refine ops_op rfl rfl (runs_y rfl rfl rfl) (mv_sl (.inl rfl) rfl) ?_ | refine ops_op rfl rfl (runs_y rfl rfl rfl) (mv_s (.inl rfl) rfl) ?_ | refine ops_op rfl rfl (runs_y rfl rfl rfl) (mv_emp (.inl rfl) rfl) ?_ | refine ops_skip rfl rfl (runs_nt rfl rfl rfl) ?_ | refine ops_skip rfl rfl (runs_nu rfl rfl rfl) ?_
        first | refine ops_op rfl rfl (runs_y rfl rfl rfl) (does_len_map rfl ts101 rfl) ?_ | refine ops_op rfl rfl (runs_y rfl rfl rfl) (does_len_sl rfl ts101 rfl) ?_ | refine ops_op rfl rfl (runs_y rfl rfl rfl) (does_len_own rfl ts101 rfl) ?_ | refine ops_op rfl rfl (runs_y rfl rfl rfl) (does_len_s rfl ts101 rfl) ?_ | refine ops_op rfl rfl (runs_y rfl rfl rfl) (does_len_emp rfl ts101 rfl) ?_ | refine ops_skip rfl rfl (runs_nt rfl rfl rfl) ?_ | refine ops_skip rfl rfl (runs_nu rfl rfl rfl) ?_
        first | refine ops_op rfl rfl (runs_y rfl rfl rfl) (does_lss rfl rfl rfl) ?_ | refine ops_skip rfl rfl (runs_nt rfl rfl rfl) ?_ | refine ops_skip rfl rfl (runs_nu rfl rfl rfl) ?_
        first | refine ops_op rfl rfl (runs_none rfl) (pickT_s rfl rfl rfl) ?_ | refine ops_op rfl rfl (runs_none rfl) (pickF_s rfl rfl rfl) ?_ | refine ops_op rfl rfl (runs_none rfl) (does_pickT rfl rfl rfl) ?_ | refine ops_op rfl rfl (runs_none rfl) (does_pickF rfl rfl rfl) ?_
        refine ops_nil ?_
        repeat (first | refine aw_seq ?_ | refine ath_n ?_ | refine aw_skip ?_ | refine abl_n ?_ | refine aw_block ?_)
        refine aw_false rfl ?_
        (refine aw_exit ?_; repeat (first | refine ath_x ?_ | refine abl_hit ?_ | refine abl_miss rfl ?_ | refine abl_n ?_ | refine ath_n ?_ | refine aw_seq ?_ | refine aw_skip ?_ | refine aw_block ?_))
        refine aw_region ?_
        refine ops_op rfl rfl (runs_none rfl) (mv_s (.inl rfl) rfl) ?_
        refine ops_op rfl rfl (runs_none rfl) (does_add rfl rfl rfl (IntWalk.i64_in _ (by omega))) ?_
        refine ops_op rfl rfl (runs_none rfl) (mv_s (.inr rfl) rfl) ?_
        refine ops_nil ?_
        repeat (first | refine aw_seq ?_ | refine ath_n ?_ | refine aw_skip ?_ | refine abl_n ?_ | refine aw_block ?_)
        obtain rfl : k = n.trans.length := by omega
        exact ⟨(q2, i + 1), HEND q2 hq2 hi2 HQ2, by dsimp only; omega, wk_sub _ ⟨rfl, rfl, rfl, rfl, rfl, trivial⟩⟩
  · (refine aw_exit ?_; repeat (first | refine ath_x ?_ | refine abl_hit ?_ | refine abl_miss rfl ?_ | refine abl_n ?_ | refine ath_n ?_ | refine aw_seq ?_ | refine aw_skip ?_ | refine aw_block ?_))
    refine aw_region ?_
    first | refine ops_op rfl rfl (runs_none rfl) (mv_own (.inr rfl) rfl) ?_ | refine ops_op rfl rfl (runs_none rfl) (mv_sl (.inr rfl) rfl) ?_ | refine ops_op rfl rfl (runs_none rfl) (mv_s (.inr rfl) rfl) ?_ | refine ops_op rfl rfl (runs_none rfl) (mv_emp (.inr rfl) rfl) ?_
    refine ops_op rfl rfl (runs_none rfl) (mv_s (.inr rfl) rfl) ?_
    refine ops_nil ?_
    repeat (first | refine aw_seq ?_ | refine ath_n ?_ | refine aw_skip ?_ | refine abl_n ?_ | refine aw_block ?_)
    (refine aw_ret ?_; repeat (first | refine ath_r ?_ | refine abl_r ?_))
    obtain rfl : i = q.length := by omega
    have HE : silE n good m = none := by
      rw [HI]
      obtain h | ⟨k, h⟩ : 201 - q.length = 0 ∨ ∃ k, 201 - q.length = k + 1 := by
        rcases Nat.eq_zero_or_pos (201 - q.length) with h | h
        · exact .inl h
        · exact .inr ⟨201 - q.length - 1, by omega⟩
      · rw [h]; rfl
      · rw [h, srch, if_neg (by omega)]
    rw [HE]
    exact post2 (.inr rfl) rfl rfl .nil (.refl _)
end Go.Proofs.Ytmhbfoaecebobaa.Aw
end
