/-
  Texts joined: SxB. Conditions: none.
-/
import Derived.Test.YtcpnffjnagbkoaaJP6
import Derived.Test.YtcpnffjnagbkoaaJP8
section
namespace Go.Proofs.Ytcpnffjnagbkoaa.Aw
set_option linter.unusedSimpArgs false
set_option linter.unusedVariables false
open Go.RowKit Go.Proofs
variable {P : Program} [IsP P]

theorem fvalid1_pf (a : Fr) : Pure P 75 [eF a] (eB (!a.okB)) := by
  refine aw_fn (by rw [IsP.eq (P := P)]; exact Try.func75) rfl rfl rfl rfl rfl (by repeat' (first | exact Lo.s _ | exact Lo.emp | exact Lo.any | exact lo_nil | exact lo_nilE | refine lo_cons ?_ ?_ | refine lo_consE ?_ ?_ | refine lo_map ?_ | refine lo_mapE ?_ | refine Lo.cells ?_ | refine Lo.agg _ ?_ | refine Lo.ref _ ?_ | refine Lo.tup _ ?_ | refine Lo.fn _ _ ?_ | refine Lo.sl _ ?_ | intro _)) (by repeat' (first | exact Lo.s _ | exact Lo.emp | exact Lo.any | exact lo_nil | exact lo_nilE | refine lo_cons ?_ ?_ | refine lo_consE ?_ ?_ | refine lo_map ?_ | refine lo_mapE ?_ | refine Lo.cells ?_ | refine Lo.agg _ ?_ | refine Lo.ref _ ?_ | refine Lo.tup _ ?_ | refine Lo.fn _ _ ?_ | refine Lo.sl _ ?_ | intro _)) (by simp only [argF]; rfl) ?_
  repeat (first | refine aw_seq ?_ | refine ath_n ?_ | refine aw_skip ?_ | refine abl_n ?_ | refine aw_block ?_)
  refine aw_region ?_
  refine ops_op rfl rfl (runs_none rfl) (does_box rfl rfl rfl rfl) ?_
  refine aops_weak (wk_froz (id := 0) rfl) (aops_weak (wk_ref (d := 1) rfl rfl rfl) ?_)
  refine ops_op rfl rfl (runs_none rfl) (mv_s (.inr rfl) rfl) ?_
  refine ops_nil ?_
  repeat (first | refine aw_seq ?_ | refine ath_n ?_ | refine aw_skip ?_ | refine abl_n ?_ | refine aw_block ?_)
  refine aw_region ?_
  first | refine ops_op rfl rfl (runs_none rfl) (does_load_refw rfl ta28 ti28 rfl rfl) ?_ | refine ops_op rfl rfl (runs_none rfl) (does_load_whole rfl ta28 ti28 rfl rfl rfl rfl rfl) ?_ | refine ops_op rfl rfl (runs_none rfl) (does_load_refs rfl ta28 ti28 rfl (Nat.le_of_ble_eq_true rfl)) ?_ | refine ops_op rfl rfl (runs_none rfl) (does_load_ptrs rfl ta28 ti28 rfl rfl rfl rfl (Nat.le_of_ble_eq_true rfl)) ?_
  refine ops_op rfl rfl (runs_none rfl) (does_call rfl rfl (fValid_pf _) (evc_cons rfl evc_nil)) ?_
  first | refine ops_op rfl rfl (runs_none rfl) (does_notp rfl rfl) ?_ | refine ops_op rfl rfl (runs_none rfl) (does_not rfl rfl) ?_
  refine ops_op rfl rfl (runs_none rfl) (mv_s (.inr rfl) rfl) ?_
  refine ops_nil ?_
  repeat (first | refine aw_seq ?_ | refine ath_n ?_ | refine aw_skip ?_ | refine abl_n ?_ | refine aw_block ?_)
  (refine aw_ret ?_; repeat (first | refine ath_r ?_ | refine abl_r ?_))
  exact post1 (.inr rfl) rfl (congrArg eB (by simp [Fr.okB]))
theorem fvalid_pf (l : List Fr) : Pure P 50 [eL eF l] (eB (l.all Fr.okB)) := by
  have hc := containsFF_pf (P := P) 75 [] (fun a => !a.okB) l lo_F (.fn _ _ (by simp)) (fun a _ => fvalid1_pf a)
  refine aw_fn (by rw [IsP.eq (P := P)]; exact Try.func50) rfl rfl rfl rfl rfl (by repeat' (first | exact Lo.s _ | exact Lo.emp | exact Lo.any | exact lo_nil | exact lo_nilE | refine lo_cons ?_ ?_ | refine lo_consE ?_ ?_ | refine lo_map ?_ | refine lo_mapE ?_ | refine Lo.cells ?_ | refine Lo.agg _ ?_ | refine Lo.ref _ ?_ | refine Lo.tup _ ?_ | refine Lo.fn _ _ ?_ | refine Lo.sl _ ?_ | intro _)) (by repeat' (first | exact Lo.s _ | exact Lo.emp | exact Lo.any | exact lo_nil | exact lo_nilE | refine lo_cons ?_ ?_ | refine lo_consE ?_ ?_ | refine lo_map ?_ | refine lo_mapE ?_ | refine Lo.cells ?_ | refine Lo.agg _ ?_ | refine Lo.ref _ ?_ | refine Lo.tup _ ?_ | refine Lo.fn _ _ ?_ | refine Lo.sl _ ?_ | intro _)) (by simp only [argF]; rfl) ?_
  repeat (first | refine aw_seq ?_ | refine ath_n ?_ | refine aw_skip ?_ | refine abl_n ?_ | refine aw_block ?_)
  refine aw_region ?_
  refine ops_op rfl rfl (runs_none rfl) (mv_s (.inr rfl) rfl) ?_
  refine ops_nil ?_
  repeat (first | refine aw_seq ?_ | refine ath_n ?_ | refine aw_skip ?_ | refine abl_n ?_ | refine aw_block ?_)
  refine aw_region ?_
  first | refine ops_op rfl rfl (runs_none rfl) (mv_own (.inl rfl) rfl) ?_ | refine ops_op rfl rfl (runs_none rfl) (mv_sl (.inl rfl) rfl) ?_ | refine ops_op rfl rfl (runs_none rfl) (mv_s (.inl rfl) rfl) ?_ | refine ops_op rfl rfl (runs_none rfl) (mv_emp (.inl rfl) rfl) ?_
  refine ops_op rfl rfl (runs_none rfl) (does_call rfl rfl (by assumption) (evc_cons rfl (evc_cons rfl evc_nil))) ?_
  first | refine ops_op rfl rfl (runs_none rfl) (does_notp rfl rfl) ?_ | refine ops_op rfl rfl (runs_none rfl) (does_not rfl rfl) ?_
  refine ops_op rfl rfl (runs_none rfl) (mv_s (.inr rfl) rfl) ?_
  refine ops_nil ?_
  repeat (first | refine aw_seq ?_ | refine ath_n ?_ | refine aw_skip ?_ | refine abl_n ?_ | refine aw_block ?_)
  (refine aw_ret ?_; repeat (first | refine ath_r ?_ | refine abl_r ?_))
  exact post1 (.inr rfl) rfl (congrArg eB (all_okB l).symm)
/-- the sum goes on -/
def dotG : Fr → List Fr → List Fr → FE
  | acc, a :: ta, b :: tb => if (mulE a b).e ≠ 0 then FE.err (mulE a b).e else if (addE acc ⟨(mulE a b).n, (mulE a b).d⟩).e ≠ 0 then FE.err (addE acc ⟨(mulE a b).n, (mulE a b).d⟩).e else dotG ⟨(addE acc ⟨(mulE a b).n, (mulE a b).d⟩).n, (addE acc ⟨(mulE a b).n, (mulE a b).d⟩).d⟩ ta tb
  | acc, _, _ => ⟨acc.n, acc.d, 0⟩
def dotE (a b : List Fr) : FE := if ¬ (a.all Fr.okB = true ∧ b.all Fr.okB = true) then FE.err 1 else if 1000 < a.length ∨ 1000 < b.length then FE.err 5 else if a.length ≠ b.length then FE.err 29 else dotG (Fr.of 0) a b
theorem dotG_step {acc : Fr} {a b : List Fr} {k : Nat} (h1 : k < a.length) (h2 : k < b.length) : dotG acc (a.drop k) (b.drop k) = if (mulE (gti a k) (gti b k)).e ≠ 0 then FE.err (mulE (gti a k) (gti b k)).e else if (addE acc ⟨(mulE (gti a k) (gti b k)).n, (mulE (gti a k) (gti b k)).d⟩).e ≠ 0 then FE.err (addE acc ⟨(mulE (gti a k) (gti b k)).n, (mulE (gti a k) (gti b k)).d⟩).e else dotG ⟨(addE acc ⟨(mulE (gti a k) (gti b k)).n, (mulE (gti a k) (gti b k)).d⟩).n, (addE acc ⟨(mulE (gti a k) (gti b k)).n, (mulE (gti a k) (gti b k)).d⟩).d⟩ (a.drop (k + 1)) (b.drop (k + 1)) := by
  have e1 : a.drop k = gti a k :: a.drop (k + 1) := by
    rw [List.drop_eq_getElem_cons h1]
    have := gti_get h1
    rw [List.getElem?_eq_getElem h1] at this
    rw [Option.some.inj this]
  have e2 : b.drop k = gti b k :: b.drop (k + 1) := by
    rw [List.drop_eq_getElem_cons h2]
    have := gti_get h2
    rw [List.getElem?_eq_getElem h2] at this
    rw [Option.some.inj this]
  rw [e1, e2, dotG]
theorem dotG_end {acc : Fr} {a b : List Fr} {k : Nat} (h : k = a.length) : dotG acc (a.drop k) (b.drop k) = ⟨acc.n, acc.d, 0⟩ := by
  subst h
  rw [List.drop_length, dotG]
  intro a ta b tb h; cases h
theorem dotE_arg {a b : List Fr} (h : ¬ (a.all Fr.okB = true ∧ b.all Fr.okB = true)) : dotE a b = ⟨0, 0, 1⟩ := if_pos h
theorem dotE_full {a b : List Fr} (h1 : a.all Fr.okB = true) (h2 : b.all Fr.okB = true) (h : 1000 < a.length ∨ 1000 < b.length) : dotE a b = ⟨0, 0, 5⟩ := by unfold dotE; rw [if_neg (fun h => h ⟨h1, h2⟩), if_pos h]; rfl
theorem dotE_size {a b : List Fr} (h1 : a.all Fr.okB = true) (h2 : b.all Fr.okB = true) (h3 : ¬ (1000 < a.length ∨ 1000 < b.length)) (h : a.length ≠ b.length) : dotE a b = ⟨0, 0, 29⟩ := by unfold dotE; rw [if_neg (fun h => h ⟨h1, h2⟩), if_neg h3, if_pos h]; rfl
theorem dotE_go {a b : List Fr} (h1 : a.all Fr.okB = true) (h2 : b.all Fr.okB = true) (h3 : ¬ (1000 < a.length ∨ 1000 < b.length)) (h : a.length = b.length) : dotE a b = dotG (Fr.of 0) (a.drop 0) (b.drop 0) := by unfold dotE; rw [if_neg (fun h => h ⟨h1, h2⟩), if_neg h3, if_neg (fun h' => h' h)]; rfl
set_option maxHeartbeats 1000000 in
theorem rDot_pf (a b : List Fr) : Pure P 33 [eL eF a, eL eF b] (eFE (dotE a b)) := by
  refine aw_fn (by rw [IsP.eq (P := P)]; exact Try.func33) rfl rfl rfl rfl rfl (by repeat' (first | exact Lo.s _ | exact Lo.emp | exact Lo.any | exact lo_nil | exact lo_nilE | refine lo_cons ?_ ?_ | refine lo_consE ?_ ?_ | refine lo_map ?_ | refine lo_mapE ?_ | refine Lo.cells ?_ | refine Lo.agg _ ?_ | refine Lo.ref _ ?_ | refine Lo.tup _ ?_ | refine Lo.fn _ _ ?_ | refine Lo.sl _ ?_ | intro _)) (by repeat' (first | exact Lo.s _ | exact Lo.emp | exact Lo.any | exact lo_nil | exact lo_nilE | refine lo_cons ?_ ?_ | refine lo_consE ?_ ?_ | refine lo_map ?_ | refine lo_mapE ?_ | refine Lo.cells ?_ | refine Lo.agg _ ?_ | refine Lo.ref _ ?_ | refine Lo.tup _ ?_ | refine Lo.fn _ _ ?_ | refine Lo.sl _ ?_ | intro _)) (by simp only [argF]; rfl) ?_
  repeat (first | refine aw_seq ?_ | refine ath_n ?_ | refine aw_skip ?_ | refine abl_n ?_ | refine aw_block ?_)
  refine aw_bdm (d := 0) rfl (fun hm1 => ?_)
  refine aw_bdm (d := 1) rfl (fun hm2 => ?_)
  unfold maxLen at hm1 hm2
  refine aw_region ?_
  refine ops_op rfl rfl (runs_none rfl) (does_alloc rfl ti28 rfl rfl) ?_
  refine ops_op rfl rfl (runs_none rfl) (mv_s (.inr rfl) rfl) ?_
  refine ops_nil ?_
  repeat (first | refine aw_seq ?_ | refine ath_n ?_ | refine aw_skip ?_ | refine abl_n ?_ | refine aw_block ?_)
  all_goals refine aw_region ?_
  all_goals (first | refine ops_op rfl rfl (runs_none rfl) (mv_own (.inl rfl) rfl) ?_ | refine ops_op rfl rfl (runs_none rfl) (mv_sl (.inl rfl) rfl) ?_ | refine ops_op rfl rfl (runs_none rfl) (mv_s (.inl rfl) rfl) ?_ | refine ops_op rfl rfl (runs_none rfl) (mv_emp (.inl rfl) rfl) ?_)
  all_goals (first | refine ops_opP rfl rfl (runs_none rfl) (does_call rfl rfl (rValidAll_pf _) (evc_cons rfl evc_nil)) (fun h11 => ?_) (fun h11 => ?_) | refine ops_opB rfl rfl (runs_none rfl) (does_call rfl rfl (rValidAll_pf _) (evc_cons rfl evc_nil)) (fun h11 => ?_) (fun h11 => ?_))
  all_goals (first | refine ops_op rfl rfl (runs_none rfl) (does_notp rfl rfl) ?_ | refine ops_op rfl rfl (runs_none rfl) (does_not rfl rfl) ?_)
  all_goals refine ops_op rfl rfl (runs_none rfl) (mv_s (.inl rfl) rfl) ?_
  all_goals (first | refine ops_op rfl rfl (runs_y rfl rfl rfl) (mv_own (.inl rfl) rfl) ?_ | refine ops_op rfl rfl (runs_y rfl rfl rfl) (mv_sl (.inl rfl) rfl) ?_ | refine ops_op rfl rfl (runs_y rfl rfl rfl) (mv_s (.inl rfl) rfl) ?_ | refine ops_op rfl rfl (runs_y rfl rfl rfl) (mv_emp (.inl rfl) rfl) ?_ | refine ops_skip rfl rfl (runs_nf rfl rfl rfl) ?_ | refine ops_skip rfl rfl (runs_nu rfl rfl rfl) ?_)
  all_goals (first | refine ops_opP rfl rfl (runs_y rfl rfl rfl) (does_call rfl rfl (rValidAll_pf _) (evc_cons rfl evc_nil)) (fun h15 => ?_) (fun h15 => ?_) | refine ops_opB rfl rfl (runs_y rfl rfl rfl) (does_call rfl rfl (rValidAll_pf _) (evc_cons rfl evc_nil)) (fun h15 => ?_) (fun h15 => ?_) | refine ops_skip rfl rfl (runs_nf rfl rfl rfl) ?_ | refine ops_skip rfl rfl (runs_nu rfl rfl rfl) ?_)
  all_goals (first | refine ops_op rfl rfl (runs_y rfl rfl rfl) (does_notp rfl rfl) ?_ | refine ops_op rfl rfl (runs_y rfl rfl rfl) (does_not rfl rfl) ?_ | refine ops_skip rfl rfl (runs_nf rfl rfl rfl) ?_ | refine ops_skip rfl rfl (runs_nu rfl rfl rfl) ?_)
  all_goals (first | refine ops_op rfl rfl (runs_none rfl) (pickT_s rfl rfl rfl) ?_ | refine ops_op rfl rfl (runs_none rfl) (pickF_s rfl rfl rfl) ?_ | refine ops_op rfl rfl (runs_none rfl) (does_pickT rfl rfl rfl) ?_ | refine ops_op rfl rfl (runs_none rfl) (does_pickF rfl rfl rfl) ?_)
  all_goals refine ops_nil ?_
  all_goals (repeat (first | refine aw_seq ?_ | refine ath_n ?_ | refine aw_skip ?_ | refine abl_n ?_ | refine aw_block ?_))
  all_goals (first | refine aw_true rfl ?_ | refine aw_false rfl ?_)
  all_goals (repeat (first | refine aw_seq ?_ | refine ath_n ?_ | refine aw_skip ?_ | refine abl_n ?_ | refine aw_block ?_))
  · skip
    all_goals refine aw_region ?_
    all_goals (first | refine ops_op rfl rfl (runs_none rfl) (mv_own (.inl rfl) rfl) ?_ | refine ops_op rfl rfl (runs_none rfl) (mv_sl (.inl rfl) rfl) ?_ | refine ops_op rfl rfl (runs_none rfl) (mv_s (.inl rfl) rfl) ?_ | refine ops_op rfl rfl (runs_none rfl) (mv_emp (.inl rfl) rfl) ?_)
    all_goals (first | refine ops_op rfl rfl (runs_none rfl) (does_len_map rfl ts22 rfl) ?_ | refine ops_op rfl rfl (runs_none rfl) (does_len_sl rfl ts22 rfl) ?_ | refine ops_op rfl rfl (runs_none rfl) (does_len_own rfl ts22 rfl) ?_ | refine ops_op rfl rfl (runs_none rfl) (does_len_s rfl ts22 rfl) ?_ | refine ops_op rfl rfl (runs_none rfl) (does_len_emp rfl ts22 rfl) ?_)
    all_goals (first | refine ops_opP rfl rfl (runs_none rfl) (does_gtr rfl rfl rfl) (fun h21 => ?_) (fun h21 => ?_) | refine ops_opB rfl rfl (runs_none rfl) (does_gtr rfl rfl rfl) (fun h21 => ?_) (fun h21 => ?_))
    all_goals refine ops_op rfl rfl (runs_none rfl) (mv_s (.inl rfl) rfl) ?_
    all_goals (first | refine ops_op rfl rfl (runs_y rfl rfl rfl) (mv_own (.inl rfl) rfl) ?_ | refine ops_op rfl rfl (runs_y rfl rfl rfl) (mv_sl (.inl rfl) rfl) ?_ | refine ops_op rfl rfl (runs_y rfl rfl rfl) (mv_s (.inl rfl) rfl) ?_ | refine ops_op rfl rfl (runs_y rfl rfl rfl) (mv_emp (.inl rfl) rfl) ?_ | refine ops_skip rfl rfl (runs_nf rfl rfl rfl) ?_ | refine ops_skip rfl rfl (runs_nu rfl rfl rfl) ?_)
    all_goals (first | refine ops_op rfl rfl (runs_y rfl rfl rfl) (does_len_map rfl ts22 rfl) ?_ | refine ops_op rfl rfl (runs_y rfl rfl rfl) (does_len_sl rfl ts22 rfl) ?_ | refine ops_op rfl rfl (runs_y rfl rfl rfl) (does_len_own rfl ts22 rfl) ?_ | refine ops_op rfl rfl (runs_y rfl rfl rfl) (does_len_s rfl ts22 rfl) ?_ | refine ops_op rfl rfl (runs_y rfl rfl rfl) (does_len_emp rfl ts22 rfl) ?_ | refine ops_skip rfl rfl (runs_nf rfl rfl rfl) ?_ | refine ops_skip rfl rfl (runs_nu rfl rfl rfl) ?_)
    all_goals (first | refine ops_opP rfl rfl (runs_y rfl rfl rfl) (does_gtr rfl rfl rfl) (fun h25 => ?_) (fun h25 => ?_) | refine ops_opB rfl rfl (runs_y rfl rfl rfl) (does_gtr rfl rfl rfl) (fun h25 => ?_) (fun h25 => ?_) | refine ops_skip rfl rfl (runs_nf rfl rfl rfl) ?_ | refine ops_skip rfl rfl (runs_nu rfl rfl rfl) ?_)
    all_goals (first | refine ops_op rfl rfl (runs_none rfl) (pickT_s rfl rfl rfl) ?_ | refine ops_op rfl rfl (runs_none rfl) (pickF_s rfl rfl rfl) ?_ | refine ops_op rfl rfl (runs_none rfl) (does_pickT rfl rfl rfl) ?_ | refine ops_op rfl rfl (runs_none rfl) (does_pickF rfl rfl rfl) ?_)
    all_goals refine ops_nil ?_
    all_goals (repeat (first | refine aw_seq ?_ | refine ath_n ?_ | refine aw_skip ?_ | refine abl_n ?_ | refine aw_block ?_))
    all_goals (first | refine aw_true rfl ?_ | refine aw_false rfl ?_)
    all_goals (repeat (first | refine aw_seq ?_ | refine ath_n ?_ | refine aw_skip ?_ | refine abl_n ?_ | refine aw_block ?_))
    rotate_left 2
    · have h3 : ¬ (1000 < a.length ∨ 1000 < b.length) := by omega
      all_goals refine aw_region ?_
      all_goals (first | refine ops_op rfl rfl (runs_none rfl) (mv_own (.inl rfl) rfl) ?_ | refine ops_op rfl rfl (runs_none rfl) (mv_sl (.inl rfl) rfl) ?_ | refine ops_op rfl rfl (runs_none rfl) (mv_s (.inl rfl) rfl) ?_ | refine ops_op rfl rfl (runs_none rfl) (mv_emp (.inl rfl) rfl) ?_)
      all_goals (first | refine ops_op rfl rfl (runs_none rfl) (does_len_map rfl ts22 rfl) ?_ | refine ops_op rfl rfl (runs_none rfl) (does_len_sl rfl ts22 rfl) ?_ | refine ops_op rfl rfl (runs_none rfl) (does_len_own rfl ts22 rfl) ?_ | refine ops_op rfl rfl (runs_none rfl) (does_len_s rfl ts22 rfl) ?_ | refine ops_op rfl rfl (runs_none rfl) (does_len_emp rfl ts22 rfl) ?_)
      all_goals (first | refine ops_op rfl rfl (runs_none rfl) (mv_own (.inl rfl) rfl) ?_ | refine ops_op rfl rfl (runs_none rfl) (mv_sl (.inl rfl) rfl) ?_ | refine ops_op rfl rfl (runs_none rfl) (mv_s (.inl rfl) rfl) ?_ | refine ops_op rfl rfl (runs_none rfl) (mv_emp (.inl rfl) rfl) ?_)
      all_goals (first | refine ops_op rfl rfl (runs_none rfl) (does_len_map rfl ts22 rfl) ?_ | refine ops_op rfl rfl (runs_none rfl) (does_len_sl rfl ts22 rfl) ?_ | refine ops_op rfl rfl (runs_none rfl) (does_len_own rfl ts22 rfl) ?_ | refine ops_op rfl rfl (runs_none rfl) (does_len_s rfl ts22 rfl) ?_ | refine ops_op rfl rfl (runs_none rfl) (does_len_emp rfl ts22 rfl) ?_)
      all_goals (first | refine ops_opP rfl rfl (runs_none rfl) (does_neq rfl rfl rfl) (fun h32 => ?_) (fun h32 => ?_) | refine ops_opB rfl rfl (runs_none rfl) (does_neq rfl rfl rfl) (fun h32 => ?_) (fun h32 => ?_))
      all_goals refine ops_nil ?_
      all_goals (repeat (first | refine aw_seq ?_ | refine ath_n ?_ | refine aw_skip ?_ | refine abl_n ?_ | refine aw_block ?_))
      all_goals (first | refine aw_true rfl ?_ | refine aw_false rfl ?_)
      all_goals (repeat (first | refine aw_seq ?_ | refine ath_n ?_ | refine aw_skip ?_ | refine abl_n ?_ | refine aw_block ?_))
      · skip
        refine aw_region ?_
        refine ops_op rfl rfl (runs_none rfl) (does_build rfl ti28 tp28 rfl rfl) ?_
        refine ops_eff rfl (runs_none rfl) (does_store rfl ti28 rfl rfl rfl rfl rfl rfl (by decide) (by decide)) ?_
        refine ops_op rfl rfl (runs_none rfl) (mv_s (.inr rfl) rfl) ?_
        refine ops_nil ?_
        repeat (first | refine aw_seq ?_ | refine ath_n ?_ | refine aw_skip ?_ | refine abl_n ?_ | refine aw_block ?_)
        (refine aw_ret ?_; repeat (first | refine ath_r ?_ | refine abl_r ?_))
        exact post_ct (.inr rfl) ta28 ti28 rfl rfl rfl rfl rfl rfl (by rw [dotE_size h11 h15 h3 (by omega)]; rfl)
      · have hl : a.length = b.length := by omega
        have HI := dotE_go h11 h15 h3 hl
        refine aw_region ?_
        refine ops_op rfl rfl (runs_none rfl) (does_call rfl rfl (rOf_pf _) (evc_cons rfl evc_nil)) ?_
        refine ops_op rfl rfl (runs_none rfl) (does_alloc rfl ti28 rfl rfl) ?_
        refine ops_eff rfl (runs_none rfl) (does_store rfl ti28 rfl rfl rfl rfl rfl rfl (by decide) (by decide)) ?_
        refine ops_nil ?_
        repeat (first | refine aw_seq ?_ | refine ath_n ?_ | refine aw_skip ?_ | refine abl_n ?_ | refine aw_block ?_)
        refine aw_region ?_
        refine ops_op rfl rfl (runs_none rfl) (mv_s (.inr rfl) rfl) ?_
        refine ops_nil ?_
        repeat (first | refine aw_seq ?_ | refine ath_n ?_ | refine aw_skip ?_ | refine abl_n ?_ | refine aw_block ?_)
        refine aw_loops (S := Fr × Nat) (fun s => [(0, eL eF a), (1, eL eF b), (4, .ptr 0 2 0 0), (6, .ptr 1 2 0 0), (7, eI s.2)]) (fun s => [.row 2 [.agg [eI 0, eI 0]], .row 2 [eF s.1]]) (fun s => s.2 ≤ a.length ∧ dotE a b = dotG s.1 (a.drop s.2) (b.drop s.2)) (fun s => a.length - s.2) (Fr.of 0, 0) (wk_st [0, 1] (by decide) ⟨⟨_, rfl, .rowE (by repeat' (first | exact Lo.s _ | exact Lo.emp | exact Lo.any | exact lo_nil | exact lo_nilE | refine lo_cons ?_ ?_ | refine lo_consE ?_ ?_ | refine lo_map ?_ | refine lo_mapE ?_ | refine Lo.cells ?_ | refine Lo.agg _ ?_ | refine Lo.ref _ ?_ | refine Lo.tup _ ?_ | refine Lo.fn _ _ ?_ | refine Lo.sl _ ?_ | intro _)) rfl⟩, ⟨_, rfl, .rowE (by repeat' (first | exact Lo.s _ | exact Lo.emp | exact Lo.any | exact lo_nil | exact lo_nilE | refine lo_cons ?_ ?_ | refine lo_consE ?_ ?_ | refine lo_map ?_ | refine lo_mapE ?_ | refine Lo.cells ?_ | refine Lo.agg _ ?_ | refine Lo.ref _ ?_ | refine Lo.tup _ ?_ | refine Lo.fn _ _ ?_ | refine Lo.sl _ ?_ | intro _)) rfl⟩, trivial⟩ ⟨.lo _ (by repeat' (first | exact Lo.s _ | exact Lo.emp | exact Lo.any | exact lo_nil | exact lo_nilE | refine lo_cons ?_ ?_ | refine lo_consE ?_ ?_ | refine lo_map ?_ | refine lo_mapE ?_ | refine Lo.cells ?_ | refine Lo.agg _ ?_ | refine Lo.ref _ ?_ | refine Lo.tup _ ?_ | refine Lo.fn _ _ ?_ | refine Lo.sl _ ?_ | intro _)), .lo _ (by repeat' (first | exact Lo.s _ | exact Lo.emp | exact Lo.any | exact lo_nil | exact lo_nilE | refine lo_cons ?_ ?_ | refine lo_consE ?_ ?_ | refine lo_map ?_ | refine lo_mapE ?_ | refine Lo.cells ?_ | refine Lo.agg _ ?_ | refine Lo.ref _ ?_ | refine Lo.tup _ ?_ | refine Lo.fn _ _ ?_ | refine Lo.sl _ ?_ | intro _)), .ptr 0 0 2 0 0 rfl, .ptr 1 1 2 0 0 rfl, .lo _ (by repeat' (first | exact Lo.s _ | exact Lo.emp | exact Lo.any | exact lo_nil | exact lo_nilE | refine lo_cons ?_ ?_ | refine lo_consE ?_ ?_ | refine lo_map ?_ | refine lo_mapE ?_ | refine Lo.cells ?_ | refine Lo.agg _ ?_ | refine Lo.ref _ ?_ | refine Lo.tup _ ?_ | refine Lo.fn _ _ ?_ | refine Lo.sl _ ?_ | intro _)), trivial⟩) ⟨Nat.zero_le _, HI⟩ (fun s hk => ?_)
        obtain ⟨acc, k⟩ := s
        obtain ⟨hk, HI⟩ := hk
        dsimp only at hk HI ⊢
        repeat (first | refine aw_seq ?_ | refine ath_n ?_ | refine aw_skip ?_ | refine abl_n ?_ | refine aw_block ?_)
        all_goals refine aw_region ?_
        all_goals refine ops_op rfl rfl (runs_none rfl) (mv_s (.inl rfl) rfl) ?_
        all_goals (first | refine ops_op rfl rfl (runs_none rfl) (mv_own (.inl rfl) rfl) ?_ | refine ops_op rfl rfl (runs_none rfl) (mv_sl (.inl rfl) rfl) ?_ | refine ops_op rfl rfl (runs_none rfl) (mv_s (.inl rfl) rfl) ?_ | refine ops_op rfl rfl (runs_none rfl) (mv_emp (.inl rfl) rfl) ?_)
        all_goals (first | refine ops_op rfl rfl (runs_none rfl) (does_len_map rfl ts22 rfl) ?_ | refine ops_op rfl rfl (runs_none rfl) (does_len_sl rfl ts22 rfl) ?_ | refine ops_op rfl rfl (runs_none rfl) (does_len_own rfl ts22 rfl) ?_ | refine ops_op rfl rfl (runs_none rfl) (does_len_s rfl ts22 rfl) ?_ | refine ops_op rfl rfl (runs_none rfl) (does_len_emp rfl ts22 rfl) ?_)
        all_goals (first | refine ops_opP rfl rfl (runs_none rfl) (does_lss rfl rfl rfl) (fun h38 => ?_) (fun h38 => ?_) | refine ops_opB rfl rfl (runs_none rfl) (does_lss rfl rfl rfl) (fun h38 => ?_) (fun h38 => ?_))
        all_goals refine ops_nil ?_
        all_goals (repeat (first | refine aw_seq ?_ | refine ath_n ?_ | refine aw_skip ?_ | refine abl_n ?_ | refine aw_block ?_))
        all_goals (first | refine aw_true rfl ?_ | refine aw_false rfl ?_)
        all_goals (repeat (first | refine aw_seq ?_ | refine ath_n ?_ | refine aw_skip ?_ | refine abl_n ?_ | refine aw_block ?_))
        · have h1 : k < a.length := by omega
          have h2 : k < b.length := by omega
          rw [dotG_step h1 h2] at HI
          generalize hx : mulE (gti a k) (gti b k) = x at HI
          have hmul := rMul_pf (P := P) (gti a k) (gti b k)
          rw [hx] at hmul
          all_goals refine aw_draw hmix ?_
          all_goals refine adraw_ex ?_
          all_goals (first | refine ex_free rfl rfl (runs_none rfl) (fun _ => (mv_own (.inl rfl) rfl)) ?_ | refine ex_free rfl rfl (runs_none rfl) (fun _ => (mv_sl (.inl rfl) rfl)) ?_ | refine ex_free rfl rfl (runs_none rfl) (fun _ => (mv_s (.inl rfl) rfl)) ?_ | refine ex_free rfl rfl (runs_none rfl) (fun _ => (mv_emp (.inl rfl) rfl)) ?_)
          all_goals refine ex_free rfl rfl (runs_none rfl) (fun _ => (mv_s (.inl rfl) rfl)) ?_
          all_goals (first | refine ex_free rfl rfl (runs_none rfl) (fun _ => (does_index_sl rfl ts22 ti28 rfl rfl rfl (ix_map (by omega)) rfl)) ?_ | refine ex_free rfl rfl (runs_none rfl) (fun _ => (does_index_own rfl ts22 ti28 rfl rfl rfl (by omega))) ?_)
          all_goals (first | refine ex_free rfl rfl (runs_none rfl) (fun _ => (does_load_refw rfl ta28 ti28 rfl rfl)) ?_ | refine ex_look rfl rfl (runs_none rfl) (look_whole rfl ta28 ti28 rfl rfl rfl rfl rfl) ?_ | refine ex_free rfl rfl (runs_none rfl) (fun _ => (does_load_refs rfl ta28 ti28 rfl (Nat.le_of_ble_eq_true rfl))) ?_ | refine ex_look rfl rfl (runs_none rfl) (look_ptrs rfl ta28 ti28 rfl rfl rfl rfl (Nat.le_of_ble_eq_true rfl)) ?_)
          all_goals (first | refine ex_free rfl rfl (runs_none rfl) (fun _ => (mv_own (.inl rfl) rfl)) ?_ | refine ex_free rfl rfl (runs_none rfl) (fun _ => (mv_sl (.inl rfl) rfl)) ?_ | refine ex_free rfl rfl (runs_none rfl) (fun _ => (mv_s (.inl rfl) rfl)) ?_ | refine ex_free rfl rfl (runs_none rfl) (fun _ => (mv_emp (.inl rfl) rfl)) ?_)
          all_goals refine ex_free rfl rfl (runs_none rfl) (fun _ => (mv_s (.inl rfl) rfl)) ?_
          all_goals (first | refine ex_free rfl rfl (runs_none rfl) (fun _ => (does_index_sl rfl ts22 ti28 rfl rfl rfl (ix_map (by omega)) rfl)) ?_ | refine ex_free rfl rfl (runs_none rfl) (fun _ => (does_index_own rfl ts22 ti28 rfl rfl rfl (by omega))) ?_)
          all_goals (first | refine ex_free rfl rfl (runs_none rfl) (fun _ => (does_load_refw rfl ta28 ti28 rfl rfl)) ?_ | refine ex_look rfl rfl (runs_none rfl) (look_whole rfl ta28 ti28 rfl rfl rfl rfl rfl) ?_ | refine ex_free rfl rfl (runs_none rfl) (fun _ => (does_load_refs rfl ta28 ti28 rfl (Nat.le_of_ble_eq_true rfl))) ?_ | refine ex_look rfl rfl (runs_none rfl) (look_ptrs rfl ta28 ti28 rfl rfl rfl rfl (Nat.le_of_ble_eq_true rfl)) ?_)
          all_goals refine ex_free rfl rfl (runs_none rfl) (fun _ => (does_call rfl rfl (hmul) (evc_cons rfl (evc_cons rfl evc_nil)))) ?_
          all_goals (first | refine ex_free rfl rfl (runs_none rfl) (fun _ => (mv_tup (.inl rfl) rfl)) ?_ | refine ex_free rfl rfl (runs_none rfl) (fun _ => (mv_s (.inl rfl) rfl)) ?_)
          all_goals refine ex_free rfl rfl (runs_none rfl) (fun _ => (does_extract rfl rfl rfl)) ?_
          all_goals refine ex_free rfl rfl (runs_none rfl) (fun _ => (does_extract rfl rfl rfl)) ?_
          all_goals refine ex_eff rfl rfl (runs_none rfl) (does_alloc rfl ti28 rfl rfl) (fun _ h => app_other h) ?_
          all_goals refine ex_eff0 rfl (runs_none rfl) (does_store rfl ti28 rfl rfl rfl rfl rfl rfl (by decide) (by decide)) (fun _ h => set_other h) ?_
          all_goals refine ex_free rfl rfl (runs_none rfl) (fun _ => (mv_s (.inr rfl) rfl)) ?_
          all_goals refine ex_nil (by kernel_rfl) ?_
          all_goals (repeat (first | refine aw_seq ?_ | refine ath_n ?_ | refine aw_skip ?_ | refine abl_n ?_ | refine aw_block ?_))
          all_goals refine aw_region ?_
          all_goals refine ops_op rfl rfl (runs_none rfl) (mv_s (.inl rfl) rfl) ?_
          all_goals (first | refine ops_opP rfl rfl (runs_none rfl) (does_eql rfl rfl rfl) (fun h54 => ?_) (fun h54 => ?_) | refine ops_opB rfl rfl (runs_none rfl) (does_eql rfl rfl rfl) (fun h54 => ?_) (fun h54 => ?_))
          all_goals refine ops_nil ?_
          all_goals (repeat (first | refine aw_seq ?_ | refine ath_n ?_ | refine aw_skip ?_ | refine abl_n ?_ | refine aw_block ?_))
          all_goals (first | refine aw_true rfl ?_ | refine aw_false rfl ?_)
          all_goals (repeat (first | refine aw_seq ?_ | refine ath_n ?_ | refine aw_skip ?_ | refine abl_n ?_ | refine aw_block ?_))
          · rw [if_neg (by omega)] at HI
            generalize hy : addE acc ⟨x.n, x.d⟩ = y at HI
            have hadd := rAdd_pf (P := P) acc ⟨x.n, x.d⟩
            rw [hy] at hadd
            refine aw_region ?_
            first | refine ops_op rfl rfl (runs_none rfl) (does_load_refw rfl ta28 ti28 rfl rfl) ?_ | refine ops_op rfl rfl (runs_none rfl) (does_load_whole rfl ta28 ti28 rfl rfl rfl rfl rfl) ?_ | refine ops_op rfl rfl (runs_none rfl) (does_load_refs rfl ta28 ti28 rfl (Nat.le_of_ble_eq_true rfl)) ?_ | refine ops_op rfl rfl (runs_none rfl) (does_load_ptrs rfl ta28 ti28 rfl rfl rfl rfl (Nat.le_of_ble_eq_true rfl)) ?_
            first | refine ops_op rfl rfl (runs_none rfl) (does_load_refw rfl ta28 ti28 rfl rfl) ?_ | refine ops_op rfl rfl (runs_none rfl) (does_load_whole rfl ta28 ti28 rfl rfl rfl rfl rfl) ?_ | refine ops_op rfl rfl (runs_none rfl) (does_load_refs rfl ta28 ti28 rfl (Nat.le_of_ble_eq_true rfl)) ?_ | refine ops_op rfl rfl (runs_none rfl) (does_load_ptrs rfl ta28 ti28 rfl rfl rfl rfl (Nat.le_of_ble_eq_true rfl)) ?_
            refine ops_op rfl rfl (runs_none rfl) (does_call rfl rfl (hadd) (evc_cons rfl (evc_cons rfl evc_nil))) ?_
            first | refine ops_op rfl rfl (runs_none rfl) (mv_tup (.inl rfl) rfl) ?_ | refine ops_op rfl rfl (runs_none rfl) (mv_s (.inl rfl) rfl) ?_
            refine ops_op rfl rfl (runs_none rfl) (does_extract rfl rfl rfl) ?_
            refine ops_op rfl rfl (runs_none rfl) (does_extract rfl rfl rfl) ?_
            refine ops_eff rfl (runs_none rfl) (does_store rfl ti28 rfl rfl rfl rfl rfl rfl (by decide) (by decide)) ?_
            refine ops_op rfl rfl (runs_none rfl) (mv_s (.inr rfl) rfl) ?_
            refine ops_nil ?_
            repeat (first | refine aw_seq ?_ | refine ath_n ?_ | refine aw_skip ?_ | refine abl_n ?_ | refine aw_block ?_)
            all_goals refine aw_region ?_
            all_goals refine ops_op rfl rfl (runs_none rfl) (mv_s (.inl rfl) rfl) ?_
            all_goals (first | refine ops_opP rfl rfl (runs_none rfl) (does_neq rfl rfl rfl) (fun h62 => ?_) (fun h62 => ?_) | refine ops_opB rfl rfl (runs_none rfl) (does_neq rfl rfl rfl) (fun h62 => ?_) (fun h62 => ?_))
            all_goals refine ops_nil ?_
            all_goals (repeat (first | refine aw_seq ?_ | refine ath_n ?_ | refine aw_skip ?_ | refine abl_n ?_ | refine aw_block ?_))
            all_goals (first | refine aw_true rfl ?_ | refine aw_false rfl ?_)
            all_goals (repeat (first | refine aw_seq ?_ | refine ath_n ?_ | refine aw_skip ?_ | refine abl_n ?_ | refine aw_block ?_))
            · rw [if_pos (by omega)] at HI
              refine aw_region ?_
              refine ops_op rfl rfl (runs_none rfl) (does_build rfl ti28 tp28 rfl rfl) ?_
              refine ops_op rfl rfl (runs_none rfl) (mv_s (.inl rfl) rfl) ?_
              refine ops_eff rfl (runs_none rfl) (does_store rfl ti28 rfl rfl rfl rfl rfl rfl (by decide) (by decide)) ?_
              refine ops_op rfl rfl (runs_none rfl) (mv_s (.inr rfl) rfl) ?_
              refine ops_nil ?_
              repeat (first | refine aw_seq ?_ | refine ath_n ?_ | refine aw_skip ?_ | refine abl_n ?_ | refine aw_block ?_)
              (refine aw_ret ?_; repeat (first | refine ath_r ?_ | refine abl_r ?_))
              exact post_ct (.inr rfl) ta28 ti28 rfl rfl rfl rfl rfl rfl (by rw [HI]; rfl)
            · rw [if_neg (by omega)] at HI
              refine aw_region ?_
              first | refine ops_op rfl rfl (runs_none rfl) (does_load_refw rfl ta28 ti28 rfl rfl) ?_ | refine ops_op rfl rfl (runs_none rfl) (does_load_whole rfl ta28 ti28 rfl rfl rfl rfl rfl) ?_ | refine ops_op rfl rfl (runs_none rfl) (does_load_refs rfl ta28 ti28 rfl (Nat.le_of_ble_eq_true rfl)) ?_ | refine ops_op rfl rfl (runs_none rfl) (does_load_ptrs rfl ta28 ti28 rfl rfl rfl rfl (Nat.le_of_ble_eq_true rfl)) ?_
              refine ops_eff rfl (runs_none rfl) (does_store rfl ti28 rfl rfl rfl rfl rfl rfl (by decide) (by decide)) ?_
              refine ops_nil ?_
              repeat (first | refine aw_seq ?_ | refine ath_n ?_ | refine aw_skip ?_ | refine abl_n ?_ | refine aw_block ?_)
              refine aw_region ?_
              refine ops_op rfl rfl (runs_none rfl) (mv_s (.inl rfl) rfl) ?_
              refine ops_op rfl rfl (runs_none rfl) (does_add rfl rfl rfl (IntWalk.i64_in _ (by omega))) ?_
              refine ops_op rfl rfl (runs_none rfl) (mv_s (.inr rfl) rfl) ?_
              refine ops_nil ?_
              repeat (first | refine aw_seq ?_ | refine ath_n ?_ | refine aw_skip ?_ | refine abl_n ?_ | refine aw_block ?_)
              exact ⟨(⟨y.n, y.d⟩, k + 1), ⟨by dsimp only; omega, HI⟩, by dsimp only; omega, wk_st [0, 1] (by decide) ⟨⟨_, rfl, .rowE (by repeat' (first | exact Lo.s _ | exact Lo.emp | exact Lo.any | exact lo_nil | exact lo_nilE | refine lo_cons ?_ ?_ | refine lo_consE ?_ ?_ | refine lo_map ?_ | refine lo_mapE ?_ | refine Lo.cells ?_ | refine Lo.agg _ ?_ | refine Lo.ref _ ?_ | refine Lo.tup _ ?_ | refine Lo.fn _ _ ?_ | refine Lo.sl _ ?_ | intro _)) rfl⟩, ⟨_, rfl, .rowE (by repeat' (first | exact Lo.s _ | exact Lo.emp | exact Lo.any | exact lo_nil | exact lo_nilE | refine lo_cons ?_ ?_ | refine lo_consE ?_ ?_ | refine lo_map ?_ | refine lo_mapE ?_ | refine Lo.cells ?_ | refine Lo.agg _ ?_ | refine Lo.ref _ ?_ | refine Lo.tup _ ?_ | refine Lo.fn _ _ ?_ | refine Lo.sl _ ?_ | intro _)) rfl⟩, trivial⟩ ⟨.lo _ (by repeat' (first | exact Lo.s _ | exact Lo.emp | exact Lo.any | exact lo_nil | exact lo_nilE | refine lo_cons ?_ ?_ | refine lo_consE ?_ ?_ | refine lo_map ?_ | refine lo_mapE ?_ | refine Lo.cells ?_ | refine Lo.agg _ ?_ | refine Lo.ref _ ?_ | refine Lo.tup _ ?_ | refine Lo.fn _ _ ?_ | refine Lo.sl _ ?_ | intro _)), .lo _ (by repeat' (first | exact Lo.s _ | exact Lo.emp | exact Lo.any | exact lo_nil | exact lo_nilE | refine lo_cons ?_ ?_ | refine lo_consE ?_ ?_ | refine lo_map ?_ | refine lo_mapE ?_ | refine Lo.cells ?_ | refine Lo.agg _ ?_ | refine Lo.ref _ ?_ | refine Lo.tup _ ?_ | refine Lo.fn _ _ ?_ | refine Lo.sl _ ?_ | intro _)), .ptr 0 0 2 0 0 rfl, .ptr 1 1 2 0 0 rfl, .lo _ (by repeat' (first | exact Lo.s _ | exact Lo.emp | exact Lo.any | exact lo_nil | exact lo_nilE | refine lo_cons ?_ ?_ | refine lo_consE ?_ ?_ | refine lo_map ?_ | refine lo_mapE ?_ | refine Lo.cells ?_ | refine Lo.agg _ ?_ | refine Lo.ref _ ?_ | refine Lo.tup _ ?_ | refine Lo.fn _ _ ?_ | refine Lo.sl _ ?_ | intro _)), trivial⟩⟩
          · rw [if_pos (by omega)] at HI
            refine aw_region ?_
            refine ops_op rfl rfl (runs_none rfl) (mv_s (.inl rfl) rfl) ?_
            refine ops_op rfl rfl (runs_none rfl) (dec_t (by omega) (does_neq rfl rfl rfl)) ?_
            refine ops_nil ?_
            repeat (first | refine aw_seq ?_ | refine ath_n ?_ | refine aw_skip ?_ | refine abl_n ?_ | refine aw_block ?_)
            refine aw_true rfl ?_
            repeat (first | refine aw_seq ?_ | refine ath_n ?_ | refine aw_skip ?_ | refine abl_n ?_ | refine aw_block ?_)
            refine aw_region ?_
            refine ops_op rfl rfl (runs_none rfl) (does_build rfl ti28 tp28 rfl rfl) ?_
            refine ops_op rfl rfl (runs_none rfl) (mv_s (.inl rfl) rfl) ?_
            refine ops_eff rfl (runs_none rfl) (does_store rfl ti28 rfl rfl rfl rfl rfl rfl (by decide) (by decide)) ?_
            refine ops_op rfl rfl (runs_none rfl) (mv_s (.inr rfl) rfl) ?_
            refine ops_nil ?_
            repeat (first | refine aw_seq ?_ | refine ath_n ?_ | refine aw_skip ?_ | refine abl_n ?_ | refine aw_block ?_)
            (refine aw_ret ?_; repeat (first | refine ath_r ?_ | refine abl_r ?_))
            exact post_ct (.inr rfl) ta28 ti28 rfl rfl rfl rfl rfl rfl (by rw [HI]; rfl)
        · rw [dotG_end (by omega)] at HI
          (refine aw_exit ?_; repeat (first | refine ath_x ?_ | refine abl_hit ?_ | refine abl_miss rfl ?_ | refine abl_n ?_ | refine ath_n ?_ | refine aw_seq ?_ | refine aw_skip ?_ | refine aw_block ?_))
          refine aw_region ?_
          first | refine ops_op rfl rfl (runs_none rfl) (does_load_refw rfl ta28 ti28 rfl rfl) ?_ | refine ops_op rfl rfl (runs_none rfl) (does_load_whole rfl ta28 ti28 rfl rfl rfl rfl rfl) ?_ | refine ops_op rfl rfl (runs_none rfl) (does_load_refs rfl ta28 ti28 rfl (Nat.le_of_ble_eq_true rfl)) ?_ | refine ops_op rfl rfl (runs_none rfl) (does_load_ptrs rfl ta28 ti28 rfl rfl rfl rfl (Nat.le_of_ble_eq_true rfl)) ?_
          refine ops_eff rfl (runs_none rfl) (does_store rfl ti28 rfl rfl rfl rfl rfl rfl (by decide) (by decide)) ?_
          refine ops_op rfl rfl (runs_none rfl) (mv_s (.inr rfl) rfl) ?_
          refine ops_nil ?_
          repeat (first | refine aw_seq ?_ | refine ath_n ?_ | refine aw_skip ?_ | refine abl_n ?_ | refine aw_block ?_)
          (refine aw_ret ?_; repeat (first | refine ath_r ?_ | refine abl_r ?_))
          exact post_ct (.inr rfl) ta28 ti28 rfl rfl rfl rfl rfl rfl (by rw [HI]; rfl)
    all_goals (refine aw_region ?_)
    all_goals (refine ops_op rfl rfl (runs_none rfl) (does_build rfl ti28 tp28 rfl rfl) ?_)
    all_goals (refine ops_eff rfl (runs_none rfl) (does_store rfl ti28 rfl rfl rfl rfl rfl rfl (by decide) (by decide)) ?_)
    all_goals (refine ops_op rfl rfl (runs_none rfl) (mv_s (.inr rfl) rfl) ?_)
    all_goals (refine ops_nil ?_)
    all_goals (repeat (first | refine aw_seq ?_ | refine ath_n ?_ | refine aw_skip ?_ | refine abl_n ?_ | refine aw_block ?_))
    all_goals (refine aw_ret ?_; repeat (first | refine ath_r ?_ | refine abl_r ?_))
    all_goals exact post_ct (.inr rfl) ta28 ti28 rfl rfl rfl rfl rfl rfl (by rw [dotE_full h11 h15 (by omega)]; rfl)
  all_goals (refine aw_region ?_)
  all_goals (refine ops_op rfl rfl (runs_none rfl) (does_build rfl ti28 tp28 rfl rfl) ?_)
  all_goals (refine ops_eff rfl (runs_none rfl) (does_store rfl ti28 rfl rfl rfl rfl rfl rfl (by decide) (by decide)) ?_)
  all_goals (refine ops_op rfl rfl (runs_none rfl) (mv_s (.inr rfl) rfl) ?_)
  all_goals (refine ops_nil ?_)
  all_goals (repeat (first | refine aw_seq ?_ | refine ath_n ?_ | refine aw_skip ?_ | refine abl_n ?_ | refine aw_block ?_))
  all_goals (refine aw_ret ?_; repeat (first | refine ath_r ?_ | refine abl_r ?_))
  all_goals exact post_ct (.inr rfl) ta28 ti28 rfl rfl rfl rfl rfl rfl (by rw [dotE_arg (by rintro ⟨q1, q2⟩; first | exact Bool.noConfusion (q1.symm.trans h11) | exact Bool.noConfusion (q2.symm.trans h15))]; rfl)
set_option maxHeartbeats 1000000 in
theorem fDot_pf (a b : List Fr) : Pure P 27 [eL eF a, eL eF b] (eFE (dotE a b)) := by
  refine aw_fn (by rw [IsP.eq (P := P)]; exact Try.func27) rfl rfl rfl rfl rfl (by repeat' (first | exact Lo.s _ | exact Lo.emp | exact Lo.any | exact lo_nil | exact lo_nilE | refine lo_cons ?_ ?_ | refine lo_consE ?_ ?_ | refine lo_map ?_ | refine lo_mapE ?_ | refine Lo.cells ?_ | refine Lo.agg _ ?_ | refine Lo.ref _ ?_ | refine Lo.tup _ ?_ | refine Lo.fn _ _ ?_ | refine Lo.sl _ ?_ | intro _)) (by repeat' (first | exact Lo.s _ | exact Lo.emp | exact Lo.any | exact lo_nil | exact lo_nilE | refine lo_cons ?_ ?_ | refine lo_consE ?_ ?_ | refine lo_map ?_ | refine lo_mapE ?_ | refine Lo.cells ?_ | refine Lo.agg _ ?_ | refine Lo.ref _ ?_ | refine Lo.tup _ ?_ | refine Lo.fn _ _ ?_ | refine Lo.sl _ ?_ | intro _)) (by simp only [argF]; rfl) ?_
  repeat (first | refine aw_seq ?_ | refine ath_n ?_ | refine aw_skip ?_ | refine abl_n ?_ | refine aw_block ?_)
  refine aw_bdm (d := 0) rfl (fun hm1 => ?_)
  refine aw_bdm (d := 1) rfl (fun hm2 => ?_)
  unfold maxLen at hm1 hm2
  refine aw_region ?_
  refine ops_op rfl rfl (runs_none rfl) (does_alloc rfl ti28 rfl rfl) ?_
  refine ops_op rfl rfl (runs_none rfl) (mv_s (.inr rfl) rfl) ?_
  refine ops_nil ?_
  repeat (first | refine aw_seq ?_ | refine ath_n ?_ | refine aw_skip ?_ | refine abl_n ?_ | refine aw_block ?_)
  all_goals refine aw_region ?_
  all_goals (first | refine ops_op rfl rfl (runs_none rfl) (mv_own (.inl rfl) rfl) ?_ | refine ops_op rfl rfl (runs_none rfl) (mv_sl (.inl rfl) rfl) ?_ | refine ops_op rfl rfl (runs_none rfl) (mv_s (.inl rfl) rfl) ?_ | refine ops_op rfl rfl (runs_none rfl) (mv_emp (.inl rfl) rfl) ?_)
  all_goals (first | refine ops_opP rfl rfl (runs_none rfl) (does_call rfl rfl (fvalid_pf _) (evc_cons rfl evc_nil)) (fun h12 => ?_) (fun h12 => ?_) | refine ops_opB rfl rfl (runs_none rfl) (does_call rfl rfl (fvalid_pf _) (evc_cons rfl evc_nil)) (fun h12 => ?_) (fun h12 => ?_))
  all_goals (first | refine ops_op rfl rfl (runs_none rfl) (does_notp rfl rfl) ?_ | refine ops_op rfl rfl (runs_none rfl) (does_not rfl rfl) ?_)
  all_goals refine ops_op rfl rfl (runs_none rfl) (mv_s (.inl rfl) rfl) ?_
  all_goals (first | refine ops_op rfl rfl (runs_y rfl rfl rfl) (mv_own (.inl rfl) rfl) ?_ | refine ops_op rfl rfl (runs_y rfl rfl rfl) (mv_sl (.inl rfl) rfl) ?_ | refine ops_op rfl rfl (runs_y rfl rfl rfl) (mv_s (.inl rfl) rfl) ?_ | refine ops_op rfl rfl (runs_y rfl rfl rfl) (mv_emp (.inl rfl) rfl) ?_ | refine ops_skip rfl rfl (runs_nf rfl rfl rfl) ?_ | refine ops_skip rfl rfl (runs_nu rfl rfl rfl) ?_)
  all_goals (first | refine ops_opP rfl rfl (runs_y rfl rfl rfl) (does_call rfl rfl (fvalid_pf _) (evc_cons rfl evc_nil)) (fun h16 => ?_) (fun h16 => ?_) | refine ops_opB rfl rfl (runs_y rfl rfl rfl) (does_call rfl rfl (fvalid_pf _) (evc_cons rfl evc_nil)) (fun h16 => ?_) (fun h16 => ?_) | refine ops_skip rfl rfl (runs_nf rfl rfl rfl) ?_ | refine ops_skip rfl rfl (runs_nu rfl rfl rfl) ?_)
  all_goals (first | refine ops_op rfl rfl (runs_y rfl rfl rfl) (does_notp rfl rfl) ?_ | refine ops_op rfl rfl (runs_y rfl rfl rfl) (does_not rfl rfl) ?_ | refine ops_skip rfl rfl (runs_nf rfl rfl rfl) ?_ | refine ops_skip rfl rfl (runs_nu rfl rfl rfl) ?_)
  all_goals (first | refine ops_op rfl rfl (runs_none rfl) (pickT_s rfl rfl rfl) ?_ | refine ops_op rfl rfl (runs_none rfl) (pickF_s rfl rfl rfl) ?_ | refine ops_op rfl rfl (runs_none rfl) (does_pickT rfl rfl rfl) ?_ | refine ops_op rfl rfl (runs_none rfl) (does_pickF rfl rfl rfl) ?_)
  all_goals refine ops_op rfl rfl (runs_none rfl) (mv_s (.inr rfl) rfl) ?_
  all_goals refine ops_nil ?_
  all_goals (repeat (first | refine aw_seq ?_ | refine ath_n ?_ | refine aw_skip ?_ | refine abl_n ?_ | refine aw_block ?_))
  all_goals (first | refine aw_true rfl ?_ | refine aw_false rfl ?_)
  all_goals (repeat (first | refine aw_seq ?_ | refine ath_n ?_ | refine aw_skip ?_ | refine abl_n ?_ | refine aw_block ?_))
  · skip
    all_goals refine aw_region ?_
    all_goals (first | refine ops_op rfl rfl (runs_none rfl) (mv_own (.inl rfl) rfl) ?_ | refine ops_op rfl rfl (runs_none rfl) (mv_sl (.inl rfl) rfl) ?_ | refine ops_op rfl rfl (runs_none rfl) (mv_s (.inl rfl) rfl) ?_ | refine ops_op rfl rfl (runs_none rfl) (mv_emp (.inl rfl) rfl) ?_)
    all_goals (first | refine ops_op rfl rfl (runs_none rfl) (does_len_map rfl ts22 rfl) ?_ | refine ops_op rfl rfl (runs_none rfl) (does_len_sl rfl ts22 rfl) ?_ | refine ops_op rfl rfl (runs_none rfl) (does_len_own rfl ts22 rfl) ?_ | refine ops_op rfl rfl (runs_none rfl) (does_len_s rfl ts22 rfl) ?_ | refine ops_op rfl rfl (runs_none rfl) (does_len_emp rfl ts22 rfl) ?_)
    all_goals (first | refine ops_opP rfl rfl (runs_none rfl) (does_gtr rfl rfl rfl) (fun h23 => ?_) (fun h23 => ?_) | refine ops_opB rfl rfl (runs_none rfl) (does_gtr rfl rfl rfl) (fun h23 => ?_) (fun h23 => ?_))
    all_goals refine ops_op rfl rfl (runs_none rfl) (mv_s (.inl rfl) rfl) ?_
    all_goals (first | refine ops_op rfl rfl (runs_y rfl rfl rfl) (mv_own (.inl rfl) rfl) ?_ | refine ops_op rfl rfl (runs_y rfl rfl rfl) (mv_sl (.inl rfl) rfl) ?_ | refine ops_op rfl rfl (runs_y rfl rfl rfl) (mv_s (.inl rfl) rfl) ?_ | refine ops_op rfl rfl (runs_y rfl rfl rfl) (mv_emp (.inl rfl) rfl) ?_ | refine ops_skip rfl rfl (runs_nf rfl rfl rfl) ?_ | refine ops_skip rfl rfl (runs_nu rfl rfl rfl) ?_)
    all_goals (first | refine ops_op rfl rfl (runs_y rfl rfl rfl) (does_len_map rfl ts22 rfl) ?_ | refine ops_op rfl rfl (runs_y rfl rfl rfl) (does_len_sl rfl ts22 rfl) ?_ | refine ops_op rfl rfl (runs_y rfl rfl rfl) (does_len_own rfl ts22 rfl) ?_ | refine ops_op rfl rfl (runs_y rfl rfl rfl) (does_len_s rfl ts22 rfl) ?_ | refine ops_op rfl rfl (runs_y rfl rfl rfl) (does_len_emp rfl ts22 rfl) ?_ | refine ops_skip rfl rfl (runs_nf rfl rfl rfl) ?_ | refine ops_skip rfl rfl (runs_nu rfl rfl rfl) ?_)
    all_goals (first | refine ops_opP rfl rfl (runs_y rfl rfl rfl) (does_gtr rfl rfl rfl) (fun h27 => ?_) (fun h27 => ?_) | refine ops_opB rfl rfl (runs_y rfl rfl rfl) (does_gtr rfl rfl rfl) (fun h27 => ?_) (fun h27 => ?_) | refine ops_skip rfl rfl (runs_nf rfl rfl rfl) ?_ | refine ops_skip rfl rfl (runs_nu rfl rfl rfl) ?_)
    all_goals (first | refine ops_op rfl rfl (runs_none rfl) (pickT_s rfl rfl rfl) ?_ | refine ops_op rfl rfl (runs_none rfl) (pickF_s rfl rfl rfl) ?_ | refine ops_op rfl rfl (runs_none rfl) (does_pickT rfl rfl rfl) ?_ | refine ops_op rfl rfl (runs_none rfl) (does_pickF rfl rfl rfl) ?_)
    all_goals refine ops_op rfl rfl (runs_none rfl) (mv_s (.inr rfl) rfl) ?_
    all_goals refine ops_nil ?_
    all_goals (repeat (first | refine aw_seq ?_ | refine ath_n ?_ | refine aw_skip ?_ | refine abl_n ?_ | refine aw_block ?_))
    all_goals (first | refine aw_true rfl ?_ | refine aw_false rfl ?_)
    all_goals (repeat (first | refine aw_seq ?_ | refine ath_n ?_ | refine aw_skip ?_ | refine abl_n ?_ | refine aw_block ?_))
    rotate_left 2
    · have h3 : ¬ (1000 < a.length ∨ 1000 < b.length) := by omega
      all_goals refine aw_region ?_
      all_goals (first | refine ops_op rfl rfl (runs_none rfl) (mv_own (.inl rfl) rfl) ?_ | refine ops_op rfl rfl (runs_none rfl) (mv_sl (.inl rfl) rfl) ?_ | refine ops_op rfl rfl (runs_none rfl) (mv_s (.inl rfl) rfl) ?_ | refine ops_op rfl rfl (runs_none rfl) (mv_emp (.inl rfl) rfl) ?_)
      all_goals (first | refine ops_op rfl rfl (runs_none rfl) (does_len_map rfl ts22 rfl) ?_ | refine ops_op rfl rfl (runs_none rfl) (does_len_sl rfl ts22 rfl) ?_ | refine ops_op rfl rfl (runs_none rfl) (does_len_own rfl ts22 rfl) ?_ | refine ops_op rfl rfl (runs_none rfl) (does_len_s rfl ts22 rfl) ?_ | refine ops_op rfl rfl (runs_none rfl) (does_len_emp rfl ts22 rfl) ?_)
      all_goals (first | refine ops_op rfl rfl (runs_none rfl) (mv_own (.inl rfl) rfl) ?_ | refine ops_op rfl rfl (runs_none rfl) (mv_sl (.inl rfl) rfl) ?_ | refine ops_op rfl rfl (runs_none rfl) (mv_s (.inl rfl) rfl) ?_ | refine ops_op rfl rfl (runs_none rfl) (mv_emp (.inl rfl) rfl) ?_)
      all_goals (first | refine ops_op rfl rfl (runs_none rfl) (does_len_map rfl ts22 rfl) ?_ | refine ops_op rfl rfl (runs_none rfl) (does_len_sl rfl ts22 rfl) ?_ | refine ops_op rfl rfl (runs_none rfl) (does_len_own rfl ts22 rfl) ?_ | refine ops_op rfl rfl (runs_none rfl) (does_len_s rfl ts22 rfl) ?_ | refine ops_op rfl rfl (runs_none rfl) (does_len_emp rfl ts22 rfl) ?_)
      all_goals (first | refine ops_opP rfl rfl (runs_none rfl) (does_neq rfl rfl rfl) (fun h35 => ?_) (fun h35 => ?_) | refine ops_opB rfl rfl (runs_none rfl) (does_neq rfl rfl rfl) (fun h35 => ?_) (fun h35 => ?_))
      all_goals refine ops_op rfl rfl (runs_none rfl) (mv_s (.inr rfl) rfl) ?_
      all_goals refine ops_nil ?_
      all_goals (repeat (first | refine aw_seq ?_ | refine ath_n ?_ | refine aw_skip ?_ | refine abl_n ?_ | refine aw_block ?_))
      all_goals (first | refine aw_true rfl ?_ | refine aw_false rfl ?_)
      all_goals (repeat (first | refine aw_seq ?_ | refine ath_n ?_ | refine aw_skip ?_ | refine abl_n ?_ | refine aw_block ?_))
      · skip
        refine aw_region ?_
        refine ops_op rfl rfl (runs_none rfl) (does_build rfl ti28 tp28 rfl rfl) ?_
        refine ops_eff rfl (runs_none rfl) (does_store rfl ti28 rfl rfl rfl rfl rfl rfl (by decide) (by decide)) ?_
        refine ops_op rfl rfl (runs_none rfl) (mv_s (.inr rfl) rfl) ?_
        refine ops_nil ?_
        repeat (first | refine aw_seq ?_ | refine ath_n ?_ | refine aw_skip ?_ | refine abl_n ?_ | refine aw_block ?_)
        (refine aw_ret ?_; repeat (first | refine ath_r ?_ | refine abl_r ?_))
        exact post_ct (.inr rfl) ta28 ti28 rfl rfl rfl rfl rfl rfl (by rw [dotE_size h12 h16 h3 (by omega)]; rfl)
      · have hl : a.length = b.length := by omega
        have HI := dotE_go h12 h16 h3 hl
        refine aw_region ?_
        refine ops_op rfl rfl (runs_none rfl) (does_build rfl ti28 tp28 rfl rfl) ?_
        refine ops_op rfl rfl (runs_none rfl) (does_alloc rfl ti28 rfl rfl) ?_
        refine ops_eff rfl (runs_none rfl) (does_store rfl ti28 rfl rfl rfl rfl rfl rfl (by decide) (by decide)) ?_
        refine ops_nil ?_
        repeat (first | refine aw_seq ?_ | refine ath_n ?_ | refine aw_skip ?_ | refine abl_n ?_ | refine aw_block ?_)
        refine aw_region ?_
        first | refine ops_op rfl rfl (runs_none rfl) (mv_own (.inl rfl) rfl) ?_ | refine ops_op rfl rfl (runs_none rfl) (mv_sl (.inl rfl) rfl) ?_ | refine ops_op rfl rfl (runs_none rfl) (mv_s (.inl rfl) rfl) ?_ | refine ops_op rfl rfl (runs_none rfl) (mv_emp (.inl rfl) rfl) ?_
        first | refine ops_op rfl rfl (runs_none rfl) (does_len_map rfl ts22 rfl) ?_ | refine ops_op rfl rfl (runs_none rfl) (does_len_sl rfl ts22 rfl) ?_ | refine ops_op rfl rfl (runs_none rfl) (does_len_own rfl ts22 rfl) ?_ | refine ops_op rfl rfl (runs_none rfl) (does_len_s rfl ts22 rfl) ?_ | refine ops_op rfl rfl (runs_none rfl) (does_len_emp rfl ts22 rfl) ?_
        refine ops_op rfl rfl (runs_none rfl) (mv_s (.inl rfl) rfl) ?_
        refine ops_nil ?_
        repeat (first | refine aw_seq ?_ | refine ath_n ?_ | refine aw_skip ?_ | refine abl_n ?_ | refine aw_block ?_)
        refine aw_loops (S := Fr × Nat) (fun s => [(0, eL eF a), (1, eL eF b), (4, .ptr 0 2 0 0), (6, .ptr 1 2 0 0), (39, eI a.length), (40, eI s.2)]) (fun s => [.row 2 [.agg [eI 0, eI 0]], .row 2 [eF s.1]]) (fun s => s.2 ≤ a.length ∧ dotE a b = dotG s.1 (a.drop s.2) (b.drop s.2)) (fun s => a.length - s.2) (Fr.of 0, 0) (wk_st [0, 1] (by decide) ⟨⟨_, rfl, .rowE (by repeat' (first | exact Lo.s _ | exact Lo.emp | exact Lo.any | exact lo_nil | exact lo_nilE | refine lo_cons ?_ ?_ | refine lo_consE ?_ ?_ | refine lo_map ?_ | refine lo_mapE ?_ | refine Lo.cells ?_ | refine Lo.agg _ ?_ | refine Lo.ref _ ?_ | refine Lo.tup _ ?_ | refine Lo.fn _ _ ?_ | refine Lo.sl _ ?_ | intro _)) rfl⟩, ⟨_, rfl, .rowE (by repeat' (first | exact Lo.s _ | exact Lo.emp | exact Lo.any | exact lo_nil | exact lo_nilE | refine lo_cons ?_ ?_ | refine lo_consE ?_ ?_ | refine lo_map ?_ | refine lo_mapE ?_ | refine Lo.cells ?_ | refine Lo.agg _ ?_ | refine Lo.ref _ ?_ | refine Lo.tup _ ?_ | refine Lo.fn _ _ ?_ | refine Lo.sl _ ?_ | intro _)) rfl⟩, trivial⟩ ⟨.lo _ (by repeat' (first | exact Lo.s _ | exact Lo.emp | exact Lo.any | exact lo_nil | exact lo_nilE | refine lo_cons ?_ ?_ | refine lo_consE ?_ ?_ | refine lo_map ?_ | refine lo_mapE ?_ | refine Lo.cells ?_ | refine Lo.agg _ ?_ | refine Lo.ref _ ?_ | refine Lo.tup _ ?_ | refine Lo.fn _ _ ?_ | refine Lo.sl _ ?_ | intro _)), .lo _ (by repeat' (first | exact Lo.s _ | exact Lo.emp | exact Lo.any | exact lo_nil | exact lo_nilE | refine lo_cons ?_ ?_ | refine lo_consE ?_ ?_ | refine lo_map ?_ | refine lo_mapE ?_ | refine Lo.cells ?_ | refine Lo.agg _ ?_ | refine Lo.ref _ ?_ | refine Lo.tup _ ?_ | refine Lo.fn _ _ ?_ | refine Lo.sl _ ?_ | intro _)), .ptr 0 0 2 0 0 rfl, .ptr 1 1 2 0 0 rfl, .lo _ (by repeat' (first | exact Lo.s _ | exact Lo.emp | exact Lo.any | exact lo_nil | exact lo_nilE | refine lo_cons ?_ ?_ | refine lo_consE ?_ ?_ | refine lo_map ?_ | refine lo_mapE ?_ | refine Lo.cells ?_ | refine Lo.agg _ ?_ | refine Lo.ref _ ?_ | refine Lo.tup _ ?_ | refine Lo.fn _ _ ?_ | refine Lo.sl _ ?_ | intro _)), .lo _ (by repeat' (first | exact Lo.s _ | exact Lo.emp | exact Lo.any | exact lo_nil | exact lo_nilE | refine lo_cons ?_ ?_ | refine lo_consE ?_ ?_ | refine lo_map ?_ | refine lo_mapE ?_ | refine Lo.cells ?_ | refine Lo.agg _ ?_ | refine Lo.ref _ ?_ | refine Lo.tup _ ?_ | refine Lo.fn _ _ ?_ | refine Lo.sl _ ?_ | intro _)), trivial⟩) ⟨Nat.zero_le _, HI⟩ (fun s hk => ?_)
        obtain ⟨acc, k⟩ := s
        obtain ⟨hk, HI⟩ := hk
        dsimp only at hk HI ⊢
        repeat (first | refine aw_seq ?_ | refine ath_n ?_ | refine aw_skip ?_ | refine abl_n ?_ | refine aw_block ?_)
        all_goals refine aw_region ?_
        all_goals (first | refine ops_opP rfl rfl (runs_none rfl) (does_lss rfl rfl rfl) (fun h41 => ?_) (fun h41 => ?_) | refine ops_opB rfl rfl (runs_none rfl) (does_lss rfl rfl rfl) (fun h41 => ?_) (fun h41 => ?_))
        all_goals refine ops_nil ?_
        all_goals (repeat (first | refine aw_seq ?_ | refine ath_n ?_ | refine aw_skip ?_ | refine abl_n ?_ | refine aw_block ?_))
        all_goals (first | refine aw_true rfl ?_ | refine aw_false rfl ?_)
        all_goals (repeat (first | refine aw_seq ?_ | refine ath_n ?_ | refine aw_skip ?_ | refine abl_n ?_ | refine aw_block ?_))
        · have h1 : k < a.length := by omega
          have h2 : k < b.length := by omega
          rw [dotG_step h1 h2] at HI
          generalize hx : mulE (gti a k) (gti b k) = x at HI
          have hmul := fMul_pf (P := P) (gti a k) (gti b k)
          rw [hx] at hmul
          refine aw_region ?_
          refine ops_op rfl rfl (runs_none rfl) (mv_s (.inl rfl) rfl) ?_
          refine ops_op rfl rfl (runs_none rfl) (mv_s (.inr rfl) rfl) ?_
          refine ops_nil ?_
          repeat (first | refine aw_seq ?_ | refine ath_n ?_ | refine aw_skip ?_ | refine abl_n ?_ | refine aw_block ?_)
          all_goals refine aw_draw hmix ?_
          all_goals refine adraw_ex ?_
          all_goals (first | refine ex_free rfl rfl (runs_none rfl) (fun _ => (mv_own (.inl rfl) rfl)) ?_ | refine ex_free rfl rfl (runs_none rfl) (fun _ => (mv_sl (.inl rfl) rfl)) ?_ | refine ex_free rfl rfl (runs_none rfl) (fun _ => (mv_s (.inl rfl) rfl)) ?_ | refine ex_free rfl rfl (runs_none rfl) (fun _ => (mv_emp (.inl rfl) rfl)) ?_)
          all_goals refine ex_free rfl rfl (runs_none rfl) (fun _ => (mv_s (.inl rfl) rfl)) ?_
          all_goals (first | refine ex_free rfl rfl (runs_none rfl) (fun _ => (does_index_sl rfl ts22 ti28 rfl rfl rfl (ix_map (by omega)) rfl)) ?_ | refine ex_free rfl rfl (runs_none rfl) (fun _ => (does_index_own rfl ts22 ti28 rfl rfl rfl (by omega))) ?_)
          all_goals (first | refine ex_free rfl rfl (runs_none rfl) (fun _ => (does_load_refw rfl ta28 ti28 rfl rfl)) ?_ | refine ex_look rfl rfl (runs_none rfl) (look_whole rfl ta28 ti28 rfl rfl rfl rfl rfl) ?_ | refine ex_free rfl rfl (runs_none rfl) (fun _ => (does_load_refs rfl ta28 ti28 rfl (Nat.le_of_ble_eq_true rfl))) ?_ | refine ex_look rfl rfl (runs_none rfl) (look_ptrs rfl ta28 ti28 rfl rfl rfl rfl (Nat.le_of_ble_eq_true rfl)) ?_)
          all_goals (first | refine ex_free rfl rfl (runs_none rfl) (fun _ => (mv_own (.inl rfl) rfl)) ?_ | refine ex_free rfl rfl (runs_none rfl) (fun _ => (mv_sl (.inl rfl) rfl)) ?_ | refine ex_free rfl rfl (runs_none rfl) (fun _ => (mv_s (.inl rfl) rfl)) ?_ | refine ex_free rfl rfl (runs_none rfl) (fun _ => (mv_emp (.inl rfl) rfl)) ?_)
          all_goals refine ex_free rfl rfl (runs_none rfl) (fun _ => (mv_s (.inl rfl) rfl)) ?_
          all_goals (first | refine ex_free rfl rfl (runs_none rfl) (fun _ => (does_index_sl rfl ts22 ti28 rfl rfl rfl (ix_map (by omega)) rfl)) ?_ | refine ex_free rfl rfl (runs_none rfl) (fun _ => (does_index_own rfl ts22 ti28 rfl rfl rfl (by omega))) ?_)
          all_goals (first | refine ex_free rfl rfl (runs_none rfl) (fun _ => (does_load_refw rfl ta28 ti28 rfl rfl)) ?_ | refine ex_look rfl rfl (runs_none rfl) (look_whole rfl ta28 ti28 rfl rfl rfl rfl rfl) ?_ | refine ex_free rfl rfl (runs_none rfl) (fun _ => (does_load_refs rfl ta28 ti28 rfl (Nat.le_of_ble_eq_true rfl))) ?_ | refine ex_look rfl rfl (runs_none rfl) (look_ptrs rfl ta28 ti28 rfl rfl rfl rfl (Nat.le_of_ble_eq_true rfl)) ?_)
          all_goals refine ex_free rfl rfl (runs_none rfl) (fun _ => (does_call rfl rfl (hmul) (evc_cons rfl (evc_cons rfl evc_nil)))) ?_
          all_goals (first | refine ex_free rfl rfl (runs_none rfl) (fun _ => (mv_tup (.inl rfl) rfl)) ?_ | refine ex_free rfl rfl (runs_none rfl) (fun _ => (mv_s (.inl rfl) rfl)) ?_)
          all_goals refine ex_free rfl rfl (runs_none rfl) (fun _ => (does_extract rfl rfl rfl)) ?_
          all_goals refine ex_free rfl rfl (runs_none rfl) (fun _ => (does_extract rfl rfl rfl)) ?_
          all_goals refine ex_eff rfl rfl (runs_none rfl) (does_alloc rfl ti28 rfl rfl) (fun _ h => app_other h) ?_
          all_goals refine ex_eff0 rfl (runs_none rfl) (does_store rfl ti28 rfl rfl rfl rfl rfl rfl (by decide) (by decide)) (fun _ h => set_other h) ?_
          all_goals refine ex_free rfl rfl (runs_none rfl) (fun _ => (mv_s (.inr rfl) rfl)) ?_
          all_goals refine ex_nil (by kernel_rfl) ?_
          all_goals (repeat (first | refine aw_seq ?_ | refine ath_n ?_ | refine aw_skip ?_ | refine abl_n ?_ | refine aw_block ?_))
          all_goals refine aw_region ?_
          all_goals refine ops_op rfl rfl (runs_none rfl) (mv_s (.inl rfl) rfl) ?_
          all_goals (first | refine ops_opP rfl rfl (runs_none rfl) (does_neq rfl rfl rfl) (fun h56 => ?_) (fun h56 => ?_) | refine ops_opB rfl rfl (runs_none rfl) (does_neq rfl rfl rfl) (fun h56 => ?_) (fun h56 => ?_))
          all_goals refine ops_nil ?_
          all_goals (repeat (first | refine aw_seq ?_ | refine ath_n ?_ | refine aw_skip ?_ | refine abl_n ?_ | refine aw_block ?_))
          all_goals (first | refine aw_true rfl ?_ | refine aw_false rfl ?_)
          all_goals (repeat (first | refine aw_seq ?_ | refine ath_n ?_ | refine aw_skip ?_ | refine abl_n ?_ | refine aw_block ?_))
          · rw [if_pos (by omega)] at HI
            refine aw_region ?_
            refine ops_op rfl rfl (runs_none rfl) (does_build rfl ti28 tp28 rfl rfl) ?_
            refine ops_op rfl rfl (runs_none rfl) (mv_s (.inl rfl) rfl) ?_
            refine ops_eff rfl (runs_none rfl) (does_store rfl ti28 rfl rfl rfl rfl rfl rfl (by decide) (by decide)) ?_
            refine ops_op rfl rfl (runs_none rfl) (mv_s (.inr rfl) rfl) ?_
            refine ops_nil ?_
            repeat (first | refine aw_seq ?_ | refine ath_n ?_ | refine aw_skip ?_ | refine abl_n ?_ | refine aw_block ?_)
            (refine aw_ret ?_; repeat (first | refine ath_r ?_ | refine abl_r ?_))
            exact post_ct (.inr rfl) ta28 ti28 rfl rfl rfl rfl rfl rfl (by rw [HI]; rfl)
          · rw [if_neg (by omega)] at HI
            generalize hy : addE acc ⟨x.n, x.d⟩ = y at HI
            have hadd := fAdd_pf (P := P) acc ⟨x.n, x.d⟩
            rw [hy] at hadd
            refine aw_region ?_
            first | refine ops_op rfl rfl (runs_none rfl) (does_load_refw rfl ta28 ti28 rfl rfl) ?_ | refine ops_op rfl rfl (runs_none rfl) (does_load_whole rfl ta28 ti28 rfl rfl rfl rfl rfl) ?_ | refine ops_op rfl rfl (runs_none rfl) (does_load_refs rfl ta28 ti28 rfl (Nat.le_of_ble_eq_true rfl)) ?_ | refine ops_op rfl rfl (runs_none rfl) (does_load_ptrs rfl ta28 ti28 rfl rfl rfl rfl (Nat.le_of_ble_eq_true rfl)) ?_
            first | refine ops_op rfl rfl (runs_none rfl) (does_load_refw rfl ta28 ti28 rfl rfl) ?_ | refine ops_op rfl rfl (runs_none rfl) (does_load_whole rfl ta28 ti28 rfl rfl rfl rfl rfl) ?_ | refine ops_op rfl rfl (runs_none rfl) (does_load_refs rfl ta28 ti28 rfl (Nat.le_of_ble_eq_true rfl)) ?_ | refine ops_op rfl rfl (runs_none rfl) (does_load_ptrs rfl ta28 ti28 rfl rfl rfl rfl (Nat.le_of_ble_eq_true rfl)) ?_
            refine ops_op rfl rfl (runs_none rfl) (does_call rfl rfl (hadd) (evc_cons rfl (evc_cons rfl evc_nil))) ?_
            first | refine ops_op rfl rfl (runs_none rfl) (mv_tup (.inl rfl) rfl) ?_ | refine ops_op rfl rfl (runs_none rfl) (mv_s (.inl rfl) rfl) ?_
            refine ops_op rfl rfl (runs_none rfl) (does_extract rfl rfl rfl) ?_
            refine ops_op rfl rfl (runs_none rfl) (does_extract rfl rfl rfl) ?_
            refine ops_eff rfl (runs_none rfl) (does_store rfl ti28 rfl rfl rfl rfl rfl rfl (by decide) (by decide)) ?_
            refine ops_op rfl rfl (runs_none rfl) (mv_s (.inr rfl) rfl) ?_
            refine ops_nil ?_
            repeat (first | refine aw_seq ?_ | refine ath_n ?_ | refine aw_skip ?_ | refine abl_n ?_ | refine aw_block ?_)
            all_goals refine aw_region ?_
            all_goals refine ops_op rfl rfl (runs_none rfl) (mv_s (.inl rfl) rfl) ?_
            all_goals (first | refine ops_opP rfl rfl (runs_none rfl) (does_neq rfl rfl rfl) (fun h66 => ?_) (fun h66 => ?_) | refine ops_opB rfl rfl (runs_none rfl) (does_neq rfl rfl rfl) (fun h66 => ?_) (fun h66 => ?_))
            all_goals refine ops_nil ?_
            all_goals (repeat (first | refine aw_seq ?_ | refine ath_n ?_ | refine aw_skip ?_ | refine abl_n ?_ | refine aw_block ?_))
            all_goals (first | refine aw_true rfl ?_ | refine aw_false rfl ?_)
            all_goals (repeat (first | refine aw_seq ?_ | refine ath_n ?_ | refine aw_skip ?_ | refine abl_n ?_ | refine aw_block ?_))
            · rw [if_pos (by omega)] at HI
              refine aw_region ?_
              refine ops_op rfl rfl (runs_none rfl) (does_build rfl ti28 tp28 rfl rfl) ?_
              refine ops_op rfl rfl (runs_none rfl) (mv_s (.inl rfl) rfl) ?_
              refine ops_eff rfl (runs_none rfl) (does_store rfl ti28 rfl rfl rfl rfl rfl rfl (by decide) (by decide)) ?_
              refine ops_op rfl rfl (runs_none rfl) (mv_s (.inr rfl) rfl) ?_
              refine ops_nil ?_
              repeat (first | refine aw_seq ?_ | refine ath_n ?_ | refine aw_skip ?_ | refine abl_n ?_ | refine aw_block ?_)
              (refine aw_ret ?_; repeat (first | refine ath_r ?_ | refine abl_r ?_))
              exact post_ct (.inr rfl) ta28 ti28 rfl rfl rfl rfl rfl rfl (by rw [HI]; rfl)
            · rw [if_neg (by omega)] at HI
              refine aw_region ?_
              refine ops_op rfl rfl (runs_none rfl) (does_add rfl rfl rfl (IntWalk.i64_in _ (by omega))) ?_
              refine ops_op rfl rfl (runs_none rfl) (mv_s (.inl rfl) rfl) ?_
              refine ops_nil ?_
              repeat (first | refine aw_seq ?_ | refine ath_n ?_ | refine aw_skip ?_ | refine abl_n ?_ | refine aw_block ?_)
              exact ⟨(⟨y.n, y.d⟩, k + 1), ⟨by dsimp only; omega, HI⟩, by dsimp only; omega, wk_st [0, 1] (by decide) ⟨⟨_, rfl, .rowE (by repeat' (first | exact Lo.s _ | exact Lo.emp | exact Lo.any | exact lo_nil | exact lo_nilE | refine lo_cons ?_ ?_ | refine lo_consE ?_ ?_ | refine lo_map ?_ | refine lo_mapE ?_ | refine Lo.cells ?_ | refine Lo.agg _ ?_ | refine Lo.ref _ ?_ | refine Lo.tup _ ?_ | refine Lo.fn _ _ ?_ | refine Lo.sl _ ?_ | intro _)) rfl⟩, ⟨_, rfl, .rowE (by repeat' (first | exact Lo.s _ | exact Lo.emp | exact Lo.any | exact lo_nil | exact lo_nilE | refine lo_cons ?_ ?_ | refine lo_consE ?_ ?_ | refine lo_map ?_ | refine lo_mapE ?_ | refine Lo.cells ?_ | refine Lo.agg _ ?_ | refine Lo.ref _ ?_ | refine Lo.tup _ ?_ | refine Lo.fn _ _ ?_ | refine Lo.sl _ ?_ | intro _)) rfl⟩, trivial⟩ ⟨.lo _ (by repeat' (first | exact Lo.s _ | exact Lo.emp | exact Lo.any | exact lo_nil | exact lo_nilE | refine lo_cons ?_ ?_ | refine lo_consE ?_ ?_ | refine lo_map ?_ | refine lo_mapE ?_ | refine Lo.cells ?_ | refine Lo.agg _ ?_ | refine Lo.ref _ ?_ | refine Lo.tup _ ?_ | refine Lo.fn _ _ ?_ | refine Lo.sl _ ?_ | intro _)), .lo _ (by repeat' (first | exact Lo.s _ | exact Lo.emp | exact Lo.any | exact lo_nil | exact lo_nilE | refine lo_cons ?_ ?_ | refine lo_consE ?_ ?_ | refine lo_map ?_ | refine lo_mapE ?_ | refine Lo.cells ?_ | refine Lo.agg _ ?_ | refine Lo.ref _ ?_ | refine Lo.tup _ ?_ | refine Lo.fn _ _ ?_ | refine Lo.sl _ ?_ | intro _)), .ptr 0 0 2 0 0 rfl, .ptr 1 1 2 0 0 rfl, .lo _ (by repeat' (first | exact Lo.s _ | exact Lo.emp | exact Lo.any | exact lo_nil | exact lo_nilE | refine lo_cons ?_ ?_ | refine lo_consE ?_ ?_ | refine lo_map ?_ | refine lo_mapE ?_ | refine Lo.cells ?_ | refine Lo.agg _ ?_ | refine Lo.ref _ ?_ | refine Lo.tup _ ?_ | refine Lo.fn _ _ ?_ | refine Lo.sl _ ?_ | intro _)), .lo _ (by repeat' (first | exact Lo.s _ | exact Lo.emp | exact Lo.any | exact lo_nil | exact lo_nilE | refine lo_cons ?_ ?_ | refine lo_consE ?_ ?_ | refine lo_map ?_ | refine lo_mapE ?_ | refine Lo.cells ?_ | refine Lo.agg _ ?_ | refine Lo.ref _ ?_ | refine Lo.tup _ ?_ | refine Lo.fn _ _ ?_ | refine Lo.sl _ ?_ | intro _)), trivial⟩⟩
        · rw [dotG_end (by omega)] at HI
          (refine aw_exit ?_; repeat (first | refine ath_x ?_ | refine abl_hit ?_ | refine abl_miss rfl ?_ | refine abl_n ?_ | refine ath_n ?_ | refine aw_seq ?_ | refine aw_skip ?_ | refine aw_block ?_))
          refine aw_region ?_
          first | refine ops_op rfl rfl (runs_none rfl) (does_load_refw rfl ta28 ti28 rfl rfl) ?_ | refine ops_op rfl rfl (runs_none rfl) (does_load_whole rfl ta28 ti28 rfl rfl rfl rfl rfl) ?_ | refine ops_op rfl rfl (runs_none rfl) (does_load_refs rfl ta28 ti28 rfl (Nat.le_of_ble_eq_true rfl)) ?_ | refine ops_op rfl rfl (runs_none rfl) (does_load_ptrs rfl ta28 ti28 rfl rfl rfl rfl (Nat.le_of_ble_eq_true rfl)) ?_
          refine ops_eff rfl (runs_none rfl) (does_store rfl ti28 rfl rfl rfl rfl rfl rfl (by decide) (by decide)) ?_
          refine ops_op rfl rfl (runs_none rfl) (mv_s (.inr rfl) rfl) ?_
          refine ops_nil ?_
          repeat (first | refine aw_seq ?_ | refine ath_n ?_ | refine aw_skip ?_ | refine abl_n ?_ | refine aw_block ?_)
          (refine aw_ret ?_; repeat (first | refine ath_r ?_ | refine abl_r ?_))
          exact post_ct (.inr rfl) ta28 ti28 rfl rfl rfl rfl rfl rfl (by rw [HI]; rfl)
    all_goals (refine aw_region ?_)
    all_goals (refine ops_op rfl rfl (runs_none rfl) (does_build rfl ti28 tp28 rfl rfl) ?_)
    all_goals (refine ops_eff rfl (runs_none rfl) (does_store rfl ti28 rfl rfl rfl rfl rfl rfl (by decide) (by decide)) ?_)
    all_goals (refine ops_op rfl rfl (runs_none rfl) (mv_s (.inr rfl) rfl) ?_)
    all_goals (refine ops_nil ?_)
    all_goals (repeat (first | refine aw_seq ?_ | refine ath_n ?_ | refine aw_skip ?_ | refine abl_n ?_ | refine aw_block ?_))
    all_goals (refine aw_ret ?_; repeat (first | refine ath_r ?_ | refine abl_r ?_))
    all_goals exact post_ct (.inr rfl) ta28 ti28 rfl rfl rfl rfl rfl rfl (by rw [dotE_full h12 h16 (by omega)]; rfl)
  all_goals (refine aw_region ?_)
  all_goals (refine ops_op rfl rfl (runs_none rfl) (does_build rfl ti28 tp28 rfl rfl) ?_)
  all_goals (refine ops_eff rfl (runs_none rfl) (does_store rfl ti28 rfl rfl rfl rfl rfl rfl (by decide) (by decide)) ?_)
  all_goals (refine ops_op rfl rfl (runs_none rfl) (mv_s (.inr rfl) rfl) ?_)
  all_goals (refine ops_nil ?_)
  all_goals (repeat (first | refine aw_seq ?_ | refine ath_n ?_ | refine aw_skip ?_ | refine abl_n ?_ | refine aw_block ?_))
  all_goals (refine aw_ret ?_; repeat (first | refine ath_r ?_ | refine abl_r ?_))
  all_goals exact post_ct (.inr rfl) ta28 ti28 rfl rfl rfl rfl rfl rfl (by rw [dotE_arg (by rintro ⟨q1, q2⟩; first | exact Bool.noConfusion (q1.symm.trans h12) | exact Bool.noConfusion (q2.symm.trans h16))]; rfl)
end Go.Proofs.Ytcpnffjnagbkoaa.Aw
end
