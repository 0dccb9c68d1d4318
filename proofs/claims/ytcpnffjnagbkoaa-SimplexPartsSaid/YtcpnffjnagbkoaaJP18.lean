/-
  Texts joined: SxM. Conditions: none.
-/
import Derived.Test.YtcpnffjnagbkoaaJP17
section
namespace Go.Proofs.Ytcpnffjnagbkoaa.Aw
set_option linter.unusedSimpArgs false
set_option linter.unusedVariables false
set_option linter.unusedSectionVars false
open Go Go.RowKit Go.Proofs
variable {P : Program} [IsP P]

/-- a column more in the row of costs -/
theorem stC_ren {p : LP} {T : List Sp} {s : Sp} {x : AV} {K : Nat} (hK : K = p.c.length + 4) (hx : eF (if s.2 = true then gti p.b s.1 else fneg (gti p.b s.1)) = x) :
    StR2 (.row 4 [.agg [.own K 2 (((dC p T).map eF).length + 1), .own 2 1 p.c.length, .sl (List.replicate p.c.length (eI 1)), eL eF p.c]] :: .dead :: .row 1 (ownR 4 2 (dRows p T [] 0)) :: .row 4 [zP] :: obsR 2 (dRows p T [] 0) ++ [.row 2 ((dC p T).map eF ++ [x])]) (mv K 1) (stE p (T ++ [s]) (dRows p T [s] 0) [.row 4 [zP]]) := by
  have hT : ((dC p T).map eF).length + 1 = (dC p (T ++ [s])).length := by simp [dC]
  refine stR2_mv (i := 1) (by simp [obsR_len, dRows_len, hK]) (by simp [stE, obsR_len, dRows_len, hK]) (ob' := .row 2 ((dC p (T ++ [s])).map eF)) rfl (.of _ _ (.rowE (lo_mapE (fun a => (lo_F a).cells)) (by rw [dC_snoc, hx]))) ?_
  rw [dRows_0]
  refine sto4 (fun _ => .of _ _ (obRn_agg (.cons (.own _ _ _ _ _ (mv_eq (by omega)) hT) (.cons (.own _ _ _ _ _ (mv_ne (by omega) (by omega)) rfl) (.cons (.lo _ (lo_onesL _)) (.cons (.lo _ (lo_Fs _)) .nil)))))) (fun h => absurd rfl h) (fun _ => ownR_same (by rw [dRows_len]; exact hK) (by omega)) (fun _ => .of _ _ (.rowE zP_lo rfl)) (fun t a b _ ha hb => obsR_mv (dRows_lo _ _ _ _) ha hb)
/-- an element more in a row of the dual program -/
theorem stA_ren {p : LP} {T C : List Sp} {s : Sp} {j : Nat} {x : AV} {K : Nat} (hj : j < p.c.length) (hK : K = p.c.length + 4) (hx : eF (dX p j s) = x) :
    StR2 (.row 4 [.agg [.own 1 2 (dC p C).length, .own 2 1 p.c.length, .sl (List.replicate p.c.length (eI 1)), eL eF p.c]] :: .row 2 ((dC p C).map eF) :: .row 1 ((ownR 4 2 (dRows p T [s] j)).set j (.own K 2 (((dCol p T j).map eF).length + 1))) :: .row 4 [zP] :: (obsR 2 (dRows p T [s] j)).set j .dead ++ [.row 2 ((dCol p T j).map eF ++ [x])]) (mv K (j + 4)) (stE p C (dRows p T [s] (j + 1)) [.row 4 [zP]]) := by
  subst hx
  have hl := dRows_len p T [s] j
  rw [← dRows_step hj]
  refine stR2_mv (i := j + 4) (by simp [obsR_len, dRows_len, hK]) (by simp [stE, obsR_len, dRows_len, hK]) (ob' := .row 2 ((dCol p T j).map eF ++ [eF (dX p j s)])) (by show (obsR 2 _)[j]? = _; exact obsR_get (List.getElem?_set_self (by rw [hl]; exact hj))) (.of _ _ (.rowE (by
    intro e he
    rcases List.mem_append.1 he with h | h
    · exact lo_mapE (fun a => (lo_F a).cells) e h
    · simp at h; subst h; exact (lo_F _).cells) rfl)) ?_
  refine sto4 (fun _ => .of _ _ (obRn_agg (.cons (.own _ _ _ _ _ (mv_ne (by omega) (by omega)) rfl) (.cons (.own _ _ _ _ _ (mv_ne (by omega) (by omega)) rfl) (.cons (.lo _ (lo_onesL _)) (.cons (.lo _ (lo_Fs _)) .nil)))))) (fun _ => .of _ _ (.rowE (lo_mapE (fun a => (lo_F a).cells)) rfl)) (fun _ => ?_) (fun _ => .of _ _ (.rowE zP_lo rfl)) (fun t a b ht ha hb => ?_)
  · have := ownR_mv (m := 4) (sz := 2) (sz0 := 1) (rows := dRows p T [s] j) (j := j) (k := K) (r := (dCol p T j).map eF ++ [eF (dX p j s)]) (by rw [hl]; exact hj) (by rw [hl]; exact hK)
    rwa [List.length_append] at this
  · rw [List.getElem?_set_ne (by omega)] at ha
    replace hb : (obsR 2 ((dRows p T [s] j).set j ((dCol p T j).map eF ++ [eF (dX p j s)])))[t]? = some b := hb
    rw [obsR_set, List.getElem?_set_ne (by omega)] at hb
    exact obsR_mv (dRows_lo _ _ _ _) ha hb
set_option maxHeartbeats 8000000 in
theorem rDual_pf (p : LP) : Pure P 12 [eP p] (ePI (dlE p)) := by
  have HI : dlE p = if validP p = true then (if 12 < (dC p (stp p p.a.length)).length then (zLP, 5) else (dlP p, 0)) else (zLP, 1) := rfl
  generalize dlE p = R at HI ⊢
  refine aw_fn (by rw [IsP.eq (P := P)]; exact Try.func12) rfl rfl rfl rfl rfl (lo_cons (lo_P p) lo_nil) (.tup _ (lo_cons (lo_P _) (lo_cons (.s _) lo_nil))) (by simp only [argF]; rfl) ?_
  repeat (first | refine aw_seq ?_ | refine ath_n ?_ | refine aw_skip ?_ | refine abl_n ?_ | refine aw_block ?_)
  have hlp : Lo 0 (.ref (eP p).cells) := .ref _ (lo_P p).cells
  refine aw_region ?_
  refine ops_op rfl rfl (runs_none rfl) (does_box rfl rfl rfl rfl) ?_
  refine aops_weak (wk_froz (id := 0) rfl) (aops_weak (wk_ref (d := 1) rfl rfl rfl) ?_)
  refine ops_op rfl rfl (runs_none rfl) (does_alloc rfl ti26 rfl rfl) ?_
  refine ops_op rfl rfl (runs_none rfl) (mv_s (.inr rfl) rfl) ?_
  refine ops_nil ?_
  repeat (first | refine aw_seq ?_ | refine ath_n ?_ | refine aw_skip ?_ | refine abl_n ?_ | refine aw_block ?_)
  all_goals refine aw_region ?_
  all_goals (first | refine ops_op rfl rfl (runs_none rfl) (does_load_refw rfl ta26 ti26 rfl rfl) ?_ | refine ops_op rfl rfl (runs_none rfl) (does_load_whole rfl ta26 ti26 rfl rfl rfl rfl rfl) ?_ | refine ops_op rfl rfl (runs_none rfl) (does_load_refs rfl ta26 ti26 rfl (Nat.le_of_ble_eq_true rfl)) ?_ | refine ops_op rfl rfl (runs_none rfl) (does_load_ptrs rfl ta26 ti26 rfl rfl rfl rfl (Nat.le_of_ble_eq_true rfl)) ?_)
  all_goals (first | refine ops_opP rfl rfl (runs_none rfl) (does_call rfl rfl (qValid_pf _) (evc_cons rfl evc_nil)) (fun h13 => ?_) (fun h13 => ?_) | refine ops_opB rfl rfl (runs_none rfl) (does_call rfl rfl (qValid_pf _) (evc_cons rfl evc_nil)) (fun h13 => ?_) (fun h13 => ?_))
  all_goals (first | refine ops_op rfl rfl (runs_none rfl) (does_notp rfl rfl) ?_ | refine ops_op rfl rfl (runs_none rfl) (does_not rfl rfl) ?_)
  all_goals refine ops_nil ?_
  all_goals (repeat (first | refine aw_seq ?_ | refine ath_n ?_ | refine aw_skip ?_ | refine abl_n ?_ | refine aw_block ?_))
  all_goals (first | refine aw_true rfl ?_ | refine aw_false rfl ?_)
  all_goals (repeat (first | refine aw_seq ?_ | refine ath_n ?_ | refine aw_skip ?_ | refine abl_n ?_ | refine aw_block ?_))
  rotate_left 1
  · skip
    refine aw_region ?_
    refine ops_op rfl rfl (runs_none rfl) (does_build rfl ti26 tp26 rfl rfl) ?_
    refine ops_eff rfl (runs_none rfl) (does_store rfl ti26 rfl rfl rfl rfl rfl rfl (by decide) (by decide)) ?_
    refine ops_op rfl rfl (runs_none rfl) (mv_s (.inr rfl) rfl) ?_
    refine ops_nil ?_
    repeat (first | refine aw_seq ?_ | refine ath_n ?_ | refine aw_skip ?_ | refine abl_n ?_ | refine aw_block ?_)
    (refine aw_ret ?_; repeat (first | refine ath_r ?_ | refine abl_r ?_))
    exact post_zp (N := 0) (.inr rfl) ta26 ti26 rfl rfl rfl rfl rfl rfl (by rw [HI, if_neg (by rw [h13]; simp)])
  rw [if_pos h13] at HI
  obtain ⟨⟨q1, q2, q3, q4, q5, q6, q7, q8⟩, qr⟩ := validP_iff h13
  have hok := fun i (hi : i < p.a.length) => validP_ok h13 hi
  have hv := h13
  clear h13
  refine aw_region ?_
  refine ops_op rfl rfl (runs_none rfl) (does_alloc rfl ti26 rfl rfl) ?_
  refine ops_nil ?_
  repeat (first | refine aw_seq ?_ | refine ath_n ?_ | refine aw_skip ?_ | refine abl_n ?_ | refine aw_block ?_)
  refine aw_weak (wk_ownC (id := 2) (sz2 := 2) (e' := .agg [.own 3 2 0, .s (.slice none 0 0), .s (.slice none 0 0), .s (.slice none 0 0)]) (pre := []) (post := [.s (.slice none 0 0), .s (.slice none 0 0), .s (.slice none 0 0)]) rfl rfl rfl) ?_
  refine aw_weak (wk_ownC (id := 2) (sz2 := 1) (e' := .agg [.own 3 2 0, .own 4 1 0, .s (.slice none 0 0), .s (.slice none 0 0)]) (pre := [.own 3 2 0]) (post := [.s (.slice none 0 0), .s (.slice none 0 0)]) rfl rfl rfl) ?_
  refine aw_weak (wk_ownC (id := 2) (sz2 := 1) (e' := .agg [.own 3 2 0, .own 4 1 0, .own 5 1 0, .s (.slice none 0 0)]) (pre := [.own 3 2 0, .own 4 1 0]) (post := [.s (.slice none 0 0)]) rfl rfl rfl) ?_
  refine aw_weak (wk_ownC (id := 2) (sz2 := 2) (e' := .agg [.own 3 2 0, .own 4 1 0, .own 5 1 0, .own 6 2 0]) (pre := [.own 3 2 0, .own 4 1 0, .own 5 1 0]) (post := []) rfl rfl rfl) ?_
  refine aw_region ?_
  refine ops_op rfl rfl (runs_none rfl) (mv_s (.inr rfl) rfl) ?_
  refine ops_nil ?_
  repeat (first | refine aw_seq ?_ | refine ath_n ?_ | refine aw_skip ?_ | refine abl_n ?_ | refine aw_block ?_)
  refine aw_loops (S := Nat) (fun j => [(1, .ref (eP p).cells), (2, .ptr 5 4 0 0), (4, .ptr 0 4 0 0), (5, eI j)]) (fun j => [.row 4 [.agg [.own 1 2 0, .own 2 1 j, .own 3 1 j, .own 4 2 j]], .row 2 [], .row 1 (List.replicate j (.s (.slice none 0 0))), .row 1 (List.replicate j (eI 1)), .row 2 ((p.c.take j).map eF), .row 4 [zP]]) (fun j => j ≤ p.c.length) (fun j => p.c.length - j) 0
    (wk_st [2, 3, 4, 5, 6, 1] (by decide) ⟨⟨_, rfl, obRn_agg (.cons (.own _ _ _ _ _ rfl rfl) (.cons (.own _ _ _ _ _ rfl rfl) (.cons (.own _ _ _ _ _ rfl rfl) (.cons (.own _ _ _ _ _ rfl rfl) .nil))))⟩, ⟨_, rfl, .rowE (by simp) rfl⟩, ⟨_, rfl, .rowE (by simp) rfl⟩, ⟨_, rfl, .rowE (by simp) rfl⟩, ⟨_, rfl, .rowE (by simp) rfl⟩, ⟨_, rfl, .rowE zP_lo rfl⟩, trivial⟩ ⟨.lo _ hlp, .ptr 1 5 4 0 0 rfl, .ptr 2 0 4 0 0 rfl, .lo _ (by repeat' (first | exact Lo.s _ | exact Lo.emp | exact Lo.any | exact lo_nil | exact lo_nilE | refine lo_cons ?_ ?_ | refine lo_consE ?_ ?_ | refine lo_map ?_ | refine lo_mapE ?_ | refine Lo.cells ?_ | refine Lo.agg _ ?_ | refine Lo.ref _ ?_ | refine Lo.tup _ ?_ | refine Lo.fn _ _ ?_ | refine Lo.sl _ ?_ | intro _)), trivial⟩) (Nat.zero_le _) (fun j hj => ?_)
  repeat (first | refine aw_seq ?_ | refine ath_n ?_ | refine aw_skip ?_ | refine abl_n ?_ | refine aw_block ?_)
  all_goals refine aw_region ?_
  all_goals refine ops_op rfl rfl (runs_none rfl) (mv_s (.inl rfl) rfl) ?_
  all_goals (first | refine ops_op rfl rfl (runs_none rfl) (does_fieldAddr_ptr rfl tf26_0 (by decide) rfl) ?_ | refine ops_op rfl rfl (runs_none rfl) (does_fieldAddr_ref rfl tf26_0 (by decide) rfl) ?_)
  all_goals (first | refine ops_op rfl rfl (runs_none rfl) (does_load_ref rfl ta22 rfl) ?_ | refine ops_op rfl rfl (runs_none rfl) (does_load_ptr rfl ta22 rfl rfl rfl rfl rfl) ?_)
  all_goals (first | refine ops_op rfl rfl (runs_none rfl) (does_len_map rfl ts22 rfl) ?_ | refine ops_op rfl rfl (runs_none rfl) (does_len_sl rfl ts22 rfl) ?_ | refine ops_op rfl rfl (runs_none rfl) (does_len_own rfl ts22 rfl) ?_ | refine ops_op rfl rfl (runs_none rfl) (does_len_s rfl ts22 rfl) ?_ | refine ops_op rfl rfl (runs_none rfl) (does_len_emp rfl ts22 rfl) ?_)
  all_goals (first | refine ops_opP rfl rfl (runs_none rfl) (does_lss rfl rfl rfl) (fun h20 => ?_) (fun h20 => ?_) | refine ops_opB rfl rfl (runs_none rfl) (does_lss rfl rfl rfl) (fun h20 => ?_) (fun h20 => ?_))
  all_goals refine ops_nil ?_
  all_goals (repeat (first | refine aw_seq ?_ | refine ath_n ?_ | refine aw_skip ?_ | refine abl_n ?_ | refine aw_block ?_))
  all_goals (first | refine aw_true rfl ?_ | refine aw_false rfl ?_)
  all_goals (repeat (first | refine aw_seq ?_ | refine ath_n ?_ | refine aw_skip ?_ | refine abl_n ?_ | refine aw_block ?_))
  · have hlt : j < p.c.length := by omega
    have htk : ((p.c.take j).map eF).length = j := by simp; omega
    have hrow : (p.c.take (j + 1)).map eF = (p.c.take j).map eF ++ [eF (gti p.c j)] := by
      rw [take_snoc (by omega), List.map_append]; rfl
    have hl1 : (List.replicate j (AV.s (.slice none 0 0))).length = j := by simp
    have hl2 : (List.replicate j (eI 1)).length = j := by simp
    all_goals refine aw_region ?_
    all_goals (first | refine ops_op rfl rfl (runs_none rfl) (does_fieldAddr_ptr rfl tf26_1 (by decide) rfl) ?_ | refine ops_op rfl rfl (runs_none rfl) (does_fieldAddr_ref rfl tf26_1 (by decide) rfl) ?_)
    all_goals (first | refine ops_op rfl rfl (runs_none rfl) (does_load_ref rfl ta23 rfl) ?_ | refine ops_op rfl rfl (runs_none rfl) (does_load_ptr rfl ta23 rfl rfl rfl rfl rfl) ?_)
    all_goals (first | refine ops_op rfl rfl (runs_none rfl) (lit1_sF rfl ts23 ti22 rfl rfl rfl rfl) ?_ | refine ops_op rfl rfl (runs_none rfl) (lit1_slF rfl ts23 ti22 rfl rfl rfl rfl (by repeat' (first | exact Lo.s _ | exact Lo.emp | exact Lo.any | exact lo_nil | exact lo_nilE | refine lo_cons ?_ ?_ | refine lo_consE ?_ ?_ | refine lo_map ?_ | refine lo_mapE ?_ | refine Lo.cells ?_ | refine Lo.agg _ ?_ | refine Lo.ref _ ?_ | refine Lo.tup _ ?_ | refine Lo.fn _ _ ?_ | refine Lo.sl _ ?_ | intro _))) ?_ | refine ops_op rfl rfl (runs_none rfl) (does_litAF rfl ts23 ti22 rfl rfl (by decide) (by decide) rfl rfl rfl (by repeat' (first | exact Lo.s _ | exact Lo.emp | exact Lo.any | exact lo_nil | exact lo_nilE | refine lo_cons ?_ ?_ | refine lo_consE ?_ ?_ | refine lo_map ?_ | refine lo_mapE ?_ | refine Lo.cells ?_ | refine Lo.agg _ ?_ | refine Lo.ref _ ?_ | refine Lo.tup _ ?_ | refine Lo.fn _ _ ?_ | refine Lo.sl _ ?_ | intro _))) ?_)
    all_goals (first | refine ops_op rfl rfl (runs_none rfl) (does_append rfl ts23 ti22 rfl (by decide) rfl rfl (by first | rfl | (simp; done) | (simp; omega)) rfl (by first | exact .own _ _ _ rfl rfl _ (by first | rfl | simp) | exact .emp | exact .nil | exact .sl _ (by first | simp; done | intro e he; simp at he; obtain ⟨_, _, rfl⟩ := he; rfl)) (by first | omega | (simp; omega) | (unfold maxLen; simp; omega)) (by first | omega | (simp; omega) | (unfold maxLen; simp; omega))) ?_ | refine ops_op rfl rfl (runs_none rfl) (does_append0 rfl ts23 ti22 rfl (by decide) rfl (.inl rfl) rfl (by first | exact .own _ _ _ rfl rfl _ (by first | rfl | simp) | exact .emp | exact .nil | exact .sl _ (by first | simp; done | intro e he; simp at he; obtain ⟨_, _, rfl⟩ := he; rfl)) (by first | omega | (simp; omega) | (unfold maxLen; simp; omega)) (by first | omega | (simp; omega) | (unfold maxLen; simp; omega))) ?_ | refine ops_op rfl rfl (runs_none rfl) (does_append0 rfl ts23 ti22 rfl (by decide) rfl (.inr rfl) rfl (by first | exact .own _ _ _ rfl rfl _ (by first | rfl | simp) | exact .emp | exact .nil | exact .sl _ (by first | simp; done | intro e he; simp at he; obtain ⟨_, _, rfl⟩ := he; rfl)) (by first | omega | (simp; omega) | (unfold maxLen; simp; omega)) (by first | omega | (simp; omega) | (unfold maxLen; simp; omega))) ?_)
    all_goals (first | refine ops_op rfl rfl (runs_none rfl) (does_fieldAddr_ptr rfl tf26_1 (by decide) rfl) ?_ | refine ops_op rfl rfl (runs_none rfl) (does_fieldAddr_ref rfl tf26_1 (by decide) rfl) ?_)
    all_goals refine ops_eff rfl (runs_none rfl) (does_store rfl ti23 rfl rfl rfl rfl rfl rfl (by decide) (by decide)) ?_
    all_goals refine ops_nil ?_
    all_goals (repeat (first | refine aw_seq ?_ | refine ath_n ?_ | refine aw_skip ?_ | refine abl_n ?_ | refine aw_block ?_))
    all_goals refine aw_region ?_
    all_goals (first | refine ops_op rfl rfl (runs_none rfl) (does_fieldAddr_ptr rfl tf26_2 (by decide) rfl) ?_ | refine ops_op rfl rfl (runs_none rfl) (does_fieldAddr_ref rfl tf26_2 (by decide) rfl) ?_)
    all_goals (first | refine ops_op rfl rfl (runs_none rfl) (does_load_ref rfl ta24 rfl) ?_ | refine ops_op rfl rfl (runs_none rfl) (does_load_ptr rfl ta24 rfl rfl rfl rfl rfl) ?_)
    all_goals (first | refine ops_op rfl rfl (runs_none rfl) (lit1_sF rfl ts24 ti3 rfl rfl rfl rfl) ?_ | refine ops_op rfl rfl (runs_none rfl) (lit1_slF rfl ts24 ti3 rfl rfl rfl rfl (by repeat' (first | exact Lo.s _ | exact Lo.emp | exact Lo.any | exact lo_nil | exact lo_nilE | refine lo_cons ?_ ?_ | refine lo_consE ?_ ?_ | refine lo_map ?_ | refine lo_mapE ?_ | refine Lo.cells ?_ | refine Lo.agg _ ?_ | refine Lo.ref _ ?_ | refine Lo.tup _ ?_ | refine Lo.fn _ _ ?_ | refine Lo.sl _ ?_ | intro _))) ?_ | refine ops_op rfl rfl (runs_none rfl) (does_litAF rfl ts24 ti3 rfl rfl (by decide) (by decide) rfl rfl rfl (by repeat' (first | exact Lo.s _ | exact Lo.emp | exact Lo.any | exact lo_nil | exact lo_nilE | refine lo_cons ?_ ?_ | refine lo_consE ?_ ?_ | refine lo_map ?_ | refine lo_mapE ?_ | refine Lo.cells ?_ | refine Lo.agg _ ?_ | refine Lo.ref _ ?_ | refine Lo.tup _ ?_ | refine Lo.fn _ _ ?_ | refine Lo.sl _ ?_ | intro _))) ?_)
    all_goals (first | refine ops_op rfl rfl (runs_none rfl) (does_append rfl ts24 ti3 rfl (by decide) rfl rfl (by first | rfl | (simp; done) | (simp; omega)) rfl (by first | exact .own _ _ _ rfl rfl _ (by first | rfl | simp) | exact .emp | exact .nil | exact .sl _ (by first | simp; done | intro e he; simp at he; obtain ⟨_, _, rfl⟩ := he; rfl)) (by first | omega | (simp; omega) | (unfold maxLen; simp; omega)) (by first | omega | (simp; omega) | (unfold maxLen; simp; omega))) ?_ | refine ops_op rfl rfl (runs_none rfl) (does_append0 rfl ts24 ti3 rfl (by decide) rfl (.inl rfl) rfl (by first | exact .own _ _ _ rfl rfl _ (by first | rfl | simp) | exact .emp | exact .nil | exact .sl _ (by first | simp; done | intro e he; simp at he; obtain ⟨_, _, rfl⟩ := he; rfl)) (by first | omega | (simp; omega) | (unfold maxLen; simp; omega)) (by first | omega | (simp; omega) | (unfold maxLen; simp; omega))) ?_ | refine ops_op rfl rfl (runs_none rfl) (does_append0 rfl ts24 ti3 rfl (by decide) rfl (.inr rfl) rfl (by first | exact .own _ _ _ rfl rfl _ (by first | rfl | simp) | exact .emp | exact .nil | exact .sl _ (by first | simp; done | intro e he; simp at he; obtain ⟨_, _, rfl⟩ := he; rfl)) (by first | omega | (simp; omega) | (unfold maxLen; simp; omega)) (by first | omega | (simp; omega) | (unfold maxLen; simp; omega))) ?_)
    all_goals (first | refine ops_op rfl rfl (runs_none rfl) (does_fieldAddr_ptr rfl tf26_2 (by decide) rfl) ?_ | refine ops_op rfl rfl (runs_none rfl) (does_fieldAddr_ref rfl tf26_2 (by decide) rfl) ?_)
    all_goals refine ops_eff rfl (runs_none rfl) (does_store rfl ti24 rfl rfl rfl rfl rfl rfl (by decide) (by decide)) ?_
    all_goals refine ops_nil ?_
    all_goals (repeat (first | refine aw_seq ?_ | refine ath_n ?_ | refine aw_skip ?_ | refine abl_n ?_ | refine aw_block ?_))
    all_goals refine aw_draw hmix ?_
    all_goals refine adraw_ex ?_
    all_goals (first | refine ex_free rfl rfl (runs_none rfl) (fun _ => (does_fieldAddr_ptr rfl tf26_3 (by decide) rfl)) ?_ | refine ex_free rfl rfl (runs_none rfl) (fun _ => (does_fieldAddr_ref rfl tf26_3 (by decide) rfl)) ?_)
    all_goals (first | refine ex_free rfl rfl (runs_none rfl) (fun _ => (does_load_ref rfl ta22 rfl)) ?_ | refine ex_look rfl rfl (runs_none rfl) (look_ptr rfl ta22 rfl rfl rfl rfl rfl) ?_)
    all_goals (first | refine ex_free rfl rfl (runs_none rfl) (fun _ => (does_fieldAddr_ptr rfl tf26_0 (by decide) rfl)) ?_ | refine ex_free rfl rfl (runs_none rfl) (fun _ => (does_fieldAddr_ref rfl tf26_0 (by decide) rfl)) ?_)
    all_goals (first | refine ex_free rfl rfl (runs_none rfl) (fun _ => (does_load_ref rfl ta22 rfl)) ?_ | refine ex_look rfl rfl (runs_none rfl) (look_ptr rfl ta22 rfl rfl rfl rfl rfl) ?_)
    all_goals refine ex_free rfl rfl (runs_none rfl) (fun _ => (mv_s (.inl rfl) rfl)) ?_
    all_goals (first | refine ex_free rfl rfl (runs_none rfl) (fun _ => (does_index_sl rfl ts22 ti28 rfl rfl rfl (ix_map (by omega)) rfl)) ?_ | refine ex_free rfl rfl (runs_none rfl) (fun _ => (does_index_own rfl ts22 ti28 rfl rfl rfl (by omega))) ?_)
    all_goals (first | refine ex_free rfl rfl (runs_none rfl) (fun _ => (does_load_refw rfl ta28 ti28 rfl rfl)) ?_ | refine ex_look rfl rfl (runs_none rfl) (look_whole rfl ta28 ti28 rfl rfl rfl rfl rfl) ?_ | refine ex_free rfl rfl (runs_none rfl) (fun _ => (does_load_refs rfl ta28 ti28 rfl (Nat.le_of_ble_eq_true rfl))) ?_ | refine ex_look rfl rfl (runs_none rfl) (look_ptrs rfl ta28 ti28 rfl rfl rfl rfl (Nat.le_of_ble_eq_true rfl)) ?_)
    all_goals (first | refine ex_free rfl rfl (runs_none rfl) (fun _ => (lit1_sF rfl ts22 ti28 rfl rfl rfl rfl)) ?_ | refine ex_free rfl rfl (runs_none rfl) (fun _ => (lit1_slF rfl ts22 ti28 rfl rfl rfl rfl (by repeat' (first | exact Lo.s _ | exact Lo.emp | exact Lo.any | exact lo_nil | exact lo_nilE | refine lo_cons ?_ ?_ | refine lo_consE ?_ ?_ | refine lo_map ?_ | refine lo_mapE ?_ | refine Lo.cells ?_ | refine Lo.agg _ ?_ | refine Lo.ref _ ?_ | refine Lo.tup _ ?_ | refine Lo.fn _ _ ?_ | refine Lo.sl _ ?_ | intro _)))) ?_ | refine ex_free rfl rfl (runs_none rfl) (fun _ => (does_litAF rfl ts22 ti28 rfl rfl (by decide) (by decide) rfl rfl rfl (by repeat' (first | exact Lo.s _ | exact Lo.emp | exact Lo.any | exact lo_nil | exact lo_nilE | refine lo_cons ?_ ?_ | refine lo_consE ?_ ?_ | refine lo_map ?_ | refine lo_mapE ?_ | refine Lo.cells ?_ | refine Lo.agg _ ?_ | refine Lo.ref _ ?_ | refine Lo.tup _ ?_ | refine Lo.fn _ _ ?_ | refine Lo.sl _ ?_ | intro _)))) ?_)
    all_goals (first | refine ex_eff rfl rfl (runs_none rfl) (does_append rfl ts22 ti28 rfl (by decide) rfl rfl (by first | rfl | (simp; done) | (simp; omega)) rfl (by first | exact .own _ _ _ rfl rfl _ (by first | rfl | simp) | exact .emp | exact .nil | exact .sl _ (by first | simp; done | intro e he; simp at he; obtain ⟨_, _, rfl⟩ := he; rfl)) (by first | omega | (simp; omega) | (unfold maxLen; simp; omega)) (by first | omega | (simp; omega) | (unfold maxLen; simp; omega))) (fun _ h => app2_other h) ?_ | refine ex_eff rfl rfl (runs_none rfl) (does_append0 rfl ts22 ti28 rfl (by decide) rfl (.inl rfl) rfl (by first | exact .own _ _ _ rfl rfl _ (by first | rfl | simp) | exact .emp | exact .nil | exact .sl _ (by first | simp; done | intro e he; simp at he; obtain ⟨_, _, rfl⟩ := he; rfl)) (by first | omega | (simp; omega) | (unfold maxLen; simp; omega)) (by first | omega | (simp; omega) | (unfold maxLen; simp; omega))) (fun _ h => app_other h) ?_ | refine ex_eff rfl rfl (runs_none rfl) (does_append0 rfl ts22 ti28 rfl (by decide) rfl (.inr rfl) rfl (by first | exact .own _ _ _ rfl rfl _ (by first | rfl | simp) | exact .emp | exact .nil | exact .sl _ (by first | simp; done | intro e he; simp at he; obtain ⟨_, _, rfl⟩ := he; rfl)) (by first | omega | (simp; omega) | (unfold maxLen; simp; omega)) (by first | omega | (simp; omega) | (unfold maxLen; simp; omega))) (fun _ h => app_other h) ?_)
    all_goals (first | refine ex_free rfl rfl (runs_none rfl) (fun _ => (does_fieldAddr_ptr rfl tf26_3 (by decide) rfl)) ?_ | refine ex_free rfl rfl (runs_none rfl) (fun _ => (does_fieldAddr_ref rfl tf26_3 (by decide) rfl)) ?_)
    all_goals refine ex_eff0 rfl (runs_none rfl) (does_store rfl ti22 rfl rfl rfl rfl rfl rfl (by decide) (by decide)) (fun _ h => set_other h) ?_
    all_goals refine ex_nil (by kernel_rfl) ?_
    all_goals (repeat (first | refine aw_seq ?_ | refine ath_n ?_ | refine aw_skip ?_ | refine abl_n ?_ | refine aw_block ?_))
    refine aw_region ?_
    refine ops_op rfl rfl (runs_none rfl) (mv_s (.inl rfl) rfl) ?_
    refine ops_op rfl rfl (runs_none rfl) (does_add rfl rfl rfl (IntWalk.i64_in _ (by omega))) ?_
    refine ops_op rfl rfl (runs_none rfl) (mv_s (.inr rfl) rfl) ?_
    refine ops_nil ?_
    repeat (first | refine aw_seq ?_ | refine ath_n ?_ | refine aw_skip ?_ | refine abl_n ?_ | refine aw_block ?_)
    exact ⟨j + 1, by omega, by omega, wk_st [0, 1, 6, 7, 8, 5] (by decide) ⟨⟨_, rfl, obRn_agg (.cons (.own _ _ _ _ _ rfl rfl) (.cons (.own _ _ _ _ _ rfl (by rw [hl1]; rfl)) (.cons (.own _ _ _ _ _ rfl (by rw [hl2]; rfl)) (.cons (.own _ _ _ _ _ rfl (by rw [htk]; rfl)) .nil))))⟩, ⟨_, rfl, .rowE (by simp) rfl⟩, ⟨_, rfl, .rowE (lo_nils _) (List.replicate_succ' ..).symm⟩, ⟨_, rfl, .rowE (lo_ones _) (List.replicate_succ' ..).symm⟩, ⟨_, rfl, .rowE (lo_mapE (fun a => (lo_F a).cells)) hrow.symm⟩, ⟨_, rfl, .rowE zP_lo rfl⟩, trivial⟩ ⟨.lo _ hlp, .ptr 5 5 4 0 0 rfl, .ptr 0 0 4 0 0 rfl, .lo _ (by repeat' (first | exact Lo.s _ | exact Lo.emp | exact Lo.any | exact lo_nil | exact lo_nilE | refine lo_cons ?_ ?_ | refine lo_consE ?_ ?_ | refine lo_map ?_ | refine lo_mapE ?_ | refine Lo.cells ?_ | refine Lo.agg _ ?_ | refine Lo.ref _ ?_ | refine Lo.tup _ ?_ | refine Lo.fn _ _ ?_ | refine Lo.sl _ ?_ | intro _)), trivial⟩⟩
  have e : j = p.c.length := by omega
  subst e
  (refine aw_exit ?_; repeat (first | refine ath_x ?_ | refine abl_hit ?_ | refine abl_miss rfl ?_ | refine abl_n ?_ | refine ath_n ?_ | refine aw_seq ?_ | refine aw_skip ?_ | refine aw_block ?_))
  rw [List.take_length]
  refine aw_weak (kwk_fzC (id := 0) (sz := 4) (i := 3) (sz2 := 1) (e' := .agg [.own 1 2 0, .own 2 1 p.c.length, .sl (List.replicate p.c.length (eI 1)), .own 4 2 p.c.length]) (pre := [.own 1 2 0, .own 2 1 p.c.length]) (post := [.own 4 2 p.c.length]) (cs2 := List.replicate p.c.length (eI 1)) rfl (by rw [List.length_replicate]; rfl) rfl (by decide) rfl).weak ?_
  refine aw_weak (kwk_fzC (id := 0) (sz := 4) (i := 4) (sz2 := 2) (e' := .agg [.own 1 2 0, .own 2 1 p.c.length, .sl (List.replicate p.c.length (eI 1)), eL eF p.c]) (pre := [.own 1 2 0, .own 2 1 p.c.length, .sl (List.replicate p.c.length (eI 1))]) (post := []) (cs2 := p.c.map eF) rfl (by rw [List.length_map]; rfl) rfl (by decide) rfl).weak ?_
  refine aw_weak (F' := [(1, .ref (eP p).cells), (2, .ptr 3 4 0 0), (4, .ptr 0 4 0 0)]) (σ' := [.row 4 [.agg [.own 1 2 0, .own 2 1 p.c.length, .sl (List.replicate p.c.length (eI 1)), eL eF p.c]], .row 2 [], .row 1 (List.replicate p.c.length (.s (.slice none 0 0))), .row 4 [zP]]) (wk_st [0, 1, 2, 5] (by decide) ⟨⟨_, rfl, obRn_agg (.cons (.own _ _ _ _ _ rfl rfl) (.cons (.own _ _ _ _ _ rfl rfl) (.cons (.lo _ (lo_onesL _)) (.cons (.lo _ (lo_Fs _)) .nil))))⟩, ⟨_, rfl, .rowE (by simp) rfl⟩, ⟨_, rfl, .rowE (lo_nils _) rfl⟩, ⟨_, rfl, .rowE zP_lo rfl⟩, trivial⟩ ⟨.lo _ hlp, .ptr 5 3 4 0 0 rfl, .ptr 0 0 4 0 0 rfl, trivial⟩) ?_
  refine aw_weak (wk_nils (id := 2) (sz := 1) (sz2 := 2) (n := p.c.length) rfl) ?_
  have hst0 : stE p (stp p 0) (dRows p (stp p 0) [] 0) [.row 4 [zP]] = [.row 4 [.agg [.own 1 2 0, .own 2 1 p.c.length, .sl (List.replicate p.c.length (eI 1)), eL eF p.c]], .row 2 [], .row 1 (ownR 4 2 (List.replicate p.c.length [])), .row 4 [zP]] ++ obsR 2 (List.replicate p.c.length []) := by
    have e1 : dRows p (stp p 0) [] 0 = List.replicate p.c.length [] := by
      refine List.ext_getElem? fun t => ?_
      by_cases ht : t < p.c.length
      · rw [dRows_get ht]; simp [stp, dCol, List.getElem?_replicate, ht]
      · rw [List.getElem?_eq_none (by simp [dRows_len]; omega), List.getElem?_eq_none (by simp; omega)]
    rw [e1]; rfl
  refine aw_region ?_
  refine ops_op rfl rfl (runs_none rfl) (mv_s (.inr rfl) rfl) ?_
  refine ops_nil ?_
  repeat (first | refine aw_seq ?_ | refine ath_n ?_ | refine aw_skip ?_ | refine abl_n ?_ | refine aw_block ?_)
  refine aw_loops (S := Nat) (fun i => [(1, .ref (eP p).cells), (2, .ptr 3 4 0 0), (4, .ptr 0 4 0 0), (6, eI i)]) (fun i => stE p (stp p i) (dRows p (stp p i) [] 0) [.row 4 [zP]]) (fun i => i ≤ p.a.length) (fun i => p.a.length - i) 0 (by rw [hst0]; exact wk_sub _ ⟨rfl, rfl, rfl, rfl, trivial⟩) (Nat.zero_le _) (fun i hi => ?_)
  repeat (first | refine aw_seq ?_ | refine ath_n ?_ | refine aw_skip ?_ | refine abl_n ?_ | refine aw_block ?_)
  have hTl0 := stp_len p i
  all_goals refine aw_region ?_
  all_goals refine ops_op rfl rfl (runs_none rfl) (mv_s (.inl rfl) rfl) ?_
  all_goals (first | refine ops_op rfl rfl (runs_none rfl) (does_fieldAddr_ptr rfl tf26_1 (by decide) rfl) ?_ | refine ops_op rfl rfl (runs_none rfl) (does_fieldAddr_ref rfl tf26_1 (by decide) rfl) ?_)
  all_goals (first | refine ops_op rfl rfl (runs_none rfl) (does_load_ref rfl ta23 rfl) ?_ | refine ops_op rfl rfl (runs_none rfl) (does_load_ptr rfl ta23 rfl rfl rfl rfl rfl) ?_)
  all_goals (first | refine ops_op rfl rfl (runs_none rfl) (does_len_map rfl ts23 rfl) ?_ | refine ops_op rfl rfl (runs_none rfl) (does_len_sl rfl ts23 rfl) ?_ | refine ops_op rfl rfl (runs_none rfl) (does_len_own rfl ts23 rfl) ?_ | refine ops_op rfl rfl (runs_none rfl) (does_len_s rfl ts23 rfl) ?_ | refine ops_op rfl rfl (runs_none rfl) (does_len_emp rfl ts23 rfl) ?_)
  all_goals (first | refine ops_opP rfl rfl (runs_none rfl) (does_lss rfl rfl rfl) (fun h47 => ?_) (fun h47 => ?_) | refine ops_opB rfl rfl (runs_none rfl) (does_lss rfl rfl rfl) (fun h47 => ?_) (fun h47 => ?_))
  all_goals refine ops_nil ?_
  all_goals (repeat (first | refine aw_seq ?_ | refine ath_n ?_ | refine aw_skip ?_ | refine abl_n ?_ | refine aw_block ?_))
  all_goals (first | refine aw_true rfl ?_ | refine aw_false rfl ?_)
  all_goals (repeat (first | refine aw_seq ?_ | refine ath_n ?_ | refine aw_skip ?_ | refine abl_n ?_ | refine aw_block ?_))
  · have hlt : i < p.a.length := by omega
    obtain ⟨o1, o2, o3, o4⟩ := hok i hlt
    have hsi : stp p (i + 1) = stp p i ++ dk (gti p.rel i) i := rfl
    obtain ⟨r, hr⟩ : ∃ r, gti p.rel i = r := ⟨_, rfl⟩
    have hixr : (p.rel.map eI)[i]? = some (eI r) := by rw [← hr]; exact ix_map (by omega)
    have hixb : (p.b.map eF)[i]? = some (eF (gti p.b i)) := ix_map (by omega)
    have hixa : (p.a.map (eL eF))[i]? = some (eL eF (gti p.a i)) := ix_map hlt
    rw [hr] at hsi o4
    have hdl := dk_len r i
    refine aw_region ?_
    refine ops_op rfl rfl (runs_none rfl) (mv_s (.inr rfl) rfl) ?_
    refine ops_nil ?_
    repeat (first | refine aw_seq ?_ | refine ath_n ?_ | refine aw_skip ?_ | refine abl_n ?_ | refine aw_block ?_)
    all_goals refine aw_region ?_
    all_goals (first | refine ops_op rfl rfl (runs_none rfl) (does_fieldAddr_ptr rfl tf26_2 (by decide) rfl) ?_ | refine ops_op rfl rfl (runs_none rfl) (does_fieldAddr_ref rfl tf26_2 (by decide) rfl) ?_)
    all_goals (first | refine ops_op rfl rfl (runs_none rfl) (does_load_ref rfl ta24 rfl) ?_ | refine ops_op rfl rfl (runs_none rfl) (does_load_ptr rfl ta24 rfl rfl rfl rfl rfl) ?_)
    all_goals refine ops_op rfl rfl (runs_none rfl) (mv_s (.inl rfl) rfl) ?_
    all_goals (first | refine ops_op rfl rfl (runs_none rfl) (does_index_sl rfl ts24 ti3 rfl rfl rfl hixr rfl) ?_ | refine ops_op rfl rfl (runs_none rfl) (does_index_own rfl ts24 ti3 rfl rfl rfl hixr) ?_)
    all_goals (first | refine ops_op rfl rfl (runs_none rfl) (does_load_ref rfl ta3 rfl) ?_ | refine ops_op rfl rfl (runs_none rfl) (does_load_ptr rfl ta3 rfl rfl rfl rfl rfl) ?_)
    all_goals (first | refine ops_opP rfl rfl (runs_none rfl) (does_eql rfl rfl rfl) (fun h55 => ?_) (fun h55 => ?_) | refine ops_opB rfl rfl (runs_none rfl) (does_eql rfl rfl rfl) (fun h55 => ?_) (fun h55 => ?_))
    all_goals refine ops_nil ?_
    all_goals (repeat (first | refine aw_seq ?_ | refine ath_n ?_ | refine aw_skip ?_ | refine abl_n ?_ | refine aw_block ?_))
    all_goals (first | refine aw_true rfl ?_ | refine aw_false rfl ?_)
    all_goals (repeat (first | refine aw_seq ?_ | refine ath_n ?_ | refine aw_skip ?_ | refine abl_n ?_ | refine aw_block ?_))
    all_goals first
      | skip
        refine aw_region ?_
        refine ops_op rfl rfl (runs_none rfl) (mv_s (.inr rfl) rfl) ?_
        refine ops_nil ?_
        repeat (first | refine aw_seq ?_ | refine ath_n ?_ | refine aw_skip ?_ | refine abl_n ?_ | refine aw_block ?_)
        have hdk : (dk r i).length = 2 := by unfold dk; rw [if_pos h55]; rfl
      | skip
        have hdk : (dk r i).length = 1 := by unfold dk; rw [if_neg h55]; rfl
    all_goals (refine aw_region ?_)
    all_goals (refine ops_op rfl rfl (runs_none rfl) (mv_s (.inr rfl) rfl) ?_)
    all_goals (refine ops_nil ?_)
    all_goals (repeat (first | refine aw_seq ?_ | refine ath_n ?_ | refine aw_skip ?_ | refine abl_n ?_ | refine aw_block ?_))
    all_goals refine aw_loops (S := Nat) (fun k => [(1, .ref (eP p).cells), (2, .ptr 3 4 0 0), (4, .ptr 0 4 0 0), (6, eI i), (7, eI (dk r i).length), (8, eI k)]) (fun k => stE p (stp p i ++ (dk r i).take k) (dRows p (stp p i ++ (dk r i).take k) [] 0) [.row 4 [zP]]) (fun k => k ≤ (dk r i).length) (fun k => (dk r i).length - k) 0 (by rw [List.take_zero, List.append_nil, hdk]; exact wk_sub _ ⟨rfl, rfl, rfl, rfl, rfl, rfl, trivial⟩) (Nat.zero_le _) (fun k hk => ?_)
    all_goals repeat (first | refine aw_seq ?_ | refine ath_n ?_ | refine aw_skip ?_ | refine abl_n ?_ | refine aw_block ?_)
    all_goals (all_goals refine aw_region ?_)
    all_goals (all_goals refine ops_op rfl rfl (runs_none rfl) (mv_s (.inl rfl) rfl) ?_)
    all_goals (all_goals refine ops_op rfl rfl (runs_none rfl) (mv_s (.inl rfl) rfl) ?_)
    all_goals (all_goals (first | refine ops_opP rfl rfl (runs_none rfl) (does_lss rfl rfl rfl) (fun h58 => ?_) (fun h58 => ?_) | refine ops_opB rfl rfl (runs_none rfl) (does_lss rfl rfl rfl) (fun h58 => ?_) (fun h58 => ?_)))
    all_goals (all_goals refine ops_nil ?_)
    all_goals (all_goals (repeat (first | refine aw_seq ?_ | refine ath_n ?_ | refine aw_skip ?_ | refine abl_n ?_ | refine aw_block ?_)))
    all_goals (all_goals (first | refine aw_true rfl ?_ | refine aw_false rfl ?_))
    all_goals (all_goals (repeat (first | refine aw_seq ?_ | refine ath_n ?_ | refine aw_skip ?_ | refine abl_n ?_ | refine aw_block ?_)))
    all_goals first
      | skip
        have e : k = (dk r i).length := by omega
        subst e
        rw [List.take_length, ← hsi]
        (refine aw_exit ?_; repeat (first | refine ath_x ?_ | refine abl_hit ?_ | refine abl_miss rfl ?_ | refine abl_n ?_ | refine ath_n ?_ | refine aw_seq ?_ | refine aw_skip ?_ | refine aw_block ?_))
        refine aw_region ?_
        refine ops_op rfl rfl (runs_none rfl) (mv_s (.inl rfl) rfl) ?_
        refine ops_op rfl rfl (runs_none rfl) (does_add rfl rfl rfl (IntWalk.i64_in _ (by omega))) ?_
        refine ops_op rfl rfl (runs_none rfl) (mv_s (.inr rfl) rfl) ?_
        refine ops_nil ?_
        repeat (first | refine aw_seq ?_ | refine ath_n ?_ | refine aw_skip ?_ | refine abl_n ?_ | refine aw_block ?_)
        exact ⟨i + 1, by omega, by omega, wk_sub _ ⟨rfl, rfl, rfl, rfl, trivial⟩⟩
      | skip
    all_goals have hklt : k < (dk r i).length := by omega
    all_goals obtain ⟨tn, hkk, htf, htt⟩ := dk_get (i := i) o4 hklt
    all_goals have hTk : stp p i ++ (dk r i).take (k + 1) = stp p i ++ (dk r i).take k ++ [(i, tn)] := by rw [List.take_add_one, hkk, List.append_assoc]; rfl
    all_goals have hTkl : ((dk r i).take k).length ≤ 2 := by rw [List.length_take]; omega
    all_goals obtain ⟨T, hT⟩ : ∃ T, T = stp p i ++ (dk r i).take k := ⟨_, rfl⟩
    all_goals have hTl : T.length ≤ 24 := by rw [hT, List.length_append]; omega
    all_goals rw [← hT] at hTk ⊢
    all_goals have hcl := dC_len p T
    all_goals have hcm : ((dC p T).map eF).length = (dC p T).length := by simp
    all_goals (all_goals refine aw_region ?_)
    all_goals (all_goals (first | refine ops_op rfl rfl (runs_none rfl) (does_fieldAddr_ptr rfl tf26_2 (by decide) rfl) ?_ | refine ops_op rfl rfl (runs_none rfl) (does_fieldAddr_ref rfl tf26_2 (by decide) rfl) ?_))
    all_goals (all_goals (first | refine ops_op rfl rfl (runs_none rfl) (does_load_ref rfl ta24 rfl) ?_ | refine ops_op rfl rfl (runs_none rfl) (does_load_ptr rfl ta24 rfl rfl rfl rfl rfl) ?_))
    all_goals (all_goals refine ops_op rfl rfl (runs_none rfl) (mv_s (.inl rfl) rfl) ?_)
    all_goals (all_goals (first | refine ops_op rfl rfl (runs_none rfl) (does_index_sl rfl ts24 ti3 rfl rfl rfl hixr rfl) ?_ | refine ops_op rfl rfl (runs_none rfl) (does_index_own rfl ts24 ti3 rfl rfl rfl hixr) ?_))
    all_goals (all_goals (first | refine ops_op rfl rfl (runs_none rfl) (does_load_ref rfl ta3 rfl) ?_ | refine ops_op rfl rfl (runs_none rfl) (does_load_ptr rfl ta3 rfl rfl rfl rfl rfl) ?_))
    all_goals (all_goals (first | refine ops_opP rfl rfl (runs_none rfl) (does_eql rfl rfl rfl) (fun h66 => ?_) (fun h66 => ?_) | refine ops_opB rfl rfl (runs_none rfl) (does_eql rfl rfl rfl) (fun h66 => ?_) (fun h66 => ?_)))
    all_goals (all_goals refine ops_op rfl rfl (runs_none rfl) (mv_s (.inl rfl) rfl) ?_)
    all_goals (all_goals (first | refine ops_op rfl rfl (runs_y rfl rfl rfl) (does_fieldAddr_ptr rfl tf26_2 (by decide) rfl) ?_ | refine ops_op rfl rfl (runs_y rfl rfl rfl) (does_fieldAddr_ref rfl tf26_2 (by decide) rfl) ?_ | refine ops_skip rfl rfl (runs_nf rfl rfl rfl) ?_ | refine ops_skip rfl rfl (runs_nu rfl rfl rfl) ?_))
    all_goals (all_goals (first | refine ops_op rfl rfl (runs_y rfl rfl rfl) (does_load_ref rfl ta24 rfl) ?_ | refine ops_op rfl rfl (runs_y rfl rfl rfl) (does_load_ptr rfl ta24 rfl rfl rfl rfl rfl) ?_ | refine ops_skip rfl rfl (runs_nf rfl rfl rfl) ?_ | refine ops_skip rfl rfl (runs_nu rfl rfl rfl) ?_))
    all_goals (all_goals (first | refine ops_op rfl rfl (runs_y rfl rfl rfl) (mv_s (.inl rfl) rfl) ?_ | refine ops_skip rfl rfl (runs_nf rfl rfl rfl) ?_ | refine ops_skip rfl rfl (runs_nu rfl rfl rfl) ?_))
    all_goals (all_goals (first | refine ops_op rfl rfl (runs_y rfl rfl rfl) (does_index_sl rfl ts24 ti3 rfl rfl rfl hixr rfl) ?_ | refine ops_op rfl rfl (runs_y rfl rfl rfl) (does_index_own rfl ts24 ti3 rfl rfl rfl hixr) ?_ | refine ops_skip rfl rfl (runs_nf rfl rfl rfl) ?_ | refine ops_skip rfl rfl (runs_nu rfl rfl rfl) ?_))
    all_goals (all_goals (first | refine ops_op rfl rfl (runs_y rfl rfl rfl) (does_load_ref rfl ta3 rfl) ?_ | refine ops_op rfl rfl (runs_y rfl rfl rfl) (does_load_ptr rfl ta3 rfl rfl rfl rfl rfl) ?_ | refine ops_skip rfl rfl (runs_nf rfl rfl rfl) ?_ | refine ops_skip rfl rfl (runs_nu rfl rfl rfl) ?_))
    all_goals (all_goals (first | refine ops_opP rfl rfl (runs_y rfl rfl rfl) (does_eql rfl rfl rfl) (fun h73 => ?_) (fun h73 => ?_) | refine ops_opB rfl rfl (runs_y rfl rfl rfl) (does_eql rfl rfl rfl) (fun h73 => ?_) (fun h73 => ?_) | refine ops_skip rfl rfl (runs_nf rfl rfl rfl) ?_ | refine ops_skip rfl rfl (runs_nu rfl rfl rfl) ?_))
    all_goals (all_goals (first | refine ops_op rfl rfl (runs_y rfl rfl rfl) (mv_s (.inl rfl) rfl) ?_ | refine ops_skip rfl rfl (runs_nf rfl rfl rfl) ?_ | refine ops_skip rfl rfl (runs_nu rfl rfl rfl) ?_))
    all_goals (all_goals (first | refine ops_op rfl rfl (runs_y rfl rfl rfl) (mv_s (.inl rfl) rfl) ?_ | refine ops_skip rfl rfl (runs_nt rfl rfl rfl) ?_ | refine ops_skip rfl rfl (runs_nu rfl rfl rfl) ?_))
    all_goals (all_goals (first | refine ops_opP rfl rfl (runs_y rfl rfl rfl) (does_eql rfl rfl rfl) (fun h76 => ?_) (fun h76 => ?_) | refine ops_opB rfl rfl (runs_y rfl rfl rfl) (does_eql rfl rfl rfl) (fun h76 => ?_) (fun h76 => ?_) | refine ops_skip rfl rfl (runs_nt rfl rfl rfl) ?_ | refine ops_skip rfl rfl (runs_nu rfl rfl rfl) ?_))
    all_goals (all_goals (first | refine ops_op rfl rfl (runs_y rfl rfl rfl) (pickT_s rfl rfl rfl) ?_ | refine ops_op rfl rfl (runs_y rfl rfl rfl) (pickF_s rfl rfl rfl) ?_ | refine ops_op rfl rfl (runs_y rfl rfl rfl) (does_pickT rfl rfl rfl) ?_ | refine ops_op rfl rfl (runs_y rfl rfl rfl) (does_pickF rfl rfl rfl) ?_ | refine ops_skip rfl rfl (runs_nf rfl rfl rfl) ?_ | refine ops_skip rfl rfl (runs_nu rfl rfl rfl) ?_))
    all_goals (all_goals (first | refine ops_op rfl rfl (runs_none rfl) (pickT_s rfl rfl rfl) ?_ | refine ops_op rfl rfl (runs_none rfl) (pickF_s rfl rfl rfl) ?_ | refine ops_op rfl rfl (runs_none rfl) (does_pickT rfl rfl rfl) ?_ | refine ops_op rfl rfl (runs_none rfl) (does_pickF rfl rfl rfl) ?_))
    all_goals (all_goals refine ops_op rfl rfl (runs_none rfl) (mv_s (.inr rfl) rfl) ?_)
    all_goals (all_goals refine ops_nil ?_)
    all_goals (all_goals (repeat (first | refine aw_seq ?_ | refine ath_n ?_ | refine aw_skip ?_ | refine abl_n ?_ | refine aw_block ?_)))
    all_goals (all_goals refine aw_region ?_)
    all_goals (all_goals refine ops_op rfl rfl (runs_none rfl) (mv_s (.inl rfl) rfl) ?_)
    all_goals (all_goals refine ops_nil ?_)
    all_goals (all_goals (repeat (first | refine aw_seq ?_ | refine ath_n ?_ | refine aw_skip ?_ | refine abl_n ?_ | refine aw_block ?_)))
    all_goals (all_goals (first | refine aw_true rfl ?_ | refine aw_false rfl ?_))
    all_goals (all_goals (repeat (first | refine aw_seq ?_ | refine ath_n ?_ | refine aw_skip ?_ | refine abl_n ?_ | refine aw_block ?_)))
    all_goals first
      | skip
        all_goals refine aw_draw hmix ?_
        all_goals refine adraw_ex ?_
        all_goals (first | refine ex_free rfl rfl (runs_none rfl) (fun _ => (does_fieldAddr_ptr rfl tf26_0 (by decide) rfl)) ?_ | refine ex_free rfl rfl (runs_none rfl) (fun _ => (does_fieldAddr_ref rfl tf26_0 (by decide) rfl)) ?_)
        all_goals (first | refine ex_free rfl rfl (runs_none rfl) (fun _ => (does_load_ref rfl ta22 rfl)) ?_ | refine ex_look rfl rfl (runs_none rfl) (look_ptr rfl ta22 rfl rfl rfl rfl rfl) ?_)
        all_goals (first | refine ex_free rfl rfl (runs_none rfl) (fun _ => (does_fieldAddr_ptr rfl tf26_3 (by decide) rfl)) ?_ | refine ex_free rfl rfl (runs_none rfl) (fun _ => (does_fieldAddr_ref rfl tf26_3 (by decide) rfl)) ?_)
        all_goals (first | refine ex_free rfl rfl (runs_none rfl) (fun _ => (does_load_ref rfl ta22 rfl)) ?_ | refine ex_look rfl rfl (runs_none rfl) (look_ptr rfl ta22 rfl rfl rfl rfl rfl) ?_)
        all_goals refine ex_free rfl rfl (runs_none rfl) (fun _ => (mv_s (.inl rfl) rfl)) ?_
        all_goals (first | refine ex_free rfl rfl (runs_none rfl) (fun _ => (does_index_sl rfl ts22 ti28 rfl rfl rfl hixb rfl)) ?_ | refine ex_free rfl rfl (runs_none rfl) (fun _ => (does_index_own rfl ts22 ti28 rfl rfl rfl hixb)) ?_)
        all_goals (first | refine ex_free rfl rfl (runs_none rfl) (fun _ => (does_load_refw rfl ta28 ti28 rfl rfl)) ?_ | refine ex_look rfl rfl (runs_none rfl) (look_whole rfl ta28 ti28 rfl rfl rfl rfl rfl) ?_ | refine ex_free rfl rfl (runs_none rfl) (fun _ => (does_load_refs rfl ta28 ti28 rfl (Nat.le_of_ble_eq_true rfl))) ?_ | refine ex_look rfl rfl (runs_none rfl) (look_ptrs rfl ta28 ti28 rfl rfl rfl rfl (Nat.le_of_ble_eq_true rfl)) ?_)
        all_goals refine ex_free rfl rfl (runs_none rfl) (fun _ => (does_call rfl rfl ((rNeg_pf _ ⟨o1.1, o1.2.1⟩)) (evc_cons rfl evc_nil))) ?_
        all_goals (first | refine ex_free rfl rfl (runs_none rfl) (fun _ => (lit1_sF rfl ts22 ti28 rfl rfl rfl rfl)) ?_ | refine ex_free rfl rfl (runs_none rfl) (fun _ => (lit1_slF rfl ts22 ti28 rfl rfl rfl rfl (by repeat' (first | exact Lo.s _ | exact Lo.emp | exact Lo.any | exact lo_nil | exact lo_nilE | refine lo_cons ?_ ?_ | refine lo_consE ?_ ?_ | refine lo_map ?_ | refine lo_mapE ?_ | refine Lo.cells ?_ | refine Lo.agg _ ?_ | refine Lo.ref _ ?_ | refine Lo.tup _ ?_ | refine Lo.fn _ _ ?_ | refine Lo.sl _ ?_ | intro _)))) ?_ | refine ex_free rfl rfl (runs_none rfl) (fun _ => (does_litAF rfl ts22 ti28 rfl rfl (by decide) (by decide) rfl rfl rfl (by repeat' (first | exact Lo.s _ | exact Lo.emp | exact Lo.any | exact lo_nil | exact lo_nilE | refine lo_cons ?_ ?_ | refine lo_consE ?_ ?_ | refine lo_map ?_ | refine lo_mapE ?_ | refine Lo.cells ?_ | refine Lo.agg _ ?_ | refine Lo.ref _ ?_ | refine Lo.tup _ ?_ | refine Lo.fn _ _ ?_ | refine Lo.sl _ ?_ | intro _)))) ?_)
        all_goals (first | refine ex_eff rfl rfl (runs_none rfl) (does_append rfl ts22 ti28 rfl (by decide) rfl rfl (by first | rfl | (simp; done) | (simp; omega)) rfl (by first | exact .own _ _ _ rfl rfl _ (by first | rfl | simp) | exact .emp | exact .nil | exact .sl _ (by first | simp; done | intro e he; simp at he; obtain ⟨_, _, rfl⟩ := he; rfl)) (by first | omega | (simp; omega) | (unfold maxLen; simp; omega)) (by first | omega | (simp; omega) | (unfold maxLen; simp; omega))) (fun _ h => app2_other h) ?_ | refine ex_eff rfl rfl (runs_none rfl) (does_append0 rfl ts22 ti28 rfl (by decide) rfl (.inl rfl) rfl (by first | exact .own _ _ _ rfl rfl _ (by first | rfl | simp) | exact .emp | exact .nil | exact .sl _ (by first | simp; done | intro e he; simp at he; obtain ⟨_, _, rfl⟩ := he; rfl)) (by first | omega | (simp; omega) | (unfold maxLen; simp; omega)) (by first | omega | (simp; omega) | (unfold maxLen; simp; omega))) (fun _ h => app_other h) ?_ | refine ex_eff rfl rfl (runs_none rfl) (does_append0 rfl ts22 ti28 rfl (by decide) rfl (.inr rfl) rfl (by first | exact .own _ _ _ rfl rfl _ (by first | rfl | simp) | exact .emp | exact .nil | exact .sl _ (by first | simp; done | intro e he; simp at he; obtain ⟨_, _, rfl⟩ := he; rfl)) (by first | omega | (simp; omega) | (unfold maxLen; simp; omega)) (by first | omega | (simp; omega) | (unfold maxLen; simp; omega))) (fun _ h => app_other h) ?_)
        all_goals (first | refine ex_free rfl rfl (runs_none rfl) (fun _ => (does_fieldAddr_ptr rfl tf26_0 (by decide) rfl)) ?_ | refine ex_free rfl rfl (runs_none rfl) (fun _ => (does_fieldAddr_ref rfl tf26_0 (by decide) rfl)) ?_)
        all_goals refine ex_eff0 rfl (runs_none rfl) (does_store rfl ti22 rfl rfl rfl rfl rfl rfl (by decide) (by decide)) (fun _ h => set_other h) ?_
        all_goals refine ex_nil (by kernel_rfl) ?_
        all_goals (repeat (first | refine aw_seq ?_ | refine ath_n ?_ | refine aw_skip ?_ | refine abl_n ?_ | refine aw_block ?_))
        have htn : tn = false := by
          cases tn with
          | false => rfl
          | true => exact absurd (htt rfl) (by omega)
        have hxC : eF (if tn = true then gti p.b i else fneg (gti p.b i)) = eF (fneg (gti p.b i)) := by rw [htn]; rfl
      | skip
        all_goals refine aw_draw hmix ?_
        all_goals refine adraw_ex ?_
        all_goals (first | refine ex_free rfl rfl (runs_none rfl) (fun _ => (does_fieldAddr_ptr rfl tf26_0 (by decide) rfl)) ?_ | refine ex_free rfl rfl (runs_none rfl) (fun _ => (does_fieldAddr_ref rfl tf26_0 (by decide) rfl)) ?_)
        all_goals (first | refine ex_free rfl rfl (runs_none rfl) (fun _ => (does_load_ref rfl ta22 rfl)) ?_ | refine ex_look rfl rfl (runs_none rfl) (look_ptr rfl ta22 rfl rfl rfl rfl rfl) ?_)
        all_goals (first | refine ex_free rfl rfl (runs_none rfl) (fun _ => (does_fieldAddr_ptr rfl tf26_3 (by decide) rfl)) ?_ | refine ex_free rfl rfl (runs_none rfl) (fun _ => (does_fieldAddr_ref rfl tf26_3 (by decide) rfl)) ?_)
        all_goals (first | refine ex_free rfl rfl (runs_none rfl) (fun _ => (does_load_ref rfl ta22 rfl)) ?_ | refine ex_look rfl rfl (runs_none rfl) (look_ptr rfl ta22 rfl rfl rfl rfl rfl) ?_)
        all_goals refine ex_free rfl rfl (runs_none rfl) (fun _ => (mv_s (.inl rfl) rfl)) ?_
        all_goals (first | refine ex_free rfl rfl (runs_none rfl) (fun _ => (does_index_sl rfl ts22 ti28 rfl rfl rfl hixb rfl)) ?_ | refine ex_free rfl rfl (runs_none rfl) (fun _ => (does_index_own rfl ts22 ti28 rfl rfl rfl hixb)) ?_)
        all_goals (first | refine ex_free rfl rfl (runs_none rfl) (fun _ => (does_load_refw rfl ta28 ti28 rfl rfl)) ?_ | refine ex_look rfl rfl (runs_none rfl) (look_whole rfl ta28 ti28 rfl rfl rfl rfl rfl) ?_ | refine ex_free rfl rfl (runs_none rfl) (fun _ => (does_load_refs rfl ta28 ti28 rfl (Nat.le_of_ble_eq_true rfl))) ?_ | refine ex_look rfl rfl (runs_none rfl) (look_ptrs rfl ta28 ti28 rfl rfl rfl rfl (Nat.le_of_ble_eq_true rfl)) ?_)
        all_goals (first | refine ex_free rfl rfl (runs_none rfl) (fun _ => (lit1_sF rfl ts22 ti28 rfl rfl rfl rfl)) ?_ | refine ex_free rfl rfl (runs_none rfl) (fun _ => (lit1_slF rfl ts22 ti28 rfl rfl rfl rfl (by repeat' (first | exact Lo.s _ | exact Lo.emp | exact Lo.any | exact lo_nil | exact lo_nilE | refine lo_cons ?_ ?_ | refine lo_consE ?_ ?_ | refine lo_map ?_ | refine lo_mapE ?_ | refine Lo.cells ?_ | refine Lo.agg _ ?_ | refine Lo.ref _ ?_ | refine Lo.tup _ ?_ | refine Lo.fn _ _ ?_ | refine Lo.sl _ ?_ | intro _)))) ?_ | refine ex_free rfl rfl (runs_none rfl) (fun _ => (does_litAF rfl ts22 ti28 rfl rfl (by decide) (by decide) rfl rfl rfl (by repeat' (first | exact Lo.s _ | exact Lo.emp | exact Lo.any | exact lo_nil | exact lo_nilE | refine lo_cons ?_ ?_ | refine lo_consE ?_ ?_ | refine lo_map ?_ | refine lo_mapE ?_ | refine Lo.cells ?_ | refine Lo.agg _ ?_ | refine Lo.ref _ ?_ | refine Lo.tup _ ?_ | refine Lo.fn _ _ ?_ | refine Lo.sl _ ?_ | intro _)))) ?_)
        all_goals (first | refine ex_eff rfl rfl (runs_none rfl) (does_append rfl ts22 ti28 rfl (by decide) rfl rfl (by first | rfl | (simp; done) | (simp; omega)) rfl (by first | exact .own _ _ _ rfl rfl _ (by first | rfl | simp) | exact .emp | exact .nil | exact .sl _ (by first | simp; done | intro e he; simp at he; obtain ⟨_, _, rfl⟩ := he; rfl)) (by first | omega | (simp; omega) | (unfold maxLen; simp; omega)) (by first | omega | (simp; omega) | (unfold maxLen; simp; omega))) (fun _ h => app2_other h) ?_ | refine ex_eff rfl rfl (runs_none rfl) (does_append0 rfl ts22 ti28 rfl (by decide) rfl (.inl rfl) rfl (by first | exact .own _ _ _ rfl rfl _ (by first | rfl | simp) | exact .emp | exact .nil | exact .sl _ (by first | simp; done | intro e he; simp at he; obtain ⟨_, _, rfl⟩ := he; rfl)) (by first | omega | (simp; omega) | (unfold maxLen; simp; omega)) (by first | omega | (simp; omega) | (unfold maxLen; simp; omega))) (fun _ h => app_other h) ?_ | refine ex_eff rfl rfl (runs_none rfl) (does_append0 rfl ts22 ti28 rfl (by decide) rfl (.inr rfl) rfl (by first | exact .own _ _ _ rfl rfl _ (by first | rfl | simp) | exact .emp | exact .nil | exact .sl _ (by first | simp; done | intro e he; simp at he; obtain ⟨_, _, rfl⟩ := he; rfl)) (by first | omega | (simp; omega) | (unfold maxLen; simp; omega)) (by first | omega | (simp; omega) | (unfold maxLen; simp; omega))) (fun _ h => app_other h) ?_)
        all_goals (first | refine ex_free rfl rfl (runs_none rfl) (fun _ => (does_fieldAddr_ptr rfl tf26_0 (by decide) rfl)) ?_ | refine ex_free rfl rfl (runs_none rfl) (fun _ => (does_fieldAddr_ref rfl tf26_0 (by decide) rfl)) ?_)
        all_goals refine ex_eff0 rfl (runs_none rfl) (does_store rfl ti22 rfl rfl rfl rfl rfl rfl (by decide) (by decide)) (fun _ h => set_other h) ?_
        all_goals refine ex_nil (by kernel_rfl) ?_
        all_goals (repeat (first | refine aw_seq ?_ | refine ath_n ?_ | refine aw_skip ?_ | refine abl_n ?_ | refine aw_block ?_))
        have htn : tn = true := by
          cases tn with
          | true => rfl
          | false => exact absurd (htf rfl) (by omega)
        have hxC : eF (if tn = true then gti p.b i else fneg (gti p.b i)) = eF (gti p.b i) := by rw [htn]; rfl
    all_goals (refine aw_region ?_)
    all_goals (refine ops_op rfl rfl (runs_none rfl) (mv_s (.inr rfl) rfl) ?_)
    all_goals (refine ops_nil ?_)
    all_goals (repeat (first | refine aw_seq ?_ | refine ath_n ?_ | refine aw_skip ?_ | refine abl_n ?_ | refine aw_block ?_))
    all_goals have hK : (stE p T (dRows p T [] 0) [.row 4 [zP]]).length = p.c.length + 4 := by simp [stE, obsR_len, dRows_len]
    all_goals refine aw_loops (S := Nat) (fun j => [(1, .ref (eP p).cells), (2, .ptr 3 4 0 0), (4, .ptr 0 4 0 0), (6, eI i), (7, eI (dk r i).length), (8, eI k), (9, eB (!tn)), (10, eI j)]) (fun j => stE p (T ++ [(i, tn)]) (dRows p T [(i, tn)] j) [.row 4 [zP]]) (fun j => j ≤ p.c.length) (fun j => p.c.length - j) 0 (wk_ren2 (mv _ 1) (mv_nd _ _) (stC_ren (s := (i, tn)) hK hxC) ⟨.lo _ hlp, .ptr 3 3 4 0 0 (mv_ne (by omega) (by omega)), .ptr 0 0 4 0 0 (mv_ne (by omega) (by omega)), .lo _ (by repeat' (first | exact Lo.s _ | exact Lo.emp | exact Lo.any | exact lo_nil | exact lo_nilE | refine lo_cons ?_ ?_ | refine lo_consE ?_ ?_ | refine lo_map ?_ | refine lo_mapE ?_ | refine Lo.cells ?_ | refine Lo.agg _ ?_ | refine Lo.ref _ ?_ | refine Lo.tup _ ?_ | refine Lo.fn _ _ ?_ | refine Lo.sl _ ?_ | intro _)), .lo _ (by repeat' (first | exact Lo.s _ | exact Lo.emp | exact Lo.any | exact lo_nil | exact lo_nilE | refine lo_cons ?_ ?_ | refine lo_consE ?_ ?_ | refine lo_map ?_ | refine lo_mapE ?_ | refine Lo.cells ?_ | refine Lo.agg _ ?_ | refine Lo.ref _ ?_ | refine Lo.tup _ ?_ | refine Lo.fn _ _ ?_ | refine Lo.sl _ ?_ | intro _)), .lo _ (by repeat' (first | exact Lo.s _ | exact Lo.emp | exact Lo.any | exact lo_nil | exact lo_nilE | refine lo_cons ?_ ?_ | refine lo_consE ?_ ?_ | refine lo_map ?_ | refine lo_mapE ?_ | refine Lo.cells ?_ | refine Lo.agg _ ?_ | refine Lo.ref _ ?_ | refine Lo.tup _ ?_ | refine Lo.fn _ _ ?_ | refine Lo.sl _ ?_ | intro _)), by rw [htn]; exact .lo _ (.s _), .lo _ (by repeat' (first | exact Lo.s _ | exact Lo.emp | exact Lo.any | exact lo_nil | exact lo_nilE | refine lo_cons ?_ ?_ | refine lo_consE ?_ ?_ | refine lo_map ?_ | refine lo_mapE ?_ | refine Lo.cells ?_ | refine Lo.agg _ ?_ | refine Lo.ref _ ?_ | refine Lo.tup _ ?_ | refine Lo.fn _ _ ?_ | refine Lo.sl _ ?_ | intro _)), trivial⟩) (Nat.zero_le _) (fun j hj => ?_)
    all_goals repeat (first | refine aw_seq ?_ | refine ath_n ?_ | refine aw_skip ?_ | refine abl_n ?_ | refine aw_block ?_)
    all_goals (all_goals refine aw_region ?_)
    all_goals (all_goals refine ops_op rfl rfl (runs_none rfl) (mv_s (.inl rfl) rfl) ?_)
    all_goals (all_goals (first | refine ops_op rfl rfl (runs_none rfl) (does_fieldAddr_ptr rfl tf26_0 (by decide) rfl) ?_ | refine ops_op rfl rfl (runs_none rfl) (does_fieldAddr_ref rfl tf26_0 (by decide) rfl) ?_))
    all_goals (all_goals (first | refine ops_op rfl rfl (runs_none rfl) (does_load_ref rfl ta22 rfl) ?_ | refine ops_op rfl rfl (runs_none rfl) (does_load_ptr rfl ta22 rfl rfl rfl rfl rfl) ?_))
    all_goals (all_goals (first | refine ops_op rfl rfl (runs_none rfl) (does_len_map rfl ts22 rfl) ?_ | refine ops_op rfl rfl (runs_none rfl) (does_len_sl rfl ts22 rfl) ?_ | refine ops_op rfl rfl (runs_none rfl) (does_len_own rfl ts22 rfl) ?_ | refine ops_op rfl rfl (runs_none rfl) (does_len_s rfl ts22 rfl) ?_ | refine ops_op rfl rfl (runs_none rfl) (does_len_emp rfl ts22 rfl) ?_))
    all_goals (all_goals (first | refine ops_opP rfl rfl (runs_none rfl) (does_lss rfl rfl rfl) (fun h105 => ?_) (fun h105 => ?_) | refine ops_opB rfl rfl (runs_none rfl) (does_lss rfl rfl rfl) (fun h105 => ?_) (fun h105 => ?_)))
    all_goals (all_goals refine ops_nil ?_)
    all_goals (all_goals (repeat (first | refine aw_seq ?_ | refine ath_n ?_ | refine aw_skip ?_ | refine abl_n ?_ | refine aw_block ?_)))
    all_goals (all_goals (first | refine aw_true rfl ?_ | refine aw_false rfl ?_))
    all_goals (all_goals (repeat (first | refine aw_seq ?_ | refine ath_n ?_ | refine aw_skip ?_ | refine abl_n ?_ | refine aw_block ?_)))
    all_goals first
      | skip
        have e : j = p.c.length := by omega
        subst e
        (refine aw_exit ?_; repeat (first | refine ath_x ?_ | refine abl_hit ?_ | refine abl_miss rfl ?_ | refine abl_n ?_ | refine ath_n ?_ | refine aw_seq ?_ | refine aw_skip ?_ | refine aw_block ?_))
        refine aw_region ?_
        refine ops_op rfl rfl (runs_none rfl) (mv_s (.inl rfl) rfl) ?_
        refine ops_op rfl rfl (runs_none rfl) (does_add rfl rfl rfl (IntWalk.i64_in _ (by omega))) ?_
        refine ops_op rfl rfl (runs_none rfl) (mv_s (.inr rfl) rfl) ?_
        refine ops_nil ?_
        repeat (first | refine aw_seq ?_ | refine ath_n ?_ | refine aw_skip ?_ | refine abl_n ?_ | refine aw_block ?_)
        refine ⟨k + 1, by omega, by omega, ?_⟩
        rw [dRows_n, ← hTk]
        exact wk_sub _ ⟨rfl, rfl, rfl, rfl, rfl, rfl, trivial⟩
      | skip
    all_goals have hjlt : j < p.c.length := by omega
    all_goals have oj := o2 j hjlt
    all_goals have hixj : ((gti p.a i).map eF)[j]? = some (eF (gti (gti p.a i) j)) := ix_map (by omega)
    all_goals (all_goals refine aw_region ?_)
    all_goals (all_goals (first | refine ops_op rfl rfl (runs_none rfl) (does_fieldAddr_ptr rfl tf26_1 (by decide) rfl) ?_ | refine ops_op rfl rfl (runs_none rfl) (does_fieldAddr_ref rfl tf26_1 (by decide) rfl) ?_))
    all_goals (all_goals (first | refine ops_op rfl rfl (runs_none rfl) (does_load_ref rfl ta23 rfl) ?_ | refine ops_op rfl rfl (runs_none rfl) (does_load_ptr rfl ta23 rfl rfl rfl rfl rfl) ?_))
    all_goals (all_goals refine ops_op rfl rfl (runs_none rfl) (mv_s (.inl rfl) rfl) ?_)
    all_goals (all_goals (first | refine ops_op rfl rfl (runs_none rfl) (does_index_sl rfl ts23 ti22 rfl rfl rfl hixa rfl) ?_ | refine ops_op rfl rfl (runs_none rfl) (does_index_own rfl ts23 ti22 rfl rfl rfl hixa) ?_))
    all_goals (all_goals (first | refine ops_op rfl rfl (runs_none rfl) (does_load_ref rfl ta22 rfl) ?_ | refine ops_op rfl rfl (runs_none rfl) (does_load_ptr rfl ta22 rfl rfl rfl rfl rfl) ?_))
    all_goals (all_goals refine ops_op rfl rfl (runs_none rfl) (mv_s (.inl rfl) rfl) ?_)
    all_goals (all_goals (first | refine ops_op rfl rfl (runs_none rfl) (does_index_sl rfl ts22 ti28 rfl rfl rfl hixj rfl) ?_ | refine ops_op rfl rfl (runs_none rfl) (does_index_own rfl ts22 ti28 rfl rfl rfl hixj) ?_))
    all_goals (all_goals (first | refine ops_op rfl rfl (runs_none rfl) (does_load_refw rfl ta28 ti28 rfl rfl) ?_ | refine ops_op rfl rfl (runs_none rfl) (does_load_whole rfl ta28 ti28 rfl rfl rfl rfl rfl) ?_ | refine ops_op rfl rfl (runs_none rfl) (does_load_refs rfl ta28 ti28 rfl (Nat.le_of_ble_eq_true rfl)) ?_ | refine ops_op rfl rfl (runs_none rfl) (does_load_ptrs rfl ta28 ti28 rfl rfl rfl rfl (Nat.le_of_ble_eq_true rfl)) ?_))
    all_goals (all_goals refine ops_op rfl rfl (runs_none rfl) (does_alloc rfl ti28 rfl rfl) ?_)
    all_goals (all_goals refine ops_eff rfl (runs_none rfl) (does_store rfl ti28 rfl rfl (last_get _ _) rfl rfl rfl (by decide) (by decide)) ?_)
    all_goals (all_goals refine ops_nil ?_)
    all_goals (all_goals (repeat (first | refine aw_seq ?_ | refine ath_n ?_ | refine aw_skip ?_ | refine abl_n ?_ | refine aw_block ?_)))
    all_goals have hKj : (stE p (T ++ [(i, tn)]) (dRows p T [(i, tn)] j) [.row 4 [zP]]).length = p.c.length + 4 := by simp [stE, obsR_len, dRows_len]
    all_goals rw [set_last]
    all_goals cases tn
    all_goals first
      | exact Bool.noConfusion htn
      | skip
    all_goals (all_goals refine aw_region ?_)
    all_goals (all_goals refine ops_op rfl rfl (runs_none rfl) (mv_s (.inl rfl) rfl) ?_)
    all_goals (all_goals (first | refine ops_op rfl rfl (runs_none rfl) (does_notp rfl rfl) ?_ | refine ops_op rfl rfl (runs_none rfl) (does_not rfl rfl) ?_))
    all_goals (all_goals refine ops_nil ?_)
    all_goals (all_goals (repeat (first | refine aw_seq ?_ | refine ath_n ?_ | refine aw_skip ?_ | refine abl_n ?_ | refine aw_block ?_)))
    all_goals (all_goals (first | refine aw_true rfl ?_ | refine aw_false rfl ?_))
    all_goals (all_goals (repeat (first | refine aw_seq ?_ | refine ath_n ?_ | refine aw_skip ?_ | refine abl_n ?_ | refine aw_block ?_)))
    all_goals first
      | skip
        all_goals refine aw_region ?_
        all_goals refine ops_op rfl rfl (runs_none rfl) (does_load_whole rfl ta28 ti28 rfl (last_get _ _) rfl rfl rfl) ?_
        all_goals refine ops_op rfl rfl (runs_none rfl) (does_call rfl rfl ((rNeg_pf _ ⟨oj.1, oj.2.1⟩)) (evc_cons rfl evc_nil)) ?_
        all_goals refine ops_eff rfl (runs_none rfl) (does_store rfl ti28 rfl rfl (last_get _ _) rfl rfl rfl (by decide) (by decide)) ?_
        all_goals refine ops_nil ?_
        all_goals (repeat (first | refine aw_seq ?_ | refine ath_n ?_ | refine aw_skip ?_ | refine abl_n ?_ | refine aw_block ?_))
        rw [set_last]
        obtain ⟨xv, hxv⟩ : ∃ xv, xv = dX p j (i, true) := ⟨_, rfl⟩
        have hxe : eF (fneg (gti (gti p.a i) j)) = eF xv := by rw [hxv]; rfl
      | skip
        obtain ⟨xv, hxv⟩ : ∃ xv, xv = dX p j (i, false) := ⟨_, rfl⟩
        have hxe : eF (gti (gti p.a i) j) = eF xv := by rw [hxv]; rfl
    all_goals first
      | refine aw_weak ((kwk_last (d := 11) rfl).trans (kwk_cut (F' := [(1, .ref (eP p).cells), (2, .ptr 3 4 0 0), (4, .ptr 0 4 0 0), (6, eI i), (7, eI (dk r i).length), (8, eI k), (9, eB true), (10, eI j), (11, .ref (eF xv).cells)]) (by rw [hKj]; omega) (stE_loOb _ _ _ (dRows_len _ _ _ _) (dRows_lo _ _ _ _)) ⟨⟨rfl, lo_up hlp⟩, ⟨rfl, .ptr _ _ _ _ (by rw [hKj]; omega)⟩, ⟨rfl, .ptr _ _ _ _ (by rw [hKj]; omega)⟩, ⟨rfl, lo_up (by repeat' (first | exact Lo.s _ | exact Lo.emp | exact Lo.any | exact lo_nil | exact lo_nilE | refine lo_cons ?_ ?_ | refine lo_consE ?_ ?_ | refine lo_map ?_ | refine lo_mapE ?_ | refine Lo.cells ?_ | refine Lo.agg _ ?_ | refine Lo.ref _ ?_ | refine Lo.tup _ ?_ | refine Lo.fn _ _ ?_ | refine Lo.sl _ ?_ | intro _))⟩, ⟨rfl, lo_up (by repeat' (first | exact Lo.s _ | exact Lo.emp | exact Lo.any | exact lo_nil | exact lo_nilE | refine lo_cons ?_ ?_ | refine lo_consE ?_ ?_ | refine lo_map ?_ | refine lo_mapE ?_ | refine Lo.cells ?_ | refine Lo.agg _ ?_ | refine Lo.ref _ ?_ | refine Lo.tup _ ?_ | refine Lo.fn _ _ ?_ | refine Lo.sl _ ?_ | intro _))⟩, ⟨rfl, lo_up (by repeat' (first | exact Lo.s _ | exact Lo.emp | exact Lo.any | exact lo_nil | exact lo_nilE | refine lo_cons ?_ ?_ | refine lo_consE ?_ ?_ | refine lo_map ?_ | refine lo_mapE ?_ | refine Lo.cells ?_ | refine Lo.agg _ ?_ | refine Lo.ref _ ?_ | refine Lo.tup _ ?_ | refine Lo.fn _ _ ?_ | refine Lo.sl _ ?_ | intro _))⟩, ⟨rfl, lo_up (by repeat' (first | exact Lo.s _ | exact Lo.emp | exact Lo.any | exact lo_nil | exact lo_nilE | refine lo_cons ?_ ?_ | refine lo_consE ?_ ?_ | refine lo_map ?_ | refine lo_mapE ?_ | refine Lo.cells ?_ | refine Lo.agg _ ?_ | refine Lo.ref _ ?_ | refine Lo.tup _ ?_ | refine Lo.fn _ _ ?_ | refine Lo.sl _ ?_ | intro _))⟩, ⟨rfl, lo_up (by repeat' (first | exact Lo.s _ | exact Lo.emp | exact Lo.any | exact lo_nil | exact lo_nilE | refine lo_cons ?_ ?_ | refine lo_consE ?_ ?_ | refine lo_map ?_ | refine lo_mapE ?_ | refine Lo.cells ?_ | refine Lo.agg _ ?_ | refine Lo.ref _ ?_ | refine Lo.tup _ ?_ | refine Lo.fn _ _ ?_ | refine Lo.sl _ ?_ | intro _))⟩, ⟨by rw [← hxe]; rfl, lo_up (by repeat' (first | exact Lo.s _ | exact Lo.emp | exact Lo.any | exact lo_nil | exact lo_nilE | refine lo_cons ?_ ?_ | refine lo_consE ?_ ?_ | refine lo_map ?_ | refine lo_mapE ?_ | refine Lo.cells ?_ | refine Lo.agg _ ?_ | refine Lo.ref _ ?_ | refine Lo.tup _ ?_ | refine Lo.fn _ _ ?_ | refine Lo.sl _ ?_ | intro _))⟩, trivial⟩)).weak ?_
      | refine aw_weak ((kwk_last (d := 11) rfl).trans (kwk_cut (F' := [(1, .ref (eP p).cells), (2, .ptr 3 4 0 0), (4, .ptr 0 4 0 0), (6, eI i), (7, eI (dk r i).length), (8, eI k), (9, eB false), (10, eI j), (11, .ref (eF xv).cells)]) (by rw [hKj]; omega) (stE_loOb _ _ _ (dRows_len _ _ _ _) (dRows_lo _ _ _ _)) ⟨⟨rfl, lo_up hlp⟩, ⟨rfl, .ptr _ _ _ _ (by rw [hKj]; omega)⟩, ⟨rfl, .ptr _ _ _ _ (by rw [hKj]; omega)⟩, ⟨rfl, lo_up (by repeat' (first | exact Lo.s _ | exact Lo.emp | exact Lo.any | exact lo_nil | exact lo_nilE | refine lo_cons ?_ ?_ | refine lo_consE ?_ ?_ | refine lo_map ?_ | refine lo_mapE ?_ | refine Lo.cells ?_ | refine Lo.agg _ ?_ | refine Lo.ref _ ?_ | refine Lo.tup _ ?_ | refine Lo.fn _ _ ?_ | refine Lo.sl _ ?_ | intro _))⟩, ⟨rfl, lo_up (by repeat' (first | exact Lo.s _ | exact Lo.emp | exact Lo.any | exact lo_nil | exact lo_nilE | refine lo_cons ?_ ?_ | refine lo_consE ?_ ?_ | refine lo_map ?_ | refine lo_mapE ?_ | refine Lo.cells ?_ | refine Lo.agg _ ?_ | refine Lo.ref _ ?_ | refine Lo.tup _ ?_ | refine Lo.fn _ _ ?_ | refine Lo.sl _ ?_ | intro _))⟩, ⟨rfl, lo_up (by repeat' (first | exact Lo.s _ | exact Lo.emp | exact Lo.any | exact lo_nil | exact lo_nilE | refine lo_cons ?_ ?_ | refine lo_consE ?_ ?_ | refine lo_map ?_ | refine lo_mapE ?_ | refine Lo.cells ?_ | refine Lo.agg _ ?_ | refine Lo.ref _ ?_ | refine Lo.tup _ ?_ | refine Lo.fn _ _ ?_ | refine Lo.sl _ ?_ | intro _))⟩, ⟨rfl, lo_up (by repeat' (first | exact Lo.s _ | exact Lo.emp | exact Lo.any | exact lo_nil | exact lo_nilE | refine lo_cons ?_ ?_ | refine lo_consE ?_ ?_ | refine lo_map ?_ | refine lo_mapE ?_ | refine Lo.cells ?_ | refine Lo.agg _ ?_ | refine Lo.ref _ ?_ | refine Lo.tup _ ?_ | refine Lo.fn _ _ ?_ | refine Lo.sl _ ?_ | intro _))⟩, ⟨rfl, lo_up (by repeat' (first | exact Lo.s _ | exact Lo.emp | exact Lo.any | exact lo_nil | exact lo_nilE | refine lo_cons ?_ ?_ | refine lo_consE ?_ ?_ | refine lo_map ?_ | refine lo_mapE ?_ | refine Lo.cells ?_ | refine Lo.agg _ ?_ | refine Lo.ref _ ?_ | refine Lo.tup _ ?_ | refine Lo.fn _ _ ?_ | refine Lo.sl _ ?_ | intro _))⟩, ⟨by rw [← hxe]; rfl, lo_up (by repeat' (first | exact Lo.s _ | exact Lo.emp | exact Lo.any | exact lo_nil | exact lo_nilE | refine lo_cons ?_ ?_ | refine lo_consE ?_ ?_ | refine lo_map ?_ | refine lo_mapE ?_ | refine Lo.cells ?_ | refine Lo.agg _ ?_ | refine Lo.ref _ ?_ | refine Lo.tup _ ?_ | refine Lo.fn _ _ ?_ | refine Lo.sl _ ?_ | intro _))⟩, trivial⟩)).weak ?_
    all_goals have hrow : ∀ s, (dRows p T [s] j)[j]? = some ((dCol p T j).map eF) := fun s => by rw [dRows_get hjlt, if_neg (by omega)]
    all_goals have hcoll : ((dCol p T j).map eF).length = T.length := by simp [dCol]
    all_goals have hcol2 : (dCol p T j).length = T.length := by simp [dCol]
    all_goals (all_goals refine aw_draw hmix ?_)
    all_goals (all_goals refine adraw_ex ?_)
    all_goals (all_goals (first | refine ex_free rfl rfl (runs_none rfl) (fun _ => (does_fieldAddr_ptr rfl tf26_1 (by decide) rfl)) ?_ | refine ex_free rfl rfl (runs_none rfl) (fun _ => (does_fieldAddr_ref rfl tf26_1 (by decide) rfl)) ?_))
    all_goals (all_goals (first | refine ex_free rfl rfl (runs_none rfl) (fun _ => (does_load_ref rfl ta23 rfl)) ?_ | refine ex_look rfl rfl (runs_none rfl) (look_ptr rfl ta23 rfl rfl rfl rfl rfl) ?_))
    all_goals (all_goals refine ex_free rfl rfl (runs_none rfl) (fun _ => (mv_s (.inl rfl) rfl)) ?_)
    all_goals (all_goals (first | refine ex_free rfl rfl (runs_none rfl) (fun _ => (does_fieldAddr_ptr rfl tf26_1 (by decide) rfl)) ?_ | refine ex_free rfl rfl (runs_none rfl) (fun _ => (does_fieldAddr_ref rfl tf26_1 (by decide) rfl)) ?_))
    all_goals (all_goals (first | refine ex_free rfl rfl (runs_none rfl) (fun _ => (does_load_ref rfl ta23 rfl)) ?_ | refine ex_look rfl rfl (runs_none rfl) (look_ptr rfl ta23 rfl rfl rfl rfl rfl) ?_))
    all_goals (all_goals refine ex_free rfl rfl (runs_none rfl) (fun _ => (mv_s (.inl rfl) rfl)) ?_)
    all_goals (all_goals (first | refine ex_free rfl rfl (runs_none rfl) (fun _ => (does_index_sl rfl ts23 ti22 rfl rfl rfl (ix_map (by omega)) rfl)) ?_ | refine ex_free rfl rfl (runs_none rfl) (fun _ => (does_index_own rfl ts23 ti22 rfl rfl rfl (by omega))) ?_))
    all_goals (all_goals (first | refine ex_free rfl rfl (runs_none rfl) (fun _ => (does_load_ref rfl ta22 rfl)) ?_ | refine ex_look rfl rfl (runs_none rfl) (look_ptr rfl ta22 rfl rfl rfl (ownR_get (hrow _)) rfl) ?_))
    all_goals (all_goals (first | refine ex_free rfl rfl (runs_none rfl) (fun _ => (does_load_refw rfl ta28 ti28 rfl rfl)) ?_ | refine ex_look rfl rfl (runs_none rfl) (look_whole rfl ta28 ti28 rfl rfl rfl rfl rfl) ?_ | refine ex_free rfl rfl (runs_none rfl) (fun _ => (does_load_refs rfl ta28 ti28 rfl (Nat.le_of_ble_eq_true rfl))) ?_ | refine ex_look rfl rfl (runs_none rfl) (look_ptrs rfl ta28 ti28 rfl rfl rfl rfl (Nat.le_of_ble_eq_true rfl)) ?_))
    all_goals (all_goals (first | refine ex_free rfl rfl (runs_none rfl) (fun _ => (lit1_sF rfl ts22 ti28 rfl rfl rfl rfl)) ?_ | refine ex_free rfl rfl (runs_none rfl) (fun _ => (lit1_slF rfl ts22 ti28 rfl rfl rfl rfl (by repeat' (first | exact Lo.s _ | exact Lo.emp | exact Lo.any | exact lo_nil | exact lo_nilE | refine lo_cons ?_ ?_ | refine lo_consE ?_ ?_ | refine lo_map ?_ | refine lo_mapE ?_ | refine Lo.cells ?_ | refine Lo.agg _ ?_ | refine Lo.ref _ ?_ | refine Lo.tup _ ?_ | refine Lo.fn _ _ ?_ | refine Lo.sl _ ?_ | intro _)))) ?_ | refine ex_free rfl rfl (runs_none rfl) (fun _ => (does_litAF rfl ts22 ti28 rfl rfl (by decide) (by decide) rfl rfl rfl (by repeat' (first | exact Lo.s _ | exact Lo.emp | exact Lo.any | exact lo_nil | exact lo_nilE | refine lo_cons ?_ ?_ | refine lo_consE ?_ ?_ | refine lo_map ?_ | refine lo_mapE ?_ | refine Lo.cells ?_ | refine Lo.agg _ ?_ | refine Lo.ref _ ?_ | refine Lo.tup _ ?_ | refine Lo.fn _ _ ?_ | refine Lo.sl _ ?_ | intro _)))) ?_))
    all_goals (all_goals refine ex_eff rfl rfl (runs_none rfl) (does_append rfl ts22 ti28 rfl (by decide) rfl (stE_row (hrow _)) rfl rfl (by first | exact .own _ _ _ rfl rfl _ (by first | rfl | simp) | exact .emp | exact .nil | exact .sl _ (by first | simp; done | intro e he; simp at he; obtain ⟨_, _, rfl⟩ := he; rfl)) (by first | omega | (simp; omega) | (unfold maxLen; simp; omega)) (by first | omega | (simp; omega) | (unfold maxLen; simp; omega))) (fun _ h => app2_other h) ?_)
    all_goals (all_goals (first | refine ex_free rfl rfl (runs_none rfl) (fun _ => (does_index_sl rfl ts23 ti22 rfl rfl rfl (ix_map (by omega)) rfl)) ?_ | refine ex_free rfl rfl (runs_none rfl) (fun _ => (does_index_own rfl ts23 ti22 rfl rfl rfl (by omega))) ?_))
    all_goals (all_goals refine ex_eff0 rfl (runs_none rfl) (does_store rfl ti22 rfl rfl rfl (ownR_get (hrow _)) rfl rfl (by decide) (by decide)) (fun _ h => set_other h) ?_)
    all_goals (all_goals refine ex_nil (by kernel_rfl) ?_)
    all_goals (all_goals (repeat (first | refine aw_seq ?_ | refine ath_n ?_ | refine aw_skip ?_ | refine abl_n ?_ | refine aw_block ?_)))
    all_goals (refine aw_region ?_)
    all_goals (refine ops_op rfl rfl (runs_none rfl) (mv_s (.inl rfl) rfl) ?_)
    all_goals (refine ops_op rfl rfl (runs_none rfl) (does_add rfl rfl rfl (IntWalk.i64_in _ (by omega))) ?_)
    all_goals (refine ops_op rfl rfl (runs_none rfl) (mv_s (.inr rfl) rfl) ?_)
    all_goals (refine ops_nil ?_)
    all_goals (repeat (first | refine aw_seq ?_ | refine ath_n ?_ | refine aw_skip ?_ | refine abl_n ?_ | refine aw_block ?_))
    all_goals exact ⟨j + 1, by omega, by omega, wk_ren2 (mv _ (j + 4)) (mv_nd _ _) (stA_ren hjlt hKj (by rw [← hxv]; rfl)) ⟨.lo _ hlp, .ptr 3 3 4 0 0 (mv_ne (by omega) (by omega)), .ptr 0 0 4 0 0 (mv_ne (by omega) (by omega)), .lo _ (by repeat' (first | exact Lo.s _ | exact Lo.emp | exact Lo.any | exact lo_nil | exact lo_nilE | refine lo_cons ?_ ?_ | refine lo_consE ?_ ?_ | refine lo_map ?_ | refine lo_mapE ?_ | refine Lo.cells ?_ | refine Lo.agg _ ?_ | refine Lo.ref _ ?_ | refine Lo.tup _ ?_ | refine Lo.fn _ _ ?_ | refine Lo.sl _ ?_ | intro _)), .lo _ (by repeat' (first | exact Lo.s _ | exact Lo.emp | exact Lo.any | exact lo_nil | exact lo_nilE | refine lo_cons ?_ ?_ | refine lo_consE ?_ ?_ | refine lo_map ?_ | refine lo_mapE ?_ | refine Lo.cells ?_ | refine Lo.agg _ ?_ | refine Lo.ref _ ?_ | refine Lo.tup _ ?_ | refine Lo.fn _ _ ?_ | refine Lo.sl _ ?_ | intro _)), .lo _ (by repeat' (first | exact Lo.s _ | exact Lo.emp | exact Lo.any | exact lo_nil | exact lo_nilE | refine lo_cons ?_ ?_ | refine lo_consE ?_ ?_ | refine lo_map ?_ | refine lo_mapE ?_ | refine Lo.cells ?_ | refine Lo.agg _ ?_ | refine Lo.ref _ ?_ | refine Lo.tup _ ?_ | refine Lo.fn _ _ ?_ | refine Lo.sl _ ?_ | intro _)), .lo _ (.s _), .lo _ (by repeat' (first | exact Lo.s _ | exact Lo.emp | exact Lo.any | exact lo_nil | exact lo_nilE | refine lo_cons ?_ ?_ | refine lo_consE ?_ ?_ | refine lo_map ?_ | refine lo_mapE ?_ | refine Lo.cells ?_ | refine Lo.agg _ ?_ | refine Lo.ref _ ?_ | refine Lo.tup _ ?_ | refine Lo.fn _ _ ?_ | refine Lo.sl _ ?_ | intro _)), trivial⟩⟩
  · have e : i = p.a.length := by omega
    subst e
    (refine aw_exit ?_; repeat (first | refine ath_x ?_ | refine abl_hit ?_ | refine abl_miss rfl ?_ | refine abl_n ?_ | refine ath_n ?_ | refine aw_seq ?_ | refine aw_skip ?_ | refine aw_block ?_))
    have hTn := stp_len p p.a.length
    have hcl := dC_len p (stp p p.a.length)
    have hcm : ((dC p (stp p p.a.length)).map eF).length = (dC p (stp p p.a.length)).length := by simp
    have hcd : (dlP p).c.length = (dC p (stp p p.a.length)).length := rfl
    refine aw_fzs (id := 2) (S := [.row 4 [.agg [.own 1 2 (dC p (stp p p.a.length)).length, .own 2 1 p.c.length, .sl (List.replicate p.c.length (eI 1)), eL eF p.c]], .row 2 ((dC p (stp p p.a.length)).map eF), .row 1 (ownR 4 2 (dRows p (stp p p.a.length) [] 0)), .row 4 [zP]]) (sz := 1) (sz2 := 2) (rows := dRows p (stp p p.a.length) [] 0) rfl (fun X => ?_)
    rw [dRows_end]
    refine aw_weak (kwk_fzC (id := 0) (sz := 4) (i := 2) (sz2 := 1) (e' := .agg [.own 1 2 (dC p (stp p p.a.length)).length, eL (eL eF) (dlP p).a, .sl (List.replicate p.c.length (eI 1)), eL eF p.c]) (pre := [.own 1 2 (dC p (stp p p.a.length)).length]) (post := [.sl (List.replicate p.c.length (eI 1)), eL eF p.c]) (cs2 := (dlP p).a.map (eL eF)) rfl (by simp [AV.cells, dlP]) rfl (by decide) rfl).weak ?_
    refine aw_weak (kwk_fzC (id := 0) (sz := 4) (i := 1) (sz2 := 2) (e' := eP (dlP p)) (pre := []) (post := [eL (eL eF) (dlP p).a, .sl (List.replicate p.c.length (eI 1)), eL eF p.c]) (cs2 := (dC p (stp p p.a.length)).map eF) rfl (by simp [AV.cells]) rfl (by decide) (by simp [eP, dlP, AV.cells, eL, List.map_replicate])).weak ?_
    all_goals refine aw_region ?_
    all_goals (first | refine ops_op rfl rfl (runs_none rfl) (does_fieldAddr_ptr rfl tf26_0 (by decide) rfl) ?_ | refine ops_op rfl rfl (runs_none rfl) (does_fieldAddr_ref rfl tf26_0 (by decide) rfl) ?_)
    all_goals (first | refine ops_op rfl rfl (runs_none rfl) (does_load_ref rfl ta22 rfl) ?_ | refine ops_op rfl rfl (runs_none rfl) (does_load_ptr rfl ta22 rfl rfl rfl rfl rfl) ?_)
    all_goals (first | refine ops_op rfl rfl (runs_none rfl) (does_len_map rfl ts22 rfl) ?_ | refine ops_op rfl rfl (runs_none rfl) (does_len_sl rfl ts22 rfl) ?_ | refine ops_op rfl rfl (runs_none rfl) (does_len_own rfl ts22 rfl) ?_ | refine ops_op rfl rfl (runs_none rfl) (does_len_s rfl ts22 rfl) ?_ | refine ops_op rfl rfl (runs_none rfl) (does_len_emp rfl ts22 rfl) ?_)
    all_goals (first | refine ops_opP rfl rfl (runs_none rfl) (does_gtr rfl rfl rfl) (fun h135 => ?_) (fun h135 => ?_) | refine ops_opB rfl rfl (runs_none rfl) (does_gtr rfl rfl rfl) (fun h135 => ?_) (fun h135 => ?_))
    all_goals refine ops_nil ?_
    all_goals (repeat (first | refine aw_seq ?_ | refine ath_n ?_ | refine aw_skip ?_ | refine abl_n ?_ | refine aw_block ?_))
    all_goals (first | refine aw_true rfl ?_ | refine aw_false rfl ?_)
    all_goals (repeat (first | refine aw_seq ?_ | refine ath_n ?_ | refine aw_skip ?_ | refine abl_n ?_ | refine aw_block ?_))
    · skip
      refine aw_region ?_
      refine ops_op rfl rfl (runs_none rfl) (does_build rfl ti26 tp26 rfl rfl) ?_
      refine ops_eff rfl (runs_none rfl) (does_store rfl ti26 rfl rfl rfl rfl rfl rfl (by decide) (by decide)) ?_
      refine ops_op rfl rfl (runs_none rfl) (mv_s (.inr rfl) rfl) ?_
      refine ops_nil ?_
      repeat (first | refine aw_seq ?_ | refine ath_n ?_ | refine aw_skip ?_ | refine abl_n ?_ | refine aw_block ?_)
      (refine aw_ret ?_; repeat (first | refine ath_r ?_ | refine abl_r ?_))
      exact post_zp (N := 0) (.inr rfl) ta26 ti26 rfl rfl rfl rfl rfl rfl (by rw [HI, if_pos (by omega)])
    · skip
      refine aw_region ?_
      first | refine ops_op rfl rfl (runs_none rfl) (does_load_refw rfl ta26 ti26 rfl rfl) ?_ | refine ops_op rfl rfl (runs_none rfl) (does_load_whole rfl ta26 ti26 rfl rfl rfl rfl rfl) ?_ | refine ops_op rfl rfl (runs_none rfl) (does_load_refs rfl ta26 ti26 rfl (Nat.le_of_ble_eq_true rfl)) ?_ | refine ops_op rfl rfl (runs_none rfl) (does_load_ptrs rfl ta26 ti26 rfl rfl rfl rfl (Nat.le_of_ble_eq_true rfl)) ?_
      refine ops_eff rfl (runs_none rfl) (does_store rfl ti26 rfl rfl rfl rfl rfl rfl (by decide) (by decide)) ?_
      refine ops_op rfl rfl (runs_none rfl) (mv_s (.inr rfl) rfl) ?_
      refine ops_nil ?_
      repeat (first | refine aw_seq ?_ | refine ath_n ?_ | refine aw_skip ?_ | refine abl_n ?_ | refine aw_block ?_)
      (refine aw_ret ?_; repeat (first | refine ath_r ?_ | refine abl_r ?_))
      rw [if_neg (by omega)] at HI
      subst HI
      exact post_cs (N := 0) (.inr rfl) ta26 ti26 rfl rfl rfl rfl rfl rfl (.refl _) (.refl _)
end Go.Proofs.Ytcpnffjnagbkoaa.Aw
end
