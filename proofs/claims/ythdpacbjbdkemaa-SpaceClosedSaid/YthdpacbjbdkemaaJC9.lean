/-
  Texts joined: SpK. Conditions: none.
-/
import Derived.Test.YthdpacbjbdkemaaJC8
import Derived.Test.YthdpacbjbdkemaaJC4
section
namespace Go.Proofs.Ythdpacbjbdkemaa.Aw
set_option linter.unusedSimpArgs false
set_option linter.unusedVariables false
set_option linter.unusedSectionVars false
open Go Go.RowKit Go.Proofs
variable {P : Program} [IsP P]

def rowsO (mvs : List Mvx) (n i : Nat) : List (List AV) := (List.range n).map fun v => (outsL mvs (v : Nat) i).map eMv
theorem rowsO_len (mvs : List Mvx) (n i : Nat) : (rowsO mvs n i).length = n := by simp [rowsO]
theorem rowsO_get {mvs : List Mvx} {n i v : Nat} (h : v < n) : (rowsO mvs n i)[v]? = some ((outsL mvs (v : Nat) i).map eMv) := by simp [rowsO, h]
theorem rowsO_0 (mvs : List Mvx) (n : Nat) : rowsO mvs n 0 = List.replicate n [] := by
  refine List.ext_getElem? fun v => ?_
  by_cases hv : v < n
  · rw [rowsO_get hv]; simp [hv, outsL, ixs]
  · rw [List.getElem?_eq_none (by rw [rowsO_len]; omega), List.getElem?_eq_none (by simp; omega)]
theorem rowsO_step {mvs : List Mvx} {n i v : Nat} (hv : v < n) (h : (gti mvs i).fr = (v : Nat)) : rowsO mvs n (i + 1) = (rowsO mvs n i).set v ((outsL mvs (v : Nat) i).map eMv ++ [eMv (gti mvs i)]) := by
  refine List.ext_getElem? fun q => ?_
  by_cases hq : q < n
  · rw [rowsO_get hq, outsL_succ, h]
    by_cases e : v = q
    · subst e
      rw [if_pos rfl, List.getElem?_set_self (by rw [rowsO_len]; exact hv), List.map_append]; rfl
    · rw [if_neg (by omega), List.append_nil, List.getElem?_set_ne e, rowsO_get hq]
  · rw [List.getElem?_eq_none (by rw [rowsO_len]; omega), List.getElem?_eq_none (by rw [List.length_set, rowsO_len]; omega)]
theorem rowsO_lo (mvs : List Mvx) (n i : Nat) : ∀ r ∈ rowsO mvs n i, ∀ e ∈ r, ∀ c ∈ e.cells, Lo 0 c := by
  intro r hr e he
  simp only [rowsO, List.mem_map] at hr
  obtain ⟨v, _, rfl⟩ := hr
  obtain ⟨m, _, rfl⟩ := List.mem_map.1 he
  exact (lo_Mv m).cells
def outsA (mvs : List Mvx) (n : Nat) : List (List Mvx) := (List.range n).map fun v => outsL mvs (v : Nat) mvs.length
theorem outsA_sl (mvs : List Mvx) (n : Nat) : (rowsO mvs n mvs.length).map AV.sl = (outsA mvs n).map (eL eMv) := by simp [rowsO, outsA, eL]
theorem outsA_get {mvs : List Mvx} {n v : Nat} (h : v < n) : ((outsA mvs n).map (eL eMv))[v]? = some (eL eMv (outsL mvs (v : Nat) mvs.length)) := by simp [outsA, h]
theorem lo_MvL (l : List (List Mvx)) : Lo 0 (eL (eL eMv) l) := lo_map fun x => lo_Mvs x
theorem metL_0 (n : Nat) (h : 0 < n) : (metL (List.replicate n (-1))).map eB = (List.replicate n (AV.s (.bool false))).set 0 (AV.s (.bool true)) := by
  refine List.ext_getElem? fun v => ?_
  by_cases hv : v < n
  · rw [List.getElem?_map, metL_get (by simpa using hv)]
    have e : gti (List.replicate n (-1 : Int)) v = -1 := by unfold gti; simp [hv]
    rw [e]
    by_cases e0 : v = 0
    · subst e0
      rw [List.getElem?_set_self (by simpa using h)]; rfl
    · rw [List.getElem?_set_ne (fun e => e0 e.symm), List.getElem?_replicate, if_pos hv]
      simp [e0, eB]
  · rw [List.getElem?_eq_none (by simp [metL]; omega), List.getElem?_eq_none (by simp; omega)]
theorem byL_0 (mvs : List Mvx) (n : Nat) : (byL mvs (List.replicate n (-1))).map eMv = List.replicate n (AV.agg [.s (.int .i64 0), .s (.int .i64 0), .s (.int .i64 0)]) := by
  simp [byL, eMv, eI]
theorem rowB_lo (l : List Bool) : ∀ e ∈ l.map eB, ∀ c ∈ e.cells, Lo 0 c := lo_mapE (fun a => (by intro c hc; simp [eB, AV.cells] at hc; subst hc; exact .s _))
set_option maxHeartbeats 8000000 in
theorem path_pf (s : Spc) (tg : Int) : Pure P 18 [eSpc s, eI tg] (eLE (pathE s tg)) := by
  have hf := formed_pf (P := P) s
  have hfi := formedB_iff (s := s)
  have HI : pathE s tg = if formedB s = true then (if tg < 0 ∨ (s.st.length : Int) ≤ tg then ([], 2) else if tg ≠ 0 ∧ gti (bend s).2 tg.toNat < 0 then ([], 10) else ((backP s.mv (bend s).2 s.st.length tg).reverse, 0)) else ([], 1) := rfl
  generalize pathE s tg = R at HI ⊢
  generalize formedB s = z at hf hfi HI
  have hls : Lo 0 (.ref (eSpc s).cells) := .ref _ (lo_Spc s).cells
  refine aw_fn (by rw [IsP.eq (P := P)]; exact Try.func18) rfl rfl rfl rfl rfl (lo_cons (lo_Spc s) (lo_cons (.s _) lo_nil)) (.tup _ (lo_cons lo_I (lo_cons (.s _) lo_nil))) (by simp only [argF]; rfl) ?_
  repeat (first | refine aw_seq ?_ | refine ath_n ?_ | refine aw_skip ?_ | refine abl_n ?_ | refine aw_block ?_)
  refine aw_region ?_
  refine ops_op rfl rfl (runs_none rfl) (does_box rfl rfl rfl rfl) ?_
  refine aops_weak (wk_froz (id := 0) rfl) (aops_weak (wk_ref (d := 2) rfl rfl rfl) ?_)
  first | refine ops_op rfl rfl (runs_none rfl) (mv_own (.inr rfl) rfl) ?_ | refine ops_op rfl rfl (runs_none rfl) (mv_sl (.inr rfl) rfl) ?_ | refine ops_op rfl rfl (runs_none rfl) (mv_s (.inr rfl) rfl) ?_ | refine ops_op rfl rfl (runs_none rfl) (mv_emp (.inr rfl) rfl) ?_ | refine ops_op rfl rfl (runs_none rfl) (mv_sub (.inr rfl) rfl) ?_
  refine ops_op rfl rfl (runs_none rfl) (mv_s (.inr rfl) rfl) ?_
  refine ops_nil ?_
  repeat (first | refine aw_seq ?_ | refine ath_n ?_ | refine aw_skip ?_ | refine abl_n ?_ | refine aw_block ?_)
  all_goals refine aw_region ?_
  all_goals (first | refine ops_op rfl rfl (runs_none rfl) (does_load_refw rfl ta29 ti29 rfl rfl) ?_ | refine ops_op rfl rfl (runs_none rfl) (does_load_whole rfl ta29 ti29 rfl rfl rfl rfl rfl) ?_ | refine ops_op rfl rfl (runs_none rfl) (does_load_refs rfl ta29 ti29 rfl (Nat.le_of_ble_eq_true rfl)) ?_ | refine ops_op rfl rfl (runs_none rfl) (does_load_ptrs rfl ta29 ti29 rfl rfl rfl rfl (Nat.le_of_ble_eq_true rfl)) ?_)
  all_goals (first | refine ops_opP rfl rfl (runs_none rfl) (does_call rfl rfl (hf) (evc_cons rfl evc_nil)) (fun h16 => ?_) (fun h16 => ?_) | refine ops_opB rfl rfl (runs_none rfl) (does_call rfl rfl (hf) (evc_cons rfl evc_nil)) (fun h16 => ?_) (fun h16 => ?_))
  all_goals (first | refine ops_op rfl rfl (runs_none rfl) (does_notp rfl rfl) ?_ | refine ops_op rfl rfl (runs_none rfl) (does_not rfl rfl) ?_)
  all_goals refine ops_nil ?_
  all_goals (repeat (first | refine aw_seq ?_ | refine ath_n ?_ | refine aw_skip ?_ | refine abl_n ?_ | refine aw_block ?_))
  all_goals (first | refine aw_true rfl ?_ | refine aw_false rfl ?_)
  all_goals (repeat (first | refine aw_seq ?_ | refine ath_n ?_ | refine aw_skip ?_ | refine abl_n ?_ | refine aw_block ?_))
  rotate_left 1
  · skip
    refine aw_region ?_
    first | refine ops_op rfl rfl (runs_none rfl) (mv_own (.inr rfl) rfl) ?_ | refine ops_op rfl rfl (runs_none rfl) (mv_sl (.inr rfl) rfl) ?_ | refine ops_op rfl rfl (runs_none rfl) (mv_s (.inr rfl) rfl) ?_ | refine ops_op rfl rfl (runs_none rfl) (mv_emp (.inr rfl) rfl) ?_ | refine ops_op rfl rfl (runs_none rfl) (mv_sub (.inr rfl) rfl) ?_
    refine ops_op rfl rfl (runs_none rfl) (mv_s (.inr rfl) rfl) ?_
    refine ops_nil ?_
    repeat (first | refine aw_seq ?_ | refine ath_n ?_ | refine aw_skip ?_ | refine abl_n ?_ | refine aw_block ?_)
    (refine aw_ret ?_; repeat (first | refine ath_r ?_ | refine abl_r ?_))
    exact post_le (N := 0) (.inr rfl) rfl rfl .nil (by rw [HI, if_neg (by rw [h16]; simp)])
  rw [if_pos h16] at HI
  obtain ⟨⟨hn1, hn2, hm1⟩, hmr⟩ := hfi h16
  obtain ⟨n, hn⟩ : ∃ n, n = s.st.length := ⟨_, rfl⟩
  all_goals refine aw_region ?_
  all_goals refine ops_op rfl rfl (runs_none rfl) (mv_s (.inl rfl) rfl) ?_
  all_goals (first | refine ops_opP rfl rfl (runs_none rfl) (does_lss rfl rfl rfl) (fun h19 => ?_) (fun h19 => ?_) | refine ops_opB rfl rfl (runs_none rfl) (does_lss rfl rfl rfl) (fun h19 => ?_) (fun h19 => ?_))
  all_goals refine ops_op rfl rfl (runs_none rfl) (mv_s (.inl rfl) rfl) ?_
  all_goals (first | refine ops_op rfl rfl (runs_y rfl rfl rfl) (mv_s (.inl rfl) rfl) ?_ | refine ops_skip rfl rfl (runs_nf rfl rfl rfl) ?_ | refine ops_skip rfl rfl (runs_nu rfl rfl rfl) ?_)
  all_goals (first | refine ops_op rfl rfl (runs_y rfl rfl rfl) (does_fieldAddr_ptr rfl tf29_0 (by decide) rfl) ?_ | refine ops_op rfl rfl (runs_y rfl rfl rfl) (does_fieldAddr_ref rfl tf29_0 (by decide) rfl) ?_ | refine ops_skip rfl rfl (runs_nf rfl rfl rfl) ?_ | refine ops_skip rfl rfl (runs_nu rfl rfl rfl) ?_)
  all_goals (first | refine ops_op rfl rfl (runs_y rfl rfl rfl) (does_load_ref rfl ta26 rfl) ?_ | refine ops_op rfl rfl (runs_y rfl rfl rfl) (does_load_ptr rfl ta26 rfl rfl rfl rfl rfl) ?_ | refine ops_skip rfl rfl (runs_nf rfl rfl rfl) ?_ | refine ops_skip rfl rfl (runs_nu rfl rfl rfl) ?_)
  all_goals (first | refine ops_op rfl rfl (runs_y rfl rfl rfl) (does_len_map rfl ts26 rfl) ?_ | refine ops_op rfl rfl (runs_y rfl rfl rfl) (does_len_sl rfl ts26 rfl) ?_ | refine ops_op rfl rfl (runs_y rfl rfl rfl) (does_len_own rfl ts26 rfl) ?_ | refine ops_op rfl rfl (runs_y rfl rfl rfl) (does_len_s rfl ts26 rfl) ?_ | refine ops_op rfl rfl (runs_y rfl rfl rfl) (does_len_emp rfl ts26 rfl) ?_ | refine ops_op rfl rfl (runs_y rfl rfl rfl) (does_len_sub rfl ts26 rfl) ?_ | refine ops_skip rfl rfl (runs_nf rfl rfl rfl) ?_ | refine ops_skip rfl rfl (runs_nu rfl rfl rfl) ?_)
  all_goals (first | refine ops_opP rfl rfl (runs_y rfl rfl rfl) (does_geq rfl rfl rfl) (fun h25 => ?_) (fun h25 => ?_) | refine ops_opB rfl rfl (runs_y rfl rfl rfl) (does_geq rfl rfl rfl) (fun h25 => ?_) (fun h25 => ?_) | refine ops_skip rfl rfl (runs_nf rfl rfl rfl) ?_ | refine ops_skip rfl rfl (runs_nu rfl rfl rfl) ?_)
  all_goals (first | refine ops_op rfl rfl (runs_none rfl) (pickT_s rfl rfl rfl) ?_ | refine ops_op rfl rfl (runs_none rfl) (pickF_s rfl rfl rfl) ?_ | refine ops_op rfl rfl (runs_none rfl) (does_pickT rfl rfl rfl) ?_ | refine ops_op rfl rfl (runs_none rfl) (does_pickF rfl rfl rfl) ?_)
  all_goals refine ops_nil ?_
  all_goals (repeat (first | refine aw_seq ?_ | refine ath_n ?_ | refine aw_skip ?_ | refine abl_n ?_ | refine aw_block ?_))
  all_goals (first | refine aw_true rfl ?_ | refine aw_false rfl ?_)
  all_goals (repeat (first | refine aw_seq ?_ | refine ath_n ?_ | refine aw_skip ?_ | refine abl_n ?_ | refine aw_block ?_))
  all_goals first
    | skip
      refine aw_region ?_
      first | refine ops_op rfl rfl (runs_none rfl) (mv_own (.inr rfl) rfl) ?_ | refine ops_op rfl rfl (runs_none rfl) (mv_sl (.inr rfl) rfl) ?_ | refine ops_op rfl rfl (runs_none rfl) (mv_s (.inr rfl) rfl) ?_ | refine ops_op rfl rfl (runs_none rfl) (mv_emp (.inr rfl) rfl) ?_ | refine ops_op rfl rfl (runs_none rfl) (mv_sub (.inr rfl) rfl) ?_
      refine ops_op rfl rfl (runs_none rfl) (mv_s (.inr rfl) rfl) ?_
      refine ops_nil ?_
      repeat (first | refine aw_seq ?_ | refine ath_n ?_ | refine aw_skip ?_ | refine abl_n ?_ | refine aw_block ?_)
      (refine aw_ret ?_; repeat (first | refine ath_r ?_ | refine abl_r ?_))
      exact post_le (N := 0) (.inr rfl) rfl rfl .nil (by rw [HI, if_pos (by omega)])
    | skip
  rw [if_neg (by omega), ← hn] at HI
  obtain ⟨tn, rfl⟩ : ∃ tn : Nat, tg = (tn : Int) := ⟨tg.toNat, by omega⟩
  rw [Int.toNat_natCast] at HI
  refine aw_region ?_
  first | refine ops_op rfl rfl (runs_none rfl) (does_fieldAddr_ptr rfl tf29_0 (by decide) rfl) ?_ | refine ops_op rfl rfl (runs_none rfl) (does_fieldAddr_ref rfl tf29_0 (by decide) rfl) ?_
  first | refine ops_op rfl rfl (runs_none rfl) (does_load_ref rfl ta26 rfl) ?_ | refine ops_op rfl rfl (runs_none rfl) (does_load_ptr rfl ta26 rfl rfl rfl rfl rfl) ?_
  first | refine ops_op rfl rfl (runs_none rfl) (does_len_map rfl ts26 rfl) ?_ | refine ops_op rfl rfl (runs_none rfl) (does_len_sl rfl ts26 rfl) ?_ | refine ops_op rfl rfl (runs_none rfl) (does_len_own rfl ts26 rfl) ?_ | refine ops_op rfl rfl (runs_none rfl) (does_len_s rfl ts26 rfl) ?_ | refine ops_op rfl rfl (runs_none rfl) (does_len_emp rfl ts26 rfl) ?_ | refine ops_op rfl rfl (runs_none rfl) (does_len_sub rfl ts26 rfl) ?_
  refine ops_op rfl rfl (runs_none rfl) (does_make rfl ts80 ti27 rfl rfl (by decide) rfl rfl rfl rfl (by omega) (by omega) (by omega)) ?_
  first | refine ops_op rfl rfl (runs_none rfl) (mv_own (.inr rfl) rfl) ?_ | refine ops_op rfl rfl (runs_none rfl) (mv_sl (.inr rfl) rfl) ?_ | refine ops_op rfl rfl (runs_none rfl) (mv_s (.inr rfl) rfl) ?_ | refine ops_op rfl rfl (runs_none rfl) (mv_emp (.inr rfl) rfl) ?_ | refine ops_op rfl rfl (runs_none rfl) (mv_sub (.inr rfl) rfl) ?_
  refine ops_nil ?_
  repeat (first | refine aw_seq ?_ | refine ath_n ?_ | refine aw_skip ?_ | refine abl_n ?_ | refine aw_block ?_)
  rw [← hn] at hn1 hn2
  simp only [← hn] at hmr h19 h25
  refine aw_weak (F' := [(1, eI tn), (2, .ref (eSpc s).cells), (6, .own 0 1 n)]) (σ' := [.row 1 (List.replicate n (.s (.slice none 0 0)))]) (wk_st [1] (by decide) ⟨⟨_, rfl, .rowE (lo_nils _) (by rw [hn]; rfl)⟩, trivial⟩ ⟨.lo _ (by repeat' (first | exact Lo.s _ | exact Lo.emp | exact Lo.any | exact lo_nil | exact lo_nilE | refine lo_cons ?_ ?_ | refine lo_consE ?_ ?_ | refine lo_map ?_ | refine lo_mapE ?_ | refine Lo.cells ?_ | refine Lo.agg _ ?_ | refine Lo.ref _ ?_ | refine Lo.tup _ ?_ | refine Lo.fn _ _ ?_ | refine Lo.sl _ ?_ | intro _)), .lo _ hls, .own 1 0 1 _ _ rfl hn.symm, trivial⟩) ?_
  refine aw_weak (wk_nils (id := 0) (sz := 1) (sz2 := 3) (n := n) rfl) ?_
  have hst0 : sto1 3 (rowsO s.mv n 0) = [.row 1 (ownR 1 3 (List.replicate n []))] ++ obsR 3 (List.replicate n []) := by rw [rowsO_0]; rfl
  refine aw_region ?_
  first | refine ops_op rfl rfl (runs_none rfl) (does_fieldAddr_ptr rfl tf29_1 (by decide) rfl) ?_ | refine ops_op rfl rfl (runs_none rfl) (does_fieldAddr_ref rfl tf29_1 (by decide) rfl) ?_
  first | refine ops_op rfl rfl (runs_none rfl) (does_load_ref rfl ta27 rfl) ?_ | refine ops_op rfl rfl (runs_none rfl) (does_load_ptr rfl ta27 rfl rfl rfl rfl rfl) ?_
  first | refine ops_op rfl rfl (runs_none rfl) (does_len_map rfl ts27 rfl) ?_ | refine ops_op rfl rfl (runs_none rfl) (does_len_sl rfl ts27 rfl) ?_ | refine ops_op rfl rfl (runs_none rfl) (does_len_own rfl ts27 rfl) ?_ | refine ops_op rfl rfl (runs_none rfl) (does_len_s rfl ts27 rfl) ?_ | refine ops_op rfl rfl (runs_none rfl) (does_len_emp rfl ts27 rfl) ?_ | refine ops_op rfl rfl (runs_none rfl) (does_len_sub rfl ts27 rfl) ?_
  refine ops_op rfl rfl (runs_none rfl) (mv_s (.inl rfl) rfl) ?_
  refine ops_nil ?_
  repeat (first | refine aw_seq ?_ | refine ath_n ?_ | refine aw_skip ?_ | refine abl_n ?_ | refine aw_block ?_)
  refine aw_loops (S := Nat) (fun i => [(1, eI tn), (2, .ref (eSpc s).cells), (6, .own 0 1 n), (32, eL eMv s.mv), (33, eI s.mv.length), (34, eI i)]) (fun i => sto1 3 (rowsO s.mv n i)) (fun i => i ≤ s.mv.length) (fun i => s.mv.length - i) 0 (by rw [hst0]; exact wk_sub _ ⟨rfl, rfl, rfl, rfl, rfl, rfl, trivial⟩) (Nat.zero_le _) (fun i hi => ?_)
  repeat (first | refine aw_seq ?_ | refine ath_n ?_ | refine aw_skip ?_ | refine abl_n ?_ | refine aw_block ?_)
  all_goals refine aw_region ?_
  all_goals (first | refine ops_opP rfl rfl (runs_none rfl) (does_lss rfl rfl rfl) (fun h35 => ?_) (fun h35 => ?_) | refine ops_opB rfl rfl (runs_none rfl) (does_lss rfl rfl rfl) (fun h35 => ?_) (fun h35 => ?_))
  all_goals refine ops_nil ?_
  all_goals (repeat (first | refine aw_seq ?_ | refine ath_n ?_ | refine aw_skip ?_ | refine abl_n ?_ | refine aw_block ?_))
  all_goals (first | refine aw_true rfl ?_ | refine aw_false rfl ?_)
  all_goals (repeat (first | refine aw_seq ?_ | refine ath_n ?_ | refine aw_skip ?_ | refine abl_n ?_ | refine aw_block ?_))
  · have hlt : i < s.mv.length := by omega
    have hix : (s.mv.map eMv)[i]? = some (eMv (gti s.mv i)) := ix_map hlt
    obtain ⟨r1, r2, r3, r4⟩ := hmr i hlt
    have hK : (sto1 3 (rowsO s.mv n i)).length = n + 1 := by rw [sto1_len, rowsO_len]
    obtain ⟨v, hv⟩ : ∃ v : Nat, (gti s.mv i).fr = v := ⟨(gti s.mv i).fr.toNat, by omega⟩
    have hvn : v < n := by omega
    have hrow := rowsO_get (mvs := s.mv) (i := i) hvn
    have hol := outsL_len s.mv (v : Int) i
    have hol2 : ((outsL s.mv (v : Int) i).map eMv).length = (outsL s.mv (v : Int) i).length := by simp
    have hstep := rowsO_step hvn hv
    have hren := sto1_ren (sz := 3) (x := eMv (gti s.mv i)) (K := (sto1 3 (rowsO s.mv n i)).length) hrow (by rw [sto1_len]) (rowsO_lo _ _ _) (lo_Mv _).cells
    rw [← hstep] at hren
    have hlm : Lo 0 (.ref (eMv (gti s.mv i)).cells) := .ref _ (lo_Mv _).cells
    generalize gti s.mv i = m at *
    all_goals refine aw_region ?_
    all_goals (first | refine ops_op rfl rfl (runs_none rfl) (does_index_sl rfl ts27 ti56 rfl rfl rfl hix rfl) ?_ | refine ops_op rfl rfl (runs_none rfl) (does_index_own rfl ts27 ti56 rfl rfl rfl hix) ?_ | refine ops_op rfl rfl (runs_none rfl) (does_index_sub rfl ts27 ti56 rfl rfl rfl hix) ?_)
    all_goals (first | refine ops_op rfl rfl (runs_none rfl) (does_load_refw rfl ta56 ti56 rfl rfl) ?_ | refine ops_op rfl rfl (runs_none rfl) (does_load_whole rfl ta56 ti56 rfl rfl rfl rfl rfl) ?_ | refine ops_op rfl rfl (runs_none rfl) (does_load_refs rfl ta56 ti56 rfl (Nat.le_of_ble_eq_true rfl)) ?_ | refine ops_op rfl rfl (runs_none rfl) (does_load_ptrs rfl ta56 ti56 rfl rfl rfl rfl (Nat.le_of_ble_eq_true rfl)) ?_)
    all_goals refine ops_op rfl rfl (runs_none rfl) (does_alloc rfl ti56 rfl rfl) ?_
    all_goals refine ops_eff rfl (runs_none rfl) (does_store rfl ti56 rfl rfl (last_get _ _) rfl rfl rfl (by decide) (by decide)) ?_
    all_goals refine ops_nil ?_
    all_goals (repeat (first | refine aw_seq ?_ | refine ath_n ?_ | refine aw_skip ?_ | refine abl_n ?_ | refine aw_block ?_))
    rw [set_last]
    refine aw_weak ((kwk_last (d := 8) rfl).trans (kwk_cut (F' := [(1, eI tn), (2, .ref (eSpc s).cells), (6, .own 0 1 n), (8, .ref (eMv m).cells), (32, eL eMv s.mv), (33, eI s.mv.length), (34, eI i)]) (by rw [hK]; omega) (sto1_loOb _ _ (rowsO_lo _ _ _)) ⟨⟨rfl, lo_up (by repeat' (first | exact Lo.s _ | exact Lo.emp | exact Lo.any | exact lo_nil | exact lo_nilE | refine lo_cons ?_ ?_ | refine lo_consE ?_ ?_ | refine lo_map ?_ | refine lo_mapE ?_ | refine Lo.cells ?_ | refine Lo.agg _ ?_ | refine Lo.ref _ ?_ | refine Lo.tup _ ?_ | refine Lo.fn _ _ ?_ | refine Lo.sl _ ?_ | intro _))⟩, ⟨rfl, lo_up hls⟩, ⟨rfl, .own _ _ _ (by rw [hK]; omega)⟩, ⟨rfl, lo_up hlm⟩, ⟨rfl, lo_up (lo_Mvs _)⟩, ⟨rfl, lo_up (by repeat' (first | exact Lo.s _ | exact Lo.emp | exact Lo.any | exact lo_nil | exact lo_nilE | refine lo_cons ?_ ?_ | refine lo_consE ?_ ?_ | refine lo_map ?_ | refine lo_mapE ?_ | refine Lo.cells ?_ | refine Lo.agg _ ?_ | refine Lo.ref _ ?_ | refine Lo.tup _ ?_ | refine Lo.fn _ _ ?_ | refine Lo.sl _ ?_ | intro _))⟩, ⟨rfl, lo_up (by repeat' (first | exact Lo.s _ | exact Lo.emp | exact Lo.any | exact lo_nil | exact lo_nilE | refine lo_cons ?_ ?_ | refine lo_consE ?_ ?_ | refine lo_map ?_ | refine lo_mapE ?_ | refine Lo.cells ?_ | refine Lo.agg _ ?_ | refine Lo.ref _ ?_ | refine Lo.tup _ ?_ | refine Lo.fn _ _ ?_ | refine Lo.sl _ ?_ | intro _))⟩, trivial⟩)).weak ?_
    all_goals refine aw_draw hmix ?_
    all_goals refine adraw_ex ?_
    all_goals (first | refine ex_free rfl rfl (runs_none rfl) (fun _ => (mv_own (.inl rfl) rfl)) ?_ | refine ex_free rfl rfl (runs_none rfl) (fun _ => (mv_sl (.inl rfl) rfl)) ?_ | refine ex_free rfl rfl (runs_none rfl) (fun _ => (mv_s (.inl rfl) rfl)) ?_ | refine ex_free rfl rfl (runs_none rfl) (fun _ => (mv_emp (.inl rfl) rfl)) ?_ | refine ex_free rfl rfl (runs_none rfl) (fun _ => (mv_sub (.inl rfl) rfl)) ?_)
    all_goals (first | refine ex_free rfl rfl (runs_none rfl) (fun _ => (does_fieldAddr_ptr rfl tf56_0 (by decide) rfl)) ?_ | refine ex_free rfl rfl (runs_none rfl) (fun _ => (does_fieldAddr_ref rfl tf56_0 (by decide) rfl)) ?_)
    all_goals (first | refine ex_free rfl rfl (runs_none rfl) (fun _ => (does_load_ref rfl ta3 rfl)) ?_ | refine ex_look rfl rfl (runs_none rfl) (look_ptr rfl ta3 rfl rfl rfl rfl rfl) ?_)
    all_goals (first | refine ex_free rfl rfl (runs_none rfl) (fun _ => (mv_own (.inl rfl) rfl)) ?_ | refine ex_free rfl rfl (runs_none rfl) (fun _ => (mv_sl (.inl rfl) rfl)) ?_ | refine ex_free rfl rfl (runs_none rfl) (fun _ => (mv_s (.inl rfl) rfl)) ?_ | refine ex_free rfl rfl (runs_none rfl) (fun _ => (mv_emp (.inl rfl) rfl)) ?_ | refine ex_free rfl rfl (runs_none rfl) (fun _ => (mv_sub (.inl rfl) rfl)) ?_)
    all_goals (first | refine ex_free rfl rfl (runs_none rfl) (fun _ => (does_fieldAddr_ptr rfl tf56_0 (by decide) rfl)) ?_ | refine ex_free rfl rfl (runs_none rfl) (fun _ => (does_fieldAddr_ref rfl tf56_0 (by decide) rfl)) ?_)
    all_goals (first | refine ex_free rfl rfl (runs_none rfl) (fun _ => (does_load_ref rfl ta3 rfl)) ?_ | refine ex_look rfl rfl (runs_none rfl) (look_ptr rfl ta3 rfl rfl rfl rfl rfl) ?_)
    all_goals (first | refine ex_free rfl rfl (runs_none rfl) (fun _ => (does_index_sl rfl ts80 ti27 rfl rfl hv hvn rfl)) ?_ | refine ex_free rfl rfl (runs_none rfl) (fun _ => (does_index_own rfl ts80 ti27 rfl rfl hv hvn)) ?_ | refine ex_free rfl rfl (runs_none rfl) (fun _ => (does_index_sub rfl ts80 ti27 rfl rfl hv hvn)) ?_)
    all_goals (first | refine ex_free rfl rfl (runs_none rfl) (fun _ => (does_load_ref rfl ta27 rfl)) ?_ | refine ex_look rfl rfl (runs_none rfl) (look_ptr rfl ta27 rfl rfl rfl (ownR_get hrow) rfl) ?_)
    all_goals (first | refine ex_free rfl rfl (runs_none rfl) (fun _ => (does_load_refw rfl ta56 ti56 rfl rfl)) ?_ | refine ex_look rfl rfl (runs_none rfl) (look_whole rfl ta56 ti56 rfl rfl rfl rfl rfl) ?_ | refine ex_free rfl rfl (runs_none rfl) (fun _ => (does_load_refs rfl ta56 ti56 rfl (Nat.le_of_ble_eq_true rfl))) ?_ | refine ex_look rfl rfl (runs_none rfl) (look_ptrs rfl ta56 ti56 rfl rfl rfl rfl (Nat.le_of_ble_eq_true rfl)) ?_)
    all_goals (first | refine ex_free rfl rfl (runs_none rfl) (fun _ => (lit1_sF rfl ts27 ti56 rfl rfl rfl rfl)) ?_ | refine ex_free rfl rfl (runs_none rfl) (fun _ => (lit1_slF rfl ts27 ti56 rfl rfl rfl rfl (by repeat' (first | exact Lo.s _ | exact Lo.emp | exact Lo.any | exact lo_nil | exact lo_nilE | refine lo_cons ?_ ?_ | refine lo_consE ?_ ?_ | refine lo_map ?_ | refine lo_mapE ?_ | refine Lo.cells ?_ | refine Lo.agg _ ?_ | refine Lo.ref _ ?_ | refine Lo.tup _ ?_ | refine Lo.fn _ _ ?_ | refine Lo.sl _ ?_ | intro _)))) ?_ | refine ex_free rfl rfl (runs_none rfl) (fun _ => (does_litAF rfl ts27 ti56 rfl rfl (by decide) (by decide) rfl rfl rfl (by repeat' (first | exact Lo.s _ | exact Lo.emp | exact Lo.any | exact lo_nil | exact lo_nilE | refine lo_cons ?_ ?_ | refine lo_consE ?_ ?_ | refine lo_map ?_ | refine lo_mapE ?_ | refine Lo.cells ?_ | refine Lo.agg _ ?_ | refine Lo.ref _ ?_ | refine Lo.tup _ ?_ | refine Lo.fn _ _ ?_ | refine Lo.sl _ ?_ | intro _)))) ?_)
    all_goals refine ex_eff rfl rfl (runs_none rfl) (does_append rfl ts27 ti56 rfl (by decide) rfl (sto1_row hrow) rfl rfl (by first | exact .own _ _ _ rfl rfl _ (by first | rfl | simp) | exact .emp | exact .nil | exact .sl _ (by first | simp; done | intro e he; simp at he; obtain ⟨_, _, rfl⟩ := he; rfl)) (by first | omega | (simp; omega) | (unfold maxLen; simp; omega)) (by first | omega | (simp; omega) | (unfold maxLen; simp; omega))) (fun _ h => app2_other h) ?_
    all_goals (first | refine ex_free rfl rfl (runs_none rfl) (fun _ => (does_index_sl rfl ts80 ti27 rfl rfl hv hvn rfl)) ?_ | refine ex_free rfl rfl (runs_none rfl) (fun _ => (does_index_own rfl ts80 ti27 rfl rfl hv hvn)) ?_ | refine ex_free rfl rfl (runs_none rfl) (fun _ => (does_index_sub rfl ts80 ti27 rfl rfl hv hvn)) ?_)
    all_goals refine ex_eff0 rfl (runs_none rfl) (does_store rfl ti27 rfl rfl rfl (ownR_get hrow) rfl rfl (by decide) (by decide)) (fun _ h => set_other h) ?_
    all_goals refine ex_nil (by kernel_rfl) ?_
    all_goals (repeat (first | refine aw_seq ?_ | refine ath_n ?_ | refine aw_skip ?_ | refine abl_n ?_ | refine aw_block ?_))
    refine aw_region ?_
    refine ops_op rfl rfl (runs_none rfl) (does_add rfl rfl rfl (IntWalk.i64_in _ (by omega))) ?_
    refine ops_op rfl rfl (runs_none rfl) (mv_s (.inl rfl) rfl) ?_
    refine ops_nil ?_
    repeat (first | refine aw_seq ?_ | refine ath_n ?_ | refine aw_skip ?_ | refine abl_n ?_ | refine aw_block ?_)
    exact ⟨i + 1, by omega, by omega, wk_ren2 (mv _ (v + 1)) (mv_nd _ _) hren ⟨.lo _ (by repeat' (first | exact Lo.s _ | exact Lo.emp | exact Lo.any | exact lo_nil | exact lo_nilE | refine lo_cons ?_ ?_ | refine lo_consE ?_ ?_ | refine lo_map ?_ | refine lo_mapE ?_ | refine Lo.cells ?_ | refine Lo.agg _ ?_ | refine Lo.ref _ ?_ | refine Lo.tup _ ?_ | refine Lo.fn _ _ ?_ | refine Lo.sl _ ?_ | intro _)), .lo _ hls, .own 0 0 1 _ _ (mv_ne (by omega) (by omega)) rfl, .lo _ (lo_Mvs _), .lo _ (by repeat' (first | exact Lo.s _ | exact Lo.emp | exact Lo.any | exact lo_nil | exact lo_nilE | refine lo_cons ?_ ?_ | refine lo_consE ?_ ?_ | refine lo_map ?_ | refine lo_mapE ?_ | refine Lo.cells ?_ | refine Lo.agg _ ?_ | refine Lo.ref _ ?_ | refine Lo.tup _ ?_ | refine Lo.fn _ _ ?_ | refine Lo.sl _ ?_ | intro _)), .lo _ (by repeat' (first | exact Lo.s _ | exact Lo.emp | exact Lo.any | exact lo_nil | exact lo_nilE | refine lo_cons ?_ ?_ | refine lo_consE ?_ ?_ | refine lo_map ?_ | refine lo_mapE ?_ | refine Lo.cells ?_ | refine Lo.agg _ ?_ | refine Lo.ref _ ?_ | refine Lo.tup _ ?_ | refine Lo.fn _ _ ?_ | refine Lo.sl _ ?_ | intro _)), trivial⟩⟩
  have e : i = s.mv.length := by omega
  subst e
  (refine aw_exit ?_; repeat (first | refine ath_x ?_ | refine abl_hit ?_ | refine abl_miss rfl ?_ | refine abl_n ?_ | refine ath_n ?_ | refine aw_seq ?_ | refine aw_skip ?_ | refine aw_block ?_))
  refine aw_fzs (id := 0) (S := [.row 1 (ownR 1 3 (rowsO s.mv n s.mv.length))]) (sz := 1) (sz2 := 3) (rows := rowsO s.mv n s.mv.length) rfl (fun X => ?_)
  rw [outsA_sl]
  refine aw_weak (wk_froz (id := 0) rfl) ?_
  refine aw_weak (wk_sl (d := 6) rfl rfl (by simp [outsA])) ?_
  refine aw_weak (F' := [(1, eI tn), (2, .ref (eSpc s).cells), (6, eL (eL eMv) (outsA s.mv n))]) (σ' := []) (wk_st [] (by decide) trivial ⟨.lo _ (by repeat' (first | exact Lo.s _ | exact Lo.emp | exact Lo.any | exact lo_nil | exact lo_nilE | refine lo_cons ?_ ?_ | refine lo_consE ?_ ?_ | refine lo_map ?_ | refine lo_mapE ?_ | refine Lo.cells ?_ | refine Lo.agg _ ?_ | refine Lo.ref _ ?_ | refine Lo.tup _ ?_ | refine Lo.fn _ _ ?_ | refine Lo.sl _ ?_ | intro _)), .lo _ hls, .lo _ (lo_MvL _), trivial⟩) ?_
  have h0n : 0 < n := hn1
  have hm0 : (List.replicate n (AV.s (.bool false)))[0]? = some (AV.s (.bool false)) := by simp [h0n]
  refine aw_region ?_
  first | refine ops_op rfl rfl (runs_none rfl) (does_fieldAddr_ptr rfl tf29_0 (by decide) rfl) ?_ | refine ops_op rfl rfl (runs_none rfl) (does_fieldAddr_ref rfl tf29_0 (by decide) rfl) ?_
  first | refine ops_op rfl rfl (runs_none rfl) (does_load_ref rfl ta26 rfl) ?_ | refine ops_op rfl rfl (runs_none rfl) (does_load_ptr rfl ta26 rfl rfl rfl rfl rfl) ?_
  first | refine ops_op rfl rfl (runs_none rfl) (does_len_map rfl ts26 rfl) ?_ | refine ops_op rfl rfl (runs_none rfl) (does_len_sl rfl ts26 rfl) ?_ | refine ops_op rfl rfl (runs_none rfl) (does_len_own rfl ts26 rfl) ?_ | refine ops_op rfl rfl (runs_none rfl) (does_len_s rfl ts26 rfl) ?_ | refine ops_op rfl rfl (runs_none rfl) (does_len_emp rfl ts26 rfl) ?_ | refine ops_op rfl rfl (runs_none rfl) (does_len_sub rfl ts26 rfl) ?_
  refine ops_op rfl rfl (runs_none rfl) (does_make rfl ts81 ti4 rfl rfl (by decide) rfl rfl rfl rfl (by omega) (by omega) (by omega)) ?_
  first | refine ops_op rfl rfl (runs_none rfl) (mv_own (.inr rfl) rfl) ?_ | refine ops_op rfl rfl (runs_none rfl) (mv_sl (.inr rfl) rfl) ?_ | refine ops_op rfl rfl (runs_none rfl) (mv_s (.inr rfl) rfl) ?_ | refine ops_op rfl rfl (runs_none rfl) (mv_emp (.inr rfl) rfl) ?_ | refine ops_op rfl rfl (runs_none rfl) (mv_sub (.inr rfl) rfl) ?_
  refine ops_nil ?_
  repeat (first | refine aw_seq ?_ | refine ath_n ?_ | refine aw_skip ?_ | refine abl_n ?_ | refine aw_block ?_)
  refine aw_region ?_
  first | refine ops_op rfl rfl (runs_none rfl) (does_fieldAddr_ptr rfl tf29_0 (by decide) rfl) ?_ | refine ops_op rfl rfl (runs_none rfl) (does_fieldAddr_ref rfl tf29_0 (by decide) rfl) ?_
  first | refine ops_op rfl rfl (runs_none rfl) (does_load_ref rfl ta26 rfl) ?_ | refine ops_op rfl rfl (runs_none rfl) (does_load_ptr rfl ta26 rfl rfl rfl rfl rfl) ?_
  first | refine ops_op rfl rfl (runs_none rfl) (does_len_map rfl ts26 rfl) ?_ | refine ops_op rfl rfl (runs_none rfl) (does_len_sl rfl ts26 rfl) ?_ | refine ops_op rfl rfl (runs_none rfl) (does_len_own rfl ts26 rfl) ?_ | refine ops_op rfl rfl (runs_none rfl) (does_len_s rfl ts26 rfl) ?_ | refine ops_op rfl rfl (runs_none rfl) (does_len_emp rfl ts26 rfl) ?_ | refine ops_op rfl rfl (runs_none rfl) (does_len_sub rfl ts26 rfl) ?_
  refine ops_op rfl rfl (runs_none rfl) (does_make rfl ts27 ti56 rfl rfl (by decide) rfl rfl rfl rfl (by omega) (by omega) (by omega)) ?_
  first | refine ops_op rfl rfl (runs_none rfl) (mv_own (.inr rfl) rfl) ?_ | refine ops_op rfl rfl (runs_none rfl) (mv_sl (.inr rfl) rfl) ?_ | refine ops_op rfl rfl (runs_none rfl) (mv_s (.inr rfl) rfl) ?_ | refine ops_op rfl rfl (runs_none rfl) (mv_emp (.inr rfl) rfl) ?_ | refine ops_op rfl rfl (runs_none rfl) (mv_sub (.inr rfl) rfl) ?_
  refine ops_nil ?_
  repeat (first | refine aw_seq ?_ | refine ath_n ?_ | refine aw_skip ?_ | refine abl_n ?_ | refine aw_block ?_)
  rw [← hn]
  refine aw_region ?_
  first | refine ops_op rfl rfl (runs_none rfl) (mv_own (.inl rfl) rfl) ?_ | refine ops_op rfl rfl (runs_none rfl) (mv_sl (.inl rfl) rfl) ?_ | refine ops_op rfl rfl (runs_none rfl) (mv_s (.inl rfl) rfl) ?_ | refine ops_op rfl rfl (runs_none rfl) (mv_emp (.inl rfl) rfl) ?_ | refine ops_op rfl rfl (runs_none rfl) (mv_sub (.inl rfl) rfl) ?_
  first | refine ops_op rfl rfl (runs_none rfl) (does_index_sl rfl ts81 ti4 rfl rfl rfl h0n rfl) ?_ | refine ops_op rfl rfl (runs_none rfl) (does_index_own rfl ts81 ti4 rfl rfl rfl h0n) ?_ | refine ops_op rfl rfl (runs_none rfl) (does_index_sub rfl ts81 ti4 rfl rfl rfl h0n) ?_
  refine ops_eff rfl (runs_none rfl) (does_store rfl ti4 rfl rfl rfl hm0 rfl rfl (by decide) (by decide)) ?_
  refine ops_nil ?_
  repeat (first | refine aw_seq ?_ | refine ath_n ?_ | refine aw_skip ?_ | refine abl_n ?_ | refine aw_block ?_)
  refine aw_region ?_
  first | refine ops_op rfl rfl (runs_none rfl) (lit1_s rfl ts25 ti3 rfl rfl rfl rfl) ?_ | refine ops_op rfl rfl (runs_none rfl) (lit1_sl rfl ts25 ti3 rfl rfl rfl rfl) ?_ | refine ops_op rfl rfl (runs_none rfl) (does_litA rfl ts25 ti3 rfl rfl (by decide) (by decide) rfl rfl rfl) ?_
  first | refine ops_op rfl rfl (runs_none rfl) (mv_own (.inr rfl) rfl) ?_ | refine ops_op rfl rfl (runs_none rfl) (mv_sl (.inr rfl) rfl) ?_ | refine ops_op rfl rfl (runs_none rfl) (mv_s (.inr rfl) rfl) ?_ | refine ops_op rfl rfl (runs_none rfl) (mv_emp (.inr rfl) rfl) ?_ | refine ops_op rfl rfl (runs_none rfl) (mv_sub (.inr rfl) rfl) ?_
  refine ops_nil ?_
  repeat (first | refine aw_seq ?_ | refine ath_n ?_ | refine aw_skip ?_ | refine abl_n ?_ | refine aw_block ?_)
  refine aw_weak (wk_sub0 (d := 11) rfl (by decide)) ?_
  have hBI := BI.init (mv := s.mv) hn1
  obtain ⟨W, hW⟩ : ∃ W, bend s = W := ⟨_, rfl⟩
  have hW0 : bfs s.mv n 0 (bs0 n) = W := by rw [← hW, hn]; rfl
  rw [hW] at HI
  refine aw_loops (S := Nat × QB × Nat × List Int) (fun p => [(1, eI tn), (2, .ref (eSpc s).cells), (6, eL (eL eMv) (outsA s.mv n)), (9, .own 0 1 n), (10, .own 1 3 n), (11, .sub 2 1 p.2.2.1 (p.2.1.1.length - p.1))]) (fun p => [.row 1 ((metL p.2.1.2).map eB), .row 3 ((byL s.mv p.2.1.2).map eMv), .row 1 (p.2.2.2.map eI)]) (fun p => BI s.mv n p.2.1 ∧ p.1 ≤ p.2.1.1.length ∧ bfs s.mv (n - p.1) p.1 p.2.1 = W ∧ p.2.2.2.drop p.2.2.1 = p.2.1.1.drop p.1 ∧ p.2.2.1 + (p.2.1.1.length - p.1) = p.2.2.2.length) (fun p => n - p.1) (0, bs0 n, 0, [0])
    (wk_st [0, 1, 2] (by decide) ⟨⟨_, rfl, .rowE (rowB_lo _) (metL_0 n h0n).symm⟩, ⟨_, rfl, .rowE (mvs_lo _) (byL_0 _ n).symm⟩, ⟨_, rfl, .rowE (rowI_lo [0]) rfl⟩, trivial⟩ ⟨.lo _ (by repeat' (first | exact Lo.s _ | exact Lo.emp | exact Lo.any | exact lo_nil | exact lo_nilE | refine lo_cons ?_ ?_ | refine lo_consE ?_ ?_ | refine lo_map ?_ | refine lo_mapE ?_ | refine Lo.cells ?_ | refine Lo.agg _ ?_ | refine Lo.ref _ ?_ | refine Lo.tup _ ?_ | refine Lo.fn _ _ ?_ | refine Lo.sl _ ?_ | intro _)), .lo _ hls, .lo _ (lo_MvL _), .own 0 0 1 _ _ rfl rfl, .own 1 1 3 _ _ rfl rfl, .sub 2 2 1 _ _ _ _ rfl rfl rfl, trivial⟩) ⟨hBI, Nat.zero_le _, hW0, rfl, rfl⟩ (fun p hp => ?_)
  obtain ⟨i, q, o, cs⟩ := p
  obtain ⟨hB, hi, hE, hd, hl⟩ := hp
  replace hB : BI s.mv n q := hB
  replace hi : i ≤ q.1.length := hi
  replace hE : bfs s.mv (n - i) i q = W := hE
  replace hd : cs.drop o = q.1.drop i := hd
  replace hl : o + (q.1.length - i) = cs.length := hl
  have hqn := hB.len
  have hbl := hB.bl
  obtain ⟨b, hb⟩ : ∃ b, decide (tn = 0 ∨ 0 ≤ gti q.2 tn) = b := ⟨_, rfl⟩
  have htn : tn < n := by omega
  have hel : ((metL q.2).map eB)[tn]? = some (eB b) := by rw [List.getElem?_map, metL_get (by omega), hb]; rfl
  repeat (first | refine aw_seq ?_ | refine ath_n ?_ | refine aw_skip ?_ | refine abl_n ?_ | refine aw_block ?_)
  cases b
  all_goals (all_goals refine aw_region ?_)
  all_goals (all_goals (first | refine ops_op rfl rfl (runs_none rfl) (mv_own (.inl rfl) rfl) ?_ | refine ops_op rfl rfl (runs_none rfl) (mv_sl (.inl rfl) rfl) ?_ | refine ops_op rfl rfl (runs_none rfl) (mv_s (.inl rfl) rfl) ?_ | refine ops_op rfl rfl (runs_none rfl) (mv_emp (.inl rfl) rfl) ?_ | refine ops_op rfl rfl (runs_none rfl) (mv_sub (.inl rfl) rfl) ?_))
  all_goals (all_goals (first | refine ops_op rfl rfl (runs_none rfl) (does_len_map rfl ts25 rfl) ?_ | refine ops_op rfl rfl (runs_none rfl) (does_len_sl rfl ts25 rfl) ?_ | refine ops_op rfl rfl (runs_none rfl) (does_len_own rfl ts25 rfl) ?_ | refine ops_op rfl rfl (runs_none rfl) (does_len_s rfl ts25 rfl) ?_ | refine ops_op rfl rfl (runs_none rfl) (does_len_emp rfl ts25 rfl) ?_ | refine ops_op rfl rfl (runs_none rfl) (does_len_sub rfl ts25 rfl) ?_))
  all_goals (all_goals (first | refine ops_opP rfl rfl (runs_none rfl) (does_gtr rfl rfl rfl) (fun h64 => ?_) (fun h64 => ?_) | refine ops_opB rfl rfl (runs_none rfl) (does_gtr rfl rfl rfl) (fun h64 => ?_) (fun h64 => ?_)))
  all_goals (all_goals refine ops_op rfl rfl (runs_none rfl) (mv_s (.inl rfl) rfl) ?_)
  all_goals (all_goals (first | refine ops_op rfl rfl (runs_y rfl rfl rfl) (mv_own (.inl rfl) rfl) ?_ | refine ops_op rfl rfl (runs_y rfl rfl rfl) (mv_sl (.inl rfl) rfl) ?_ | refine ops_op rfl rfl (runs_y rfl rfl rfl) (mv_s (.inl rfl) rfl) ?_ | refine ops_op rfl rfl (runs_y rfl rfl rfl) (mv_emp (.inl rfl) rfl) ?_ | refine ops_op rfl rfl (runs_y rfl rfl rfl) (mv_sub (.inl rfl) rfl) ?_ | refine ops_skip rfl rfl (runs_nt rfl rfl rfl) ?_ | refine ops_skip rfl rfl (runs_nu rfl rfl rfl) ?_))
  all_goals (all_goals (first | refine ops_op rfl rfl (runs_y rfl rfl rfl) (mv_s (.inl rfl) rfl) ?_ | refine ops_skip rfl rfl (runs_nt rfl rfl rfl) ?_ | refine ops_skip rfl rfl (runs_nu rfl rfl rfl) ?_))
  all_goals (all_goals (first | refine ops_op rfl rfl (runs_y rfl rfl rfl) (does_index_sl rfl ts81 ti4 rfl rfl rfl htn rfl) ?_ | refine ops_op rfl rfl (runs_y rfl rfl rfl) (does_index_own rfl ts81 ti4 rfl rfl rfl htn) ?_ | refine ops_op rfl rfl (runs_y rfl rfl rfl) (does_index_sub rfl ts81 ti4 rfl rfl rfl htn) ?_ | refine ops_skip rfl rfl (runs_nt rfl rfl rfl) ?_ | refine ops_skip rfl rfl (runs_nu rfl rfl rfl) ?_))
  all_goals (all_goals (first | refine ops_op rfl rfl (runs_y rfl rfl rfl) (does_load_ref rfl ta4 rfl) ?_ | refine ops_op rfl rfl (runs_y rfl rfl rfl) (does_load_ptr rfl ta4 rfl rfl rfl hel rfl) ?_ | refine ops_skip rfl rfl (runs_nt rfl rfl rfl) ?_ | refine ops_skip rfl rfl (runs_nu rfl rfl rfl) ?_))
  all_goals (all_goals (first | refine ops_op rfl rfl (runs_y rfl rfl rfl) (does_notp rfl rfl) ?_ | refine ops_op rfl rfl (runs_y rfl rfl rfl) (does_not rfl rfl) ?_ | refine ops_skip rfl rfl (runs_nt rfl rfl rfl) ?_ | refine ops_skip rfl rfl (runs_nu rfl rfl rfl) ?_))
  all_goals (all_goals (first | refine ops_op rfl rfl (runs_none rfl) (pickT_s rfl rfl rfl) ?_ | refine ops_op rfl rfl (runs_none rfl) (pickF_s rfl rfl rfl) ?_ | refine ops_op rfl rfl (runs_none rfl) (does_pickT rfl rfl rfl) ?_ | refine ops_op rfl rfl (runs_none rfl) (does_pickF rfl rfl rfl) ?_))
  all_goals (all_goals refine ops_nil ?_)
  all_goals (all_goals (repeat (first | refine aw_seq ?_ | refine ath_n ?_ | refine aw_skip ?_ | refine abl_n ?_ | refine aw_block ?_)))
  all_goals (all_goals (first | refine aw_true rfl ?_ | refine aw_false rfl ?_))
  all_goals (all_goals (repeat (first | refine aw_seq ?_ | refine ath_n ?_ | refine aw_skip ?_ | refine abl_n ?_ | refine aw_block ?_)))
  all_goals dsimp only at h64
  rotate_left 1
  · -- all is met, and the state is not
    have e : i = q.1.length := by omega
    rw [bfs_end (by omega)] at hE
    subst hE
    have hb := of_decide_eq_false hb
    rw [if_pos (by omega)] at HI
    (refine aw_exit ?_; repeat (first | refine ath_x ?_ | refine abl_hit ?_ | refine abl_miss rfl ?_ | refine abl_n ?_ | refine ath_n ?_ | refine aw_seq ?_ | refine aw_skip ?_ | refine aw_block ?_))
    refine aw_region ?_
    first | refine ops_op rfl rfl (runs_none rfl) (mv_own (.inl rfl) rfl) ?_ | refine ops_op rfl rfl (runs_none rfl) (mv_sl (.inl rfl) rfl) ?_ | refine ops_op rfl rfl (runs_none rfl) (mv_s (.inl rfl) rfl) ?_ | refine ops_op rfl rfl (runs_none rfl) (mv_emp (.inl rfl) rfl) ?_ | refine ops_op rfl rfl (runs_none rfl) (mv_sub (.inl rfl) rfl) ?_
    refine ops_op rfl rfl (runs_none rfl) (mv_s (.inl rfl) rfl) ?_
    first | refine ops_op rfl rfl (runs_none rfl) (does_index_sl rfl ts81 ti4 rfl rfl rfl htn rfl) ?_ | refine ops_op rfl rfl (runs_none rfl) (does_index_own rfl ts81 ti4 rfl rfl rfl htn) ?_ | refine ops_op rfl rfl (runs_none rfl) (does_index_sub rfl ts81 ti4 rfl rfl rfl htn) ?_
    first | refine ops_op rfl rfl (runs_none rfl) (does_load_ref rfl ta4 rfl) ?_ | refine ops_op rfl rfl (runs_none rfl) (does_load_ptr rfl ta4 rfl rfl rfl hel rfl) ?_
    first | refine ops_op rfl rfl (runs_none rfl) (does_notp rfl rfl) ?_ | refine ops_op rfl rfl (runs_none rfl) (does_not rfl rfl) ?_
    refine ops_nil ?_
    repeat (first | refine aw_seq ?_ | refine ath_n ?_ | refine aw_skip ?_ | refine abl_n ?_ | refine aw_block ?_)
    refine aw_true rfl ?_
    repeat (first | refine aw_seq ?_ | refine ath_n ?_ | refine aw_skip ?_ | refine abl_n ?_ | refine aw_block ?_)
    refine aw_region ?_
    first | refine ops_op rfl rfl (runs_none rfl) (mv_own (.inr rfl) rfl) ?_ | refine ops_op rfl rfl (runs_none rfl) (mv_sl (.inr rfl) rfl) ?_ | refine ops_op rfl rfl (runs_none rfl) (mv_s (.inr rfl) rfl) ?_ | refine ops_op rfl rfl (runs_none rfl) (mv_emp (.inr rfl) rfl) ?_ | refine ops_op rfl rfl (runs_none rfl) (mv_sub (.inr rfl) rfl) ?_
    refine ops_op rfl rfl (runs_none rfl) (mv_s (.inr rfl) rfl) ?_
    refine ops_nil ?_
    repeat (first | refine aw_seq ?_ | refine ath_n ?_ | refine aw_skip ?_ | refine abl_n ?_ | refine aw_block ?_)
    (refine aw_ret ?_; repeat (first | refine ath_r ?_ | refine abl_r ?_))
    exact post_le (N := 0) (.inr rfl) rfl rfl .nil HI
  rotate_right 1
  · have hlt : i < q.1.length := by omega
    obtain ⟨u, hu⟩ : ∃ u : Nat, gti q.1 i = u := ⟨(gti q.1 i).toNat, by have := hB.at_ hlt; omega⟩
    have hun : u < n := by have := hB.at_ hlt; omega
    have hq0 : (cs.map eI)[o + 0]? = some (eI u) := by
      have : (cs.drop o)[0]? = some (u : Int) := by rw [hd, List.getElem?_drop, Nat.add_zero, gti_get hlt, hu]
      rw [List.getElem?_drop] at this
      rw [List.getElem?_map, this]; rfl
    rw [show n - i = (n - (i + 1)) + 1 by omega, show bfs s.mv ((n - (i + 1)) + 1) i q = if i < q.1.length then bfs s.mv (n - (i + 1)) (i + 1) (brow s.mv (gti q.1 i) q (List.range s.mv.length)) else q from rfl, if_pos hlt, brow_ixs, hu] at hE
    have hXm := fun k (hk : k ∈ ixs s.mv u s.mv.length) => ixs_mem hk
    have hXl := ixs_len s.mv u s.mv.length
    have h76 : 0 < q.1.length - i := by omega
    refine aw_region ?_
    first | refine ops_op rfl rfl (runs_none rfl) (mv_own (.inl rfl) rfl) ?_ | refine ops_op rfl rfl (runs_none rfl) (mv_sl (.inl rfl) rfl) ?_ | refine ops_op rfl rfl (runs_none rfl) (mv_s (.inl rfl) rfl) ?_ | refine ops_op rfl rfl (runs_none rfl) (mv_emp (.inl rfl) rfl) ?_ | refine ops_op rfl rfl (runs_none rfl) (mv_sub (.inl rfl) rfl) ?_
    first | refine ops_op rfl rfl (runs_none rfl) (mv_own (.inl rfl) rfl) ?_ | refine ops_op rfl rfl (runs_none rfl) (mv_sl (.inl rfl) rfl) ?_ | refine ops_op rfl rfl (runs_none rfl) (mv_s (.inl rfl) rfl) ?_ | refine ops_op rfl rfl (runs_none rfl) (mv_emp (.inl rfl) rfl) ?_ | refine ops_op rfl rfl (runs_none rfl) (mv_sub (.inl rfl) rfl) ?_
    first | refine ops_op rfl rfl (runs_none rfl) (does_index_sl rfl ts25 ti3 rfl rfl rfl h76 rfl) ?_ | refine ops_op rfl rfl (runs_none rfl) (does_index_own rfl ts25 ti3 rfl rfl rfl h76) ?_ | refine ops_op rfl rfl (runs_none rfl) (does_index_sub rfl ts25 ti3 rfl rfl rfl h76) ?_
    first | refine ops_op rfl rfl (runs_none rfl) (does_load_ref rfl ta3 rfl) ?_ | refine ops_op rfl rfl (runs_none rfl) (does_load_ptr rfl ta3 rfl rfl rfl hq0 rfl) ?_
    first | refine ops_op rfl rfl (runs_none rfl) (does_index_sl rfl ts80 ti27 rfl rfl rfl (outsA_get hun) rfl) ?_ | refine ops_op rfl rfl (runs_none rfl) (does_index_own rfl ts80 ti27 rfl rfl rfl (outsA_get hun)) ?_ | refine ops_op rfl rfl (runs_none rfl) (does_index_sub rfl ts80 ti27 rfl rfl rfl (outsA_get hun)) ?_
    first | refine ops_op rfl rfl (runs_none rfl) (does_load_ref rfl ta27 rfl) ?_ | refine ops_op rfl rfl (runs_none rfl) (does_load_ptr rfl ta27 rfl rfl rfl rfl rfl) ?_
    first | refine ops_op rfl rfl (runs_none rfl) (does_len_map rfl ts27 rfl) ?_ | refine ops_op rfl rfl (runs_none rfl) (does_len_sl rfl ts27 rfl) ?_ | refine ops_op rfl rfl (runs_none rfl) (does_len_own rfl ts27 rfl) ?_ | refine ops_op rfl rfl (runs_none rfl) (does_len_s rfl ts27 rfl) ?_ | refine ops_op rfl rfl (runs_none rfl) (does_len_emp rfl ts27 rfl) ?_ | refine ops_op rfl rfl (runs_none rfl) (does_len_sub rfl ts27 rfl) ?_
    refine ops_op rfl rfl (runs_none rfl) (mv_s (.inl rfl) rfl) ?_
    refine ops_nil ?_
    repeat (first | refine aw_seq ?_ | refine ath_n ?_ | refine aw_skip ?_ | refine abl_n ?_ | refine aw_block ?_)
    have hLX : outsL s.mv u s.mv.length = (ixs s.mv u s.mv.length).map (gti s.mv) := rfl
    rw [hLX]
    generalize ixs s.mv u s.mv.length = X at hE hXm hXl
    clear hLX hq0 hel hb
    refine aw_loops (S := Nat × QB × Nat × List Int) (fun p => [(1, eI tn), (2, .ref (eSpc s).cells), (6, eL (eL eMv) (outsA s.mv n)), (9, .own 0 1 n), (10, .own 1 3 n), (11, .sub 2 1 p.2.2.1 (p.2.1.1.length - i)), (79, eL eMv (X.map (gti s.mv))), (80, eI (X.map (gti s.mv)).length), (81, eI p.1)]) (fun p => [.row 1 ((metL p.2.1.2).map eB), .row 3 ((byL s.mv p.2.1.2).map eMv), .row 1 (p.2.2.2.map eI)]) (fun p => BI s.mv n p.2.1 ∧ i < p.2.1.1.length ∧ gti p.2.1.1 i = u ∧ bfs s.mv (n - (i + 1)) (i + 1) (brow s.mv u p.2.1 (X.drop p.1)) = W ∧ p.2.2.2.drop p.2.2.1 = p.2.1.1.drop i ∧ p.2.2.1 + (p.2.1.1.length - i) = p.2.2.2.length ∧ p.1 ≤ X.length) (fun p => X.length - p.1) (0, q, o, cs)
      (wk_sub _ ⟨rfl, rfl, rfl, rfl, rfl, rfl, rfl, rfl, rfl, trivial⟩) ⟨hB, hlt, hu, hE, hd, hl, Nat.zero_le _⟩ (fun p hp => ?_)
    clear hE hd hl hB hqn hbl hu hlt
    obtain ⟨j, q, o, cs⟩ := p
    obtain ⟨hB, hlt, hu, hE, hd, hl, hj⟩ := hp
    replace hB : BI s.mv n q := hB
    replace hlt : i < q.1.length := hlt
    replace hu : gti q.1 i = u := hu
    replace hE : bfs s.mv (n - (i + 1)) (i + 1) (brow s.mv u q (X.drop j)) = W := hE
    replace hd : cs.drop o = q.1.drop i := hd
    replace hl : o + (q.1.length - i) = cs.length := hl
    replace hj : j ≤ X.length := hj
    have hqn := hB.len
    have hbl := hB.bl
    have hLl : (X.map (gti s.mv)).length = X.length := by simp
    repeat (first | refine aw_seq ?_ | refine ath_n ?_ | refine aw_skip ?_ | refine abl_n ?_ | refine aw_block ?_)
    all_goals refine aw_region ?_
    all_goals (first | refine ops_opP rfl rfl (runs_none rfl) (does_lss rfl rfl rfl) (fun h82 => ?_) (fun h82 => ?_) | refine ops_opB rfl rfl (runs_none rfl) (does_lss rfl rfl rfl) (fun h82 => ?_) (fun h82 => ?_))
    all_goals refine ops_nil ?_
    all_goals (repeat (first | refine aw_seq ?_ | refine ath_n ?_ | refine aw_skip ?_ | refine abl_n ?_ | refine aw_block ?_))
    all_goals (first | refine aw_true rfl ?_ | refine aw_false rfl ?_)
    all_goals (repeat (first | refine aw_seq ?_ | refine ath_n ?_ | refine aw_skip ?_ | refine abl_n ?_ | refine aw_block ?_))
    all_goals dsimp only at h82
    rotate_left 1
    · have e : j = X.length := by omega
      subst e
      rw [List.drop_length] at hE
      (refine aw_exit ?_; repeat (first | refine ath_x ?_ | refine abl_hit ?_ | refine abl_miss rfl ?_ | refine abl_n ?_ | refine ath_n ?_ | refine aw_seq ?_ | refine aw_skip ?_ | refine aw_block ?_))
      have h73 : 0 < q.1.length - i := by omega
      have h73b : 1 ≤ q.1.length - i := h73
      all_goals refine aw_region ?_
      all_goals (first | refine ops_op rfl rfl (runs_none rfl) (mv_own (.inl rfl) rfl) ?_ | refine ops_op rfl rfl (runs_none rfl) (mv_sl (.inl rfl) rfl) ?_ | refine ops_op rfl rfl (runs_none rfl) (mv_s (.inl rfl) rfl) ?_ | refine ops_op rfl rfl (runs_none rfl) (mv_emp (.inl rfl) rfl) ?_ | refine ops_op rfl rfl (runs_none rfl) (mv_sub (.inl rfl) rfl) ?_)
      all_goals refine ops_op rfl rfl (runs_none rfl) (does_slice_sub rfl ts25 ti3 rfl rfl h73 rfl rfl h73b) ?_
      all_goals (first | refine ops_op rfl rfl (runs_none rfl) (mv_own (.inr rfl) rfl) ?_ | refine ops_op rfl rfl (runs_none rfl) (mv_sl (.inr rfl) rfl) ?_ | refine ops_op rfl rfl (runs_none rfl) (mv_s (.inr rfl) rfl) ?_ | refine ops_op rfl rfl (runs_none rfl) (mv_emp (.inr rfl) rfl) ?_ | refine ops_op rfl rfl (runs_none rfl) (mv_sub (.inr rfl) rfl) ?_)
      all_goals refine ops_nil ?_
      all_goals (repeat (first | refine aw_seq ?_ | refine ath_n ?_ | refine aw_skip ?_ | refine abl_n ?_ | refine aw_block ?_))
      exact ⟨(i + 1, q, o + 1, cs), ⟨hB, hlt, hE, by show cs.drop (o + 1) = q.1.drop (i + 1); rw [← List.drop_drop, hd, List.drop_drop], by show o + 1 + (q.1.length - (i + 1)) = cs.length; omega⟩, by show n - (i + 1) < n - i; omega, wk_st [0, 1, 2] (by decide) ⟨⟨_, rfl, .rowE (rowB_lo _) rfl⟩, ⟨_, rfl, .rowE (mvs_lo _) rfl⟩, ⟨_, rfl, .rowE (rowI_lo _) rfl⟩, trivial⟩ ⟨.lo _ (by repeat' (first | exact Lo.s _ | exact Lo.emp | exact Lo.any | exact lo_nil | exact lo_nilE | refine lo_cons ?_ ?_ | refine lo_consE ?_ ?_ | refine lo_map ?_ | refine lo_mapE ?_ | refine Lo.cells ?_ | refine Lo.agg _ ?_ | refine Lo.ref _ ?_ | refine Lo.tup _ ?_ | refine Lo.fn _ _ ?_ | refine Lo.sl _ ?_ | intro _)), .lo _ hls, .lo _ (lo_MvL _), .own 0 0 1 _ _ rfl rfl, .own 1 1 3 _ _ rfl rfl, .sub 2 2 1 _ _ _ _ rfl rfl (show q.1.length - i - 1 = q.1.length - (i + 1) by omega), trivial⟩⟩
    have hjt : j < X.length := by omega
    have hXk : X.drop j = gti X j :: X.drop (j + 1) := drop_gti hjt
    have hix : ((X.map (gti s.mv)).map eMv)[j]? = some (eMv (gti s.mv (gti X j))) := by rw [List.getElem?_map, List.getElem?_map, gti_get hjt]; rfl
    obtain ⟨hkN, hkf⟩ := hXm _ (gti_mem hjt)
    rw [hXk, show brow s.mv u q (gti X j :: X.drop (j + 1)) = brow s.mv u (bstep s.mv u q (gti X j)) (X.drop (j + 1)) from rfl] at hE
    obtain ⟨_, _, ht0, ht1⟩ := hmr _ hkN
    have hst := hB.step hlt hkN ⟨ht0, ht1⟩
    rw [hu] at hst
    obtain ⟨hB2, hX2⟩ := hst
    have hg2 := hX2.gti hlt
    rw [hu] at hg2
    have hstep : bstep s.mv u q (gti X j) = if (gti s.mv (gti X j)).fr = u ∧ (gti s.mv (gti X j)).tt ≠ 0 ∧ gti q.2 (gti s.mv (gti X j)).tt.toNat < 0 then (q.1 ++ [(gti s.mv (gti X j)).tt], q.2.set (gti s.mv (gti X j)).tt.toNat ((gti X j : Nat) : Int)) else q := rfl
    have hbyset := fun t => byL_set (mv := s.mv) (B := q.2) (t := t) (k := gti X j)
    have hmeset := fun t (h : t < q.2.length) => metL_set (k := gti X j) h
    generalize bstep s.mv u q (gti X j) = q1 at hE hB2 hg2 hstep
    generalize gti X j = k at *
    generalize gti s.mv k = m at *
    obtain ⟨w, hw⟩ : ∃ w : Nat, m.tt = (w : Int) := ⟨m.tt.toNat, by omega⟩
    have hwn : w < n := by omega
    rw [hw, Int.toNat_natCast] at hstep
    have hbyw : ((byL s.mv q.2).map eMv)[w]? = some (eMv (if 0 ≤ gti q.2 w then gti s.mv (gti q.2 w).toNat else ⟨0, 0, 0⟩)) := by
      rw [List.getElem?_map, byL_get (by omega)]; rfl
    generalize (if 0 ≤ gti q.2 w then gti s.mv (gti q.2 w).toNat else (⟨0, 0, 0⟩ : Mvx)) = e0 at hbyw
    obtain ⟨b2, hb2⟩ : ∃ b2, decide (w = 0 ∨ 0 ≤ gti q.2 w) = b2 := ⟨_, rfl⟩
    have hel2 : ((metL q.2).map eB)[w]? = some (eB b2) := by rw [List.getElem?_map, metL_get (by omega), hb2]; rfl
    have hlm : Lo 0 (.ref (eMv m).cells) := .ref _ (lo_Mv m).cells
    refine aw_region ?_
    first | refine ops_op rfl rfl (runs_none rfl) (does_index_sl rfl ts27 ti56 rfl rfl rfl hix rfl) ?_ | refine ops_op rfl rfl (runs_none rfl) (does_index_own rfl ts27 ti56 rfl rfl rfl hix) ?_ | refine ops_op rfl rfl (runs_none rfl) (does_index_sub rfl ts27 ti56 rfl rfl rfl hix) ?_
    first | refine ops_op rfl rfl (runs_none rfl) (does_load_refw rfl ta56 ti56 rfl rfl) ?_ | refine ops_op rfl rfl (runs_none rfl) (does_load_whole rfl ta56 ti56 rfl rfl rfl rfl rfl) ?_ | refine ops_op rfl rfl (runs_none rfl) (does_load_refs rfl ta56 ti56 rfl (Nat.le_of_ble_eq_true rfl)) ?_ | refine ops_op rfl rfl (runs_none rfl) (does_load_ptrs rfl ta56 ti56 rfl rfl rfl rfl (Nat.le_of_ble_eq_true rfl)) ?_
    refine ops_op rfl rfl (runs_none rfl) (does_alloc rfl ti56 rfl rfl) ?_
    refine ops_eff rfl (runs_none rfl) (does_store rfl ti56 rfl rfl rfl rfl rfl rfl (by decide) (by decide)) ?_
    refine ops_nil ?_
    repeat (first | refine aw_seq ?_ | refine ath_n ?_ | refine aw_skip ?_ | refine abl_n ?_ | refine aw_block ?_)
    refine aw_weak (wk_froz (id := 3) rfl) ?_
    refine aw_weak (wk_ref (d := 13) rfl rfl rfl) ?_
    cases b2 with
    | true =>
      have hb2 := of_decide_eq_true hb2
      rw [if_neg (by omega)] at hstep
      subst hstep
      refine aw_region ?_
      first | refine ops_op rfl rfl (runs_none rfl) (mv_own (.inl rfl) rfl) ?_ | refine ops_op rfl rfl (runs_none rfl) (mv_sl (.inl rfl) rfl) ?_ | refine ops_op rfl rfl (runs_none rfl) (mv_s (.inl rfl) rfl) ?_ | refine ops_op rfl rfl (runs_none rfl) (mv_emp (.inl rfl) rfl) ?_ | refine ops_op rfl rfl (runs_none rfl) (mv_sub (.inl rfl) rfl) ?_
      first | refine ops_op rfl rfl (runs_none rfl) (does_fieldAddr_ptr rfl tf56_1 (by decide) rfl) ?_ | refine ops_op rfl rfl (runs_none rfl) (does_fieldAddr_ref rfl tf56_1 (by decide) rfl) ?_
      first | refine ops_op rfl rfl (runs_none rfl) (does_load_ref rfl ta3 rfl) ?_ | refine ops_op rfl rfl (runs_none rfl) (does_load_ptr rfl ta3 rfl rfl rfl rfl rfl) ?_
      first | refine ops_op rfl rfl (runs_none rfl) (does_index_sl rfl ts81 ti4 rfl rfl hw hwn rfl) ?_ | refine ops_op rfl rfl (runs_none rfl) (does_index_own rfl ts81 ti4 rfl rfl hw hwn) ?_ | refine ops_op rfl rfl (runs_none rfl) (does_index_sub rfl ts81 ti4 rfl rfl hw hwn) ?_
      first | refine ops_op rfl rfl (runs_none rfl) (does_load_ref rfl ta4 rfl) ?_ | refine ops_op rfl rfl (runs_none rfl) (does_load_ptr rfl ta4 rfl rfl rfl hel2 rfl) ?_
      first | refine ops_op rfl rfl (runs_none rfl) (does_notp rfl rfl) ?_ | refine ops_op rfl rfl (runs_none rfl) (does_not rfl rfl) ?_
      refine ops_nil ?_
      repeat (first | refine aw_seq ?_ | refine ath_n ?_ | refine aw_skip ?_ | refine abl_n ?_ | refine aw_block ?_)
      refine aw_false rfl ?_
      repeat (first | refine aw_seq ?_ | refine ath_n ?_ | refine aw_skip ?_ | refine abl_n ?_ | refine aw_block ?_)
      refine aw_region ?_
      refine ops_op rfl rfl (runs_none rfl) (does_add rfl rfl rfl (IntWalk.i64_in _ (by omega))) ?_
      refine ops_op rfl rfl (runs_none rfl) (mv_s (.inl rfl) rfl) ?_
      refine ops_nil ?_
      repeat (first | refine aw_seq ?_ | refine ath_n ?_ | refine aw_skip ?_ | refine abl_n ?_ | refine aw_block ?_)
      exact ⟨(j + 1, q1, o, cs), ⟨hB2, hlt, hu, hE, hd, hl, by show j + 1 ≤ X.length; omega⟩, by show X.length - (j + 1) < X.length - j; omega, wk_st [0, 1, 2] (by decide) ⟨⟨_, rfl, .rowE (rowB_lo _) rfl⟩, ⟨_, rfl, .rowE (mvs_lo _) rfl⟩, ⟨_, rfl, .rowE (rowI_lo _) rfl⟩, trivial⟩ ⟨.lo _ (by repeat' (first | exact Lo.s _ | exact Lo.emp | exact Lo.any | exact lo_nil | exact lo_nilE | refine lo_cons ?_ ?_ | refine lo_consE ?_ ?_ | refine lo_map ?_ | refine lo_mapE ?_ | refine Lo.cells ?_ | refine Lo.agg _ ?_ | refine Lo.ref _ ?_ | refine Lo.tup _ ?_ | refine Lo.fn _ _ ?_ | refine Lo.sl _ ?_ | intro _)), .lo _ hls, .lo _ (lo_MvL _), .own 0 0 1 _ _ rfl rfl, .own 1 1 3 _ _ rfl rfl, .sub 2 2 1 _ _ _ _ rfl rfl rfl, .lo _ (lo_Mvs _), .lo _ (by repeat' (first | exact Lo.s _ | exact Lo.emp | exact Lo.any | exact lo_nil | exact lo_nilE | refine lo_cons ?_ ?_ | refine lo_consE ?_ ?_ | refine lo_map ?_ | refine lo_mapE ?_ | refine Lo.cells ?_ | refine Lo.agg _ ?_ | refine Lo.ref _ ?_ | refine Lo.tup _ ?_ | refine Lo.fn _ _ ?_ | refine Lo.sl _ ?_ | intro _)), .lo _ (by repeat' (first | exact Lo.s _ | exact Lo.emp | exact Lo.any | exact lo_nil | exact lo_nilE | refine lo_cons ?_ ?_ | refine lo_consE ?_ ?_ | refine lo_map ?_ | refine lo_mapE ?_ | refine Lo.cells ?_ | refine Lo.agg _ ?_ | refine Lo.ref _ ?_ | refine Lo.tup _ ?_ | refine Lo.fn _ _ ?_ | refine Lo.sl _ ?_ | intro _)), trivial⟩⟩
    | false =>
      have hb2 := of_decide_eq_false hb2
      rw [if_pos ⟨hkf, by omega, by omega⟩] at hstep
      subst hstep
      have hlm2 : o + (q.1.length - i) = (cs.map eI).length := by rw [List.length_map]; exact hl
      have h104 : 0 < q.1.length - i := by omega
      have hmet : (metL (q.2.set w (k : Int))).map eB = ((metL q.2).map eB).set w (eB true) := by rw [hmeset w (by omega), List.map_set]
      have hby : (byL s.mv (q.2.set w (k : Int))).map eMv = ((byL s.mv q.2).map eMv).set w (eMv m) := by rw [hbyset, List.map_set]
      have hql : (q.1 ++ [(w : Int)]).length - i = q.1.length - i + 1 := by simp; omega
      refine aw_region ?_
      first | refine ops_op rfl rfl (runs_none rfl) (mv_own (.inl rfl) rfl) ?_ | refine ops_op rfl rfl (runs_none rfl) (mv_sl (.inl rfl) rfl) ?_ | refine ops_op rfl rfl (runs_none rfl) (mv_s (.inl rfl) rfl) ?_ | refine ops_op rfl rfl (runs_none rfl) (mv_emp (.inl rfl) rfl) ?_ | refine ops_op rfl rfl (runs_none rfl) (mv_sub (.inl rfl) rfl) ?_
      first | refine ops_op rfl rfl (runs_none rfl) (does_fieldAddr_ptr rfl tf56_1 (by decide) rfl) ?_ | refine ops_op rfl rfl (runs_none rfl) (does_fieldAddr_ref rfl tf56_1 (by decide) rfl) ?_
      first | refine ops_op rfl rfl (runs_none rfl) (does_load_ref rfl ta3 rfl) ?_ | refine ops_op rfl rfl (runs_none rfl) (does_load_ptr rfl ta3 rfl rfl rfl rfl rfl) ?_
      first | refine ops_op rfl rfl (runs_none rfl) (does_index_sl rfl ts81 ti4 rfl rfl hw hwn rfl) ?_ | refine ops_op rfl rfl (runs_none rfl) (does_index_own rfl ts81 ti4 rfl rfl hw hwn) ?_ | refine ops_op rfl rfl (runs_none rfl) (does_index_sub rfl ts81 ti4 rfl rfl hw hwn) ?_
      first | refine ops_op rfl rfl (runs_none rfl) (does_load_ref rfl ta4 rfl) ?_ | refine ops_op rfl rfl (runs_none rfl) (does_load_ptr rfl ta4 rfl rfl rfl hel2 rfl) ?_
      first | refine ops_op rfl rfl (runs_none rfl) (does_notp rfl rfl) ?_ | refine ops_op rfl rfl (runs_none rfl) (does_not rfl rfl) ?_
      refine ops_nil ?_
      repeat (first | refine aw_seq ?_ | refine ath_n ?_ | refine aw_skip ?_ | refine abl_n ?_ | refine aw_block ?_)
      refine aw_true rfl ?_
      repeat (first | refine aw_seq ?_ | refine ath_n ?_ | refine aw_skip ?_ | refine abl_n ?_ | refine aw_block ?_)
      all_goals refine aw_draw hmix ?_
      all_goals refine adraw_ex ?_
      all_goals (first | refine ex_free rfl rfl (runs_none rfl) (fun _ => (mv_own (.inl rfl) rfl)) ?_ | refine ex_free rfl rfl (runs_none rfl) (fun _ => (mv_sl (.inl rfl) rfl)) ?_ | refine ex_free rfl rfl (runs_none rfl) (fun _ => (mv_s (.inl rfl) rfl)) ?_ | refine ex_free rfl rfl (runs_none rfl) (fun _ => (mv_emp (.inl rfl) rfl)) ?_ | refine ex_free rfl rfl (runs_none rfl) (fun _ => (mv_sub (.inl rfl) rfl)) ?_)
      all_goals (first | refine ex_free rfl rfl (runs_none rfl) (fun _ => (does_fieldAddr_ptr rfl tf56_1 (by decide) rfl)) ?_ | refine ex_free rfl rfl (runs_none rfl) (fun _ => (does_fieldAddr_ref rfl tf56_1 (by decide) rfl)) ?_)
      all_goals (first | refine ex_free rfl rfl (runs_none rfl) (fun _ => (does_load_ref rfl ta3 rfl)) ?_ | refine ex_look rfl rfl (runs_none rfl) (look_ptr rfl ta3 rfl rfl rfl rfl rfl) ?_)
      all_goals (first | refine ex_free rfl rfl (runs_none rfl) (fun _ => (mv_own (.inl rfl) rfl)) ?_ | refine ex_free rfl rfl (runs_none rfl) (fun _ => (mv_sl (.inl rfl) rfl)) ?_ | refine ex_free rfl rfl (runs_none rfl) (fun _ => (mv_s (.inl rfl) rfl)) ?_ | refine ex_free rfl rfl (runs_none rfl) (fun _ => (mv_emp (.inl rfl) rfl)) ?_ | refine ex_free rfl rfl (runs_none rfl) (fun _ => (mv_sub (.inl rfl) rfl)) ?_)
      all_goals (first | refine ex_free rfl rfl (runs_none rfl) (fun _ => (does_fieldAddr_ptr rfl tf56_1 (by decide) rfl)) ?_ | refine ex_free rfl rfl (runs_none rfl) (fun _ => (does_fieldAddr_ref rfl tf56_1 (by decide) rfl)) ?_)
      all_goals (first | refine ex_free rfl rfl (runs_none rfl) (fun _ => (does_load_ref rfl ta3 rfl)) ?_ | refine ex_look rfl rfl (runs_none rfl) (look_ptr rfl ta3 rfl rfl rfl rfl rfl) ?_)
      all_goals (first | refine ex_free rfl rfl (runs_none rfl) (fun _ => (does_load_refw rfl ta56 ti56 rfl rfl)) ?_ | refine ex_look rfl rfl (runs_none rfl) (look_whole rfl ta56 ti56 rfl rfl rfl rfl rfl) ?_ | refine ex_free rfl rfl (runs_none rfl) (fun _ => (does_load_refs rfl ta56 ti56 rfl (Nat.le_of_ble_eq_true rfl))) ?_ | refine ex_look rfl rfl (runs_none rfl) (look_ptrs rfl ta56 ti56 rfl rfl rfl rfl (Nat.le_of_ble_eq_true rfl)) ?_)
      all_goals (first | refine ex_free rfl rfl (runs_none rfl) (fun _ => (does_index_sl rfl ts81 ti4 rfl rfl hw hwn rfl)) ?_ | refine ex_free rfl rfl (runs_none rfl) (fun _ => (does_index_own rfl ts81 ti4 rfl rfl hw hwn)) ?_ | refine ex_free rfl rfl (runs_none rfl) (fun _ => (does_index_sub rfl ts81 ti4 rfl rfl hw hwn)) ?_)
      all_goals refine ex_eff0 rfl (runs_none rfl) (does_store rfl ti4 rfl rfl rfl hel2 rfl rfl (by decide) (by decide)) (fun _ h => set_other h) ?_
      all_goals (first | refine ex_free rfl rfl (runs_none rfl) (fun _ => (does_index_sl rfl ts27 ti56 rfl rfl hw hwn rfl)) ?_ | refine ex_free rfl rfl (runs_none rfl) (fun _ => (does_index_own rfl ts27 ti56 rfl rfl hw hwn)) ?_ | refine ex_free rfl rfl (runs_none rfl) (fun _ => (does_index_sub rfl ts27 ti56 rfl rfl hw hwn)) ?_)
      all_goals refine ex_eff0 rfl (runs_none rfl) (does_store rfl ti56 rfl rfl rfl hbyw rfl rfl (by decide) (by decide)) (fun _ h => set_other h) ?_
      all_goals refine ex_nil (by kernel_rfl) ?_
      all_goals (repeat (first | refine aw_seq ?_ | refine ath_n ?_ | refine aw_skip ?_ | refine abl_n ?_ | refine aw_block ?_))
      refine aw_region ?_
      first | refine ops_op rfl rfl (runs_none rfl) (mv_own (.inl rfl) rfl) ?_ | refine ops_op rfl rfl (runs_none rfl) (mv_sl (.inl rfl) rfl) ?_ | refine ops_op rfl rfl (runs_none rfl) (mv_s (.inl rfl) rfl) ?_ | refine ops_op rfl rfl (runs_none rfl) (mv_emp (.inl rfl) rfl) ?_ | refine ops_op rfl rfl (runs_none rfl) (mv_sub (.inl rfl) rfl) ?_
      first | refine ops_op rfl rfl (runs_none rfl) (does_fieldAddr_ptr rfl tf56_1 (by decide) rfl) ?_ | refine ops_op rfl rfl (runs_none rfl) (does_fieldAddr_ref rfl tf56_1 (by decide) rfl) ?_
      first | refine ops_op rfl rfl (runs_none rfl) (does_load_ref rfl ta3 rfl) ?_ | refine ops_op rfl rfl (runs_none rfl) (does_load_ptr rfl ta3 rfl rfl rfl rfl rfl) ?_
      first | refine ops_op rfl rfl (runs_none rfl) (lit1_sF rfl ts25 ti3 rfl rfl rfl rfl) ?_ | refine ops_op rfl rfl (runs_none rfl) (lit1_slF rfl ts25 ti3 rfl rfl rfl rfl (by repeat' (first | exact Lo.s _ | exact Lo.emp | exact Lo.any | exact lo_nil | exact lo_nilE | refine lo_cons ?_ ?_ | refine lo_consE ?_ ?_ | refine lo_map ?_ | refine lo_mapE ?_ | refine Lo.cells ?_ | refine Lo.agg _ ?_ | refine Lo.ref _ ?_ | refine Lo.tup _ ?_ | refine Lo.fn _ _ ?_ | refine Lo.sl _ ?_ | intro _))) ?_ | refine ops_op rfl rfl (runs_none rfl) (does_litAF rfl ts25 ti3 rfl rfl (by decide) (by decide) rfl rfl rfl (by repeat' (first | exact Lo.s _ | exact Lo.emp | exact Lo.any | exact lo_nil | exact lo_nilE | refine lo_cons ?_ ?_ | refine lo_consE ?_ ?_ | refine lo_map ?_ | refine lo_mapE ?_ | refine Lo.cells ?_ | refine Lo.agg _ ?_ | refine Lo.ref _ ?_ | refine Lo.tup _ ?_ | refine Lo.fn _ _ ?_ | refine Lo.sl _ ?_ | intro _))) ?_
      refine ops_opR rfl rfl (runs_none rfl) (does_append_sub rfl ts25 ti3 rfl (by decide) rfl rfl hlm2 (by omega) rfl (by first | exact .own _ _ _ rfl rfl _ (by first | rfl | simp) | exact .emp | exact .nil | exact .sl _ (by first | simp; done | intro e he; simp at he; obtain ⟨_, _, rfl⟩ := he; rfl)) (by first | omega | (simp; omega) | (unfold maxLen; simp; omega)) (by first | omega | (simp; omega) | (unfold maxLen; simp; omega))) (fun _ _ hR => ?_)
      obtain ⟨q2, cs2, hq2, rfl, rfl⟩ := hR
      first | refine ops_op rfl rfl (runs_none rfl) (mv_own (.inr rfl) rfl) ?_ | refine ops_op rfl rfl (runs_none rfl) (mv_sl (.inr rfl) rfl) ?_ | refine ops_op rfl rfl (runs_none rfl) (mv_s (.inr rfl) rfl) ?_ | refine ops_op rfl rfl (runs_none rfl) (mv_emp (.inr rfl) rfl) ?_ | refine ops_op rfl rfl (runs_none rfl) (mv_sub (.inr rfl) rfl) ?_
      refine ops_nil ?_
      repeat (first | refine aw_seq ?_ | refine ath_n ?_ | refine aw_skip ?_ | refine abl_n ?_ | refine aw_block ?_)
      rcases hq2 with ⟨rfl, rfl⟩ | ⟨rfl, rfl⟩
      all_goals (refine aw_region ?_)
      all_goals (refine ops_op rfl rfl (runs_none rfl) (does_add rfl rfl rfl (IntWalk.i64_in _ (by omega))) ?_)
      all_goals (refine ops_op rfl rfl (runs_none rfl) (mv_s (.inl rfl) rfl) ?_)
      all_goals (refine ops_nil ?_)
      all_goals (repeat (first | refine aw_seq ?_ | refine ath_n ?_ | refine aw_skip ?_ | refine abl_n ?_ | refine aw_block ?_))
      · exact ⟨(j + 1, (q.1 ++ [(w : Int)], q.2.set w (k : Int)), q2, cs ++ [(w : Int)]), ⟨hB2, hg2.2, hg2.1, hE, by show (cs ++ [(w : Int)]).drop q2 = (q.1 ++ [(w : Int)]).drop i; rw [List.drop_append_of_le_length (by omega), List.drop_append_of_le_length (by omega), hd], by show q2 + ((q.1 ++ [(w : Int)]).length - i) = (cs ++ [(w : Int)]).length; rw [hql, List.length_append]; simp; omega, by show j + 1 ≤ X.length; omega⟩, by show X.length - (j + 1) < X.length - j; omega, wk_st [0, 1, 4] (by decide) ⟨⟨_, rfl, .rowE (rowB_lo _) hmet.symm⟩, ⟨_, rfl, .rowE (mvs_lo _) hby.symm⟩, ⟨_, rfl, .rowE (rowI_lo _) (by rw [List.map_append, ← hw]; rfl)⟩, trivial⟩ ⟨.lo _ (by repeat' (first | exact Lo.s _ | exact Lo.emp | exact Lo.any | exact lo_nil | exact lo_nilE | refine lo_cons ?_ ?_ | refine lo_consE ?_ ?_ | refine lo_map ?_ | refine lo_mapE ?_ | refine Lo.cells ?_ | refine Lo.agg _ ?_ | refine Lo.ref _ ?_ | refine Lo.tup _ ?_ | refine Lo.fn _ _ ?_ | refine Lo.sl _ ?_ | intro _)), .lo _ hls, .lo _ (lo_MvL _), .own 0 0 1 _ _ rfl rfl, .own 1 1 3 _ _ rfl rfl, .sub 4 2 1 _ _ _ _ rfl rfl hql.symm, .lo _ (lo_Mvs _), .lo _ (by repeat' (first | exact Lo.s _ | exact Lo.emp | exact Lo.any | exact lo_nil | exact lo_nilE | refine lo_cons ?_ ?_ | refine lo_consE ?_ ?_ | refine lo_map ?_ | refine lo_mapE ?_ | refine Lo.cells ?_ | refine Lo.agg _ ?_ | refine Lo.ref _ ?_ | refine Lo.tup _ ?_ | refine Lo.fn _ _ ?_ | refine Lo.sl _ ?_ | intro _)), .lo _ (by repeat' (first | exact Lo.s _ | exact Lo.emp | exact Lo.any | exact lo_nil | exact lo_nilE | refine lo_cons ?_ ?_ | refine lo_consE ?_ ?_ | refine lo_map ?_ | refine lo_mapE ?_ | refine Lo.cells ?_ | refine Lo.agg _ ?_ | refine Lo.ref _ ?_ | refine Lo.tup _ ?_ | refine Lo.fn _ _ ?_ | refine Lo.sl _ ?_ | intro _)), trivial⟩⟩
      · exact ⟨(j + 1, (q.1 ++ [(w : Int)], q.2.set w (k : Int)), 0, cs.drop o ++ [(w : Int)]), ⟨hB2, hg2.2, hg2.1, hE, by show (cs.drop o ++ [(w : Int)]).drop 0 = (q.1 ++ [(w : Int)]).drop i; rw [List.drop_zero, List.drop_append_of_le_length (by omega), hd], by show 0 + ((q.1 ++ [(w : Int)]).length - i) = (cs.drop o ++ [(w : Int)]).length; rw [hql, hd]; simp, by show j + 1 ≤ X.length; omega⟩, by show X.length - (j + 1) < X.length - j; omega, wk_st [0, 1, 4] (by decide) ⟨⟨_, rfl, .rowE (rowB_lo _) hmet.symm⟩, ⟨_, rfl, .rowE (mvs_lo _) hby.symm⟩, ⟨_, rfl, .rowE (rowI_lo _) (by rw [List.map_append, List.map_drop, ← hw]; rfl)⟩, trivial⟩ ⟨.lo _ (by repeat' (first | exact Lo.s _ | exact Lo.emp | exact Lo.any | exact lo_nil | exact lo_nilE | refine lo_cons ?_ ?_ | refine lo_consE ?_ ?_ | refine lo_map ?_ | refine lo_mapE ?_ | refine Lo.cells ?_ | refine Lo.agg _ ?_ | refine Lo.ref _ ?_ | refine Lo.tup _ ?_ | refine Lo.fn _ _ ?_ | refine Lo.sl _ ?_ | intro _)), .lo _ hls, .lo _ (lo_MvL _), .own 0 0 1 _ _ rfl rfl, .own 1 1 3 _ _ rfl rfl, .sub 4 2 1 _ _ _ _ rfl rfl hql.symm, .lo _ (lo_Mvs _), .lo _ (by repeat' (first | exact Lo.s _ | exact Lo.emp | exact Lo.any | exact lo_nil | exact lo_nilE | refine lo_cons ?_ ?_ | refine lo_consE ?_ ?_ | refine lo_map ?_ | refine lo_mapE ?_ | refine Lo.cells ?_ | refine Lo.agg _ ?_ | refine Lo.ref _ ?_ | refine Lo.tup _ ?_ | refine Lo.fn _ _ ?_ | refine Lo.sl _ ?_ | intro _)), .lo _ (by repeat' (first | exact Lo.s _ | exact Lo.emp | exact Lo.any | exact lo_nil | exact lo_nilE | refine lo_cons ?_ ?_ | refine lo_consE ?_ ?_ | refine lo_map ?_ | refine lo_mapE ?_ | refine Lo.cells ?_ | refine Lo.agg _ ?_ | refine Lo.ref _ ?_ | refine Lo.tup _ ?_ | refine Lo.fn _ _ ?_ | refine Lo.sl _ ?_ | intro _)), trivial⟩⟩
  all_goals
    have hb := of_decide_eq_true hb
    have hext := (hB.bfs (fun k hk => ⟨(hmr k hk).2.2.1, (hmr k hk).2.2.2⟩) (n - i) i).2
    rw [hE] at hext
    have hni : ¬ ((tn : Int) ≠ 0 ∧ gti W.2 tn < 0) := by
      rintro ⟨g1, g2⟩
      rcases hb with hb | hb
      · omega
      · rw [hext.2 tn hb] at g2; omega
    rw [if_neg hni] at HI
    obtain ⟨p0, hp0, hpe⟩ := hB.met (tg := (tn : Int)) (by omega) (by omega) (by rw [Int.toNat_natCast]; omega)
    have hbk := hB.backP hext n n p0 hp0 (by omega) (by omega)
    rw [hpe] at hbk
    rw [hbk] at HI
    have hbpl := backP_len s.mv q.2 n (tn : Int)
    (refine aw_exit ?_; repeat (first | refine ath_x ?_ | refine abl_hit ?_ | refine abl_miss rfl ?_ | refine abl_n ?_ | refine ath_n ?_ | refine aw_seq ?_ | refine aw_skip ?_ | refine aw_block ?_))
    refine aw_region ?_
    first | refine ops_op rfl rfl (runs_none rfl) (mv_own (.inl rfl) rfl) ?_ | refine ops_op rfl rfl (runs_none rfl) (mv_sl (.inl rfl) rfl) ?_ | refine ops_op rfl rfl (runs_none rfl) (mv_s (.inl rfl) rfl) ?_ | refine ops_op rfl rfl (runs_none rfl) (mv_emp (.inl rfl) rfl) ?_ | refine ops_op rfl rfl (runs_none rfl) (mv_sub (.inl rfl) rfl) ?_
    refine ops_op rfl rfl (runs_none rfl) (mv_s (.inl rfl) rfl) ?_
    first | refine ops_op rfl rfl (runs_none rfl) (does_index_sl rfl ts81 ti4 rfl rfl rfl htn rfl) ?_ | refine ops_op rfl rfl (runs_none rfl) (does_index_own rfl ts81 ti4 rfl rfl rfl htn) ?_ | refine ops_op rfl rfl (runs_none rfl) (does_index_sub rfl ts81 ti4 rfl rfl rfl htn) ?_
    first | refine ops_op rfl rfl (runs_none rfl) (does_load_ref rfl ta4 rfl) ?_ | refine ops_op rfl rfl (runs_none rfl) (does_load_ptr rfl ta4 rfl rfl rfl hel rfl) ?_
    first | refine ops_op rfl rfl (runs_none rfl) (does_notp rfl rfl) ?_ | refine ops_op rfl rfl (runs_none rfl) (does_not rfl rfl) ?_
    refine ops_nil ?_
    repeat (first | refine aw_seq ?_ | refine ath_n ?_ | refine aw_skip ?_ | refine abl_n ?_ | refine aw_block ?_)
    refine aw_false rfl ?_
    repeat (first | refine aw_seq ?_ | refine ath_n ?_ | refine aw_skip ?_ | refine abl_n ?_ | refine aw_block ?_)
    refine aw_region ?_
    first | refine ops_op rfl rfl (runs_none rfl) (mv_own (.inr rfl) rfl) ?_ | refine ops_op rfl rfl (runs_none rfl) (mv_sl (.inr rfl) rfl) ?_ | refine ops_op rfl rfl (runs_none rfl) (mv_s (.inr rfl) rfl) ?_ | refine ops_op rfl rfl (runs_none rfl) (mv_emp (.inr rfl) rfl) ?_ | refine ops_op rfl rfl (runs_none rfl) (mv_sub (.inr rfl) rfl) ?_
    refine ops_nil ?_
    repeat (first | refine aw_seq ?_ | refine ath_n ?_ | refine aw_skip ?_ | refine abl_n ?_ | refine aw_block ?_)
    refine aw_weak (wk_own (d := 14) 1 rfl (.inr rfl)) ?_
    refine aw_loops (S := Int × List Int × Nat × Nat) (fun p => [(1, eI p.1), (10, .own 0 3 n), (14, .own 1 1 p.2.1.length)]) (fun p => [.row 3 ((byL s.mv q.2).map eMv), .row 1 (p.2.1.map eI)]) (fun p => p.2.2.1 < q.1.length ∧ gti q.1 p.2.2.1 = p.1 ∧ p.2.1 ++ Go.Proofs.Ythdpacbjbdkemaa.backP s.mv q.2 p.2.2.2 p.1 = Go.Proofs.Ythdpacbjbdkemaa.backP s.mv q.2 n tn ∧ p.2.2.1 < p.2.2.2 ∧ p.2.1.length + p.2.2.2 ≤ n) (fun p => p.2.2.1) ((tn : Int), [], p0, n)
      (wk_st [1, 3] (by decide) ⟨⟨_, rfl, .rowE (mvs_lo _) rfl⟩, ⟨_, rfl, .rowE (by simp) rfl⟩, trivial⟩ ⟨.lo _ (by repeat' (first | exact Lo.s _ | exact Lo.emp | exact Lo.any | exact lo_nil | exact lo_nilE | refine lo_cons ?_ ?_ | refine lo_consE ?_ ?_ | refine lo_map ?_ | refine lo_mapE ?_ | refine Lo.cells ?_ | refine Lo.agg _ ?_ | refine Lo.ref _ ?_ | refine Lo.tup _ ?_ | refine Lo.fn _ _ ?_ | refine Lo.sl _ ?_ | intro _)), .own 1 0 3 _ _ rfl rfl, .own 3 1 1 _ _ rfl rfl, trivial⟩) ⟨hp0, hpe, rfl, by show p0 < n; omega, by simp⟩ (fun p hp => ?_)
    obtain ⟨t, back, p, f⟩ := p
    obtain ⟨g1, g2, g3, g4, g5⟩ := hp
    replace g1 : p < q.1.length := g1
    replace g2 : gti q.1 p = t := g2
    replace g3 : back ++ Go.Proofs.Ythdpacbjbdkemaa.backP s.mv q.2 f t = Go.Proofs.Ythdpacbjbdkemaa.backP s.mv q.2 n tn := g3
    replace g4 : p < f := g4
    replace g5 : back.length + f ≤ n := g5
    have hbm : (back.map eI).length = back.length := by simp
    obtain ⟨f, rfl⟩ : ∃ f', f = f' + 1 := ⟨f - 1, by omega⟩
    rw [show Go.Proofs.Ythdpacbjbdkemaa.backP s.mv q.2 (f + 1) t = if t = 0 then [] else (gti s.mv (gti q.2 t.toNat).toNat).sym :: Go.Proofs.Ythdpacbjbdkemaa.backP s.mv q.2 f (gti s.mv (gti q.2 t.toNat).toNat).fr from rfl] at g3
    repeat (first | refine aw_seq ?_ | refine ath_n ?_ | refine aw_skip ?_ | refine abl_n ?_ | refine aw_block ?_)
    all_goals refine aw_region ?_
    all_goals refine ops_op rfl rfl (runs_none rfl) (mv_s (.inl rfl) rfl) ?_
    all_goals (first | refine ops_opP rfl rfl (runs_none rfl) (does_neq rfl rfl rfl) (fun h112 => ?_) (fun h112 => ?_) | refine ops_opB rfl rfl (runs_none rfl) (does_neq rfl rfl rfl) (fun h112 => ?_) (fun h112 => ?_))
    all_goals refine ops_nil ?_
    all_goals (repeat (first | refine aw_seq ?_ | refine ath_n ?_ | refine aw_skip ?_ | refine abl_n ?_ | refine aw_block ?_))
    all_goals (first | refine aw_true rfl ?_ | refine aw_false rfl ?_)
    all_goals (repeat (first | refine aw_seq ?_ | refine ath_n ?_ | refine aw_skip ?_ | refine abl_n ?_ | refine aw_block ?_))
    · obtain ⟨k, k1, k2, p', k3, k4⟩ := hB.back g1 (by rw [g2]; exact h112)
      rw [g2] at k2
      have htr := hB.at_ g1
      rw [g2] at htr
      rw [if_neg h112, k2, Int.toNat_natCast] at g3
      obtain ⟨v, hv⟩ : ∃ v : Nat, t = (v : Int) := ⟨t.toNat, by omega⟩
      have hvn : v < n := by omega
      have hby : ((byL s.mv q.2).map eMv)[v]? = some (eMv (gti s.mv k)) := by
        rw [List.getElem?_map, byL_get (by omega)]
        rw [hv, Int.toNat_natCast] at k2
        rw [k2, if_pos (by omega), Int.toNat_natCast]; rfl
      refine aw_region ?_
      first | refine ops_op rfl rfl (runs_none rfl) (mv_own (.inl rfl) rfl) ?_ | refine ops_op rfl rfl (runs_none rfl) (mv_sl (.inl rfl) rfl) ?_ | refine ops_op rfl rfl (runs_none rfl) (mv_s (.inl rfl) rfl) ?_ | refine ops_op rfl rfl (runs_none rfl) (mv_emp (.inl rfl) rfl) ?_ | refine ops_op rfl rfl (runs_none rfl) (mv_sub (.inl rfl) rfl) ?_
      first | refine ops_op rfl rfl (runs_none rfl) (mv_own (.inl rfl) rfl) ?_ | refine ops_op rfl rfl (runs_none rfl) (mv_sl (.inl rfl) rfl) ?_ | refine ops_op rfl rfl (runs_none rfl) (mv_s (.inl rfl) rfl) ?_ | refine ops_op rfl rfl (runs_none rfl) (mv_emp (.inl rfl) rfl) ?_ | refine ops_op rfl rfl (runs_none rfl) (mv_sub (.inl rfl) rfl) ?_
      refine ops_op rfl rfl (runs_none rfl) (mv_s (.inl rfl) rfl) ?_
      first | refine ops_op rfl rfl (runs_none rfl) (does_index_sl rfl ts27 ti56 rfl rfl hv hvn rfl) ?_ | refine ops_op rfl rfl (runs_none rfl) (does_index_own rfl ts27 ti56 rfl rfl hv hvn) ?_ | refine ops_op rfl rfl (runs_none rfl) (does_index_sub rfl ts27 ti56 rfl rfl hv hvn) ?_
      first | refine ops_op rfl rfl (runs_none rfl) (does_fieldAddr_ptr rfl tf56_2 (by decide) rfl) ?_ | refine ops_op rfl rfl (runs_none rfl) (does_fieldAddr_ref rfl tf56_2 (by decide) rfl) ?_
      first | refine ops_op rfl rfl (runs_none rfl) (does_load_ref rfl ta3 rfl) ?_ | refine ops_op rfl rfl (runs_none rfl) (does_load_ptr rfl ta3 rfl rfl rfl hby rfl) ?_
      first | refine ops_op rfl rfl (runs_none rfl) (lit1_sF rfl ts25 ti3 rfl rfl rfl rfl) ?_ | refine ops_op rfl rfl (runs_none rfl) (lit1_slF rfl ts25 ti3 rfl rfl rfl rfl (by repeat' (first | exact Lo.s _ | exact Lo.emp | exact Lo.any | exact lo_nil | exact lo_nilE | refine lo_cons ?_ ?_ | refine lo_consE ?_ ?_ | refine lo_map ?_ | refine lo_mapE ?_ | refine Lo.cells ?_ | refine Lo.agg _ ?_ | refine Lo.ref _ ?_ | refine Lo.tup _ ?_ | refine Lo.fn _ _ ?_ | refine Lo.sl _ ?_ | intro _))) ?_ | refine ops_op rfl rfl (runs_none rfl) (does_litAF rfl ts25 ti3 rfl rfl (by decide) (by decide) rfl rfl rfl (by repeat' (first | exact Lo.s _ | exact Lo.emp | exact Lo.any | exact lo_nil | exact lo_nilE | refine lo_cons ?_ ?_ | refine lo_consE ?_ ?_ | refine lo_map ?_ | refine lo_mapE ?_ | refine Lo.cells ?_ | refine Lo.agg _ ?_ | refine Lo.ref _ ?_ | refine Lo.tup _ ?_ | refine Lo.fn _ _ ?_ | refine Lo.sl _ ?_ | intro _))) ?_
      first | refine ops_op rfl rfl (runs_none rfl) (does_append rfl ts25 ti3 rfl (by decide) rfl rfl (by first | rfl | (simp; done) | (simp; omega)) rfl (by first | exact .own _ _ _ rfl rfl _ (by first | rfl | simp) | exact .emp | exact .nil | exact .sl _ (by first | simp; done | intro e he; simp at he; obtain ⟨_, _, rfl⟩ := he; rfl)) (by first | omega | (simp; omega) | (unfold maxLen; simp; omega)) (by first | omega | (simp; omega) | (unfold maxLen; simp; omega))) ?_ | refine ops_op rfl rfl (runs_none rfl) (does_append0 rfl ts25 ti3 rfl (by decide) rfl (.inl rfl) rfl (by first | exact .own _ _ _ rfl rfl _ (by first | rfl | simp) | exact .emp | exact .nil | exact .sl _ (by first | simp; done | intro e he; simp at he; obtain ⟨_, _, rfl⟩ := he; rfl)) (by first | omega | (simp; omega) | (unfold maxLen; simp; omega)) (by first | omega | (simp; omega) | (unfold maxLen; simp; omega))) ?_ | refine ops_op rfl rfl (runs_none rfl) (does_append0 rfl ts25 ti3 rfl (by decide) rfl (.inr rfl) rfl (by first | exact .own _ _ _ rfl rfl _ (by first | rfl | simp) | exact .emp | exact .nil | exact .sl _ (by first | simp; done | intro e he; simp at he; obtain ⟨_, _, rfl⟩ := he; rfl)) (by first | omega | (simp; omega) | (unfold maxLen; simp; omega)) (by first | omega | (simp; omega) | (unfold maxLen; simp; omega))) ?_
      first | refine ops_op rfl rfl (runs_none rfl) (mv_own (.inr rfl) rfl) ?_ | refine ops_op rfl rfl (runs_none rfl) (mv_sl (.inr rfl) rfl) ?_ | refine ops_op rfl rfl (runs_none rfl) (mv_s (.inr rfl) rfl) ?_ | refine ops_op rfl rfl (runs_none rfl) (mv_emp (.inr rfl) rfl) ?_ | refine ops_op rfl rfl (runs_none rfl) (mv_sub (.inr rfl) rfl) ?_
      refine ops_nil ?_
      repeat (first | refine aw_seq ?_ | refine ath_n ?_ | refine aw_skip ?_ | refine abl_n ?_ | refine aw_block ?_)
      refine aw_region ?_
      first | refine ops_op rfl rfl (runs_none rfl) (mv_own (.inl rfl) rfl) ?_ | refine ops_op rfl rfl (runs_none rfl) (mv_sl (.inl rfl) rfl) ?_ | refine ops_op rfl rfl (runs_none rfl) (mv_s (.inl rfl) rfl) ?_ | refine ops_op rfl rfl (runs_none rfl) (mv_emp (.inl rfl) rfl) ?_ | refine ops_op rfl rfl (runs_none rfl) (mv_sub (.inl rfl) rfl) ?_
      refine ops_op rfl rfl (runs_none rfl) (mv_s (.inl rfl) rfl) ?_
      first | refine ops_op rfl rfl (runs_none rfl) (does_index_sl rfl ts27 ti56 rfl rfl hv hvn rfl) ?_ | refine ops_op rfl rfl (runs_none rfl) (does_index_own rfl ts27 ti56 rfl rfl hv hvn) ?_ | refine ops_op rfl rfl (runs_none rfl) (does_index_sub rfl ts27 ti56 rfl rfl hv hvn) ?_
      first | refine ops_op rfl rfl (runs_none rfl) (does_fieldAddr_ptr rfl tf56_0 (by decide) rfl) ?_ | refine ops_op rfl rfl (runs_none rfl) (does_fieldAddr_ref rfl tf56_0 (by decide) rfl) ?_
      first | refine ops_op rfl rfl (runs_none rfl) (does_load_ref rfl ta3 rfl) ?_ | refine ops_op rfl rfl (runs_none rfl) (does_load_ptr rfl ta3 rfl rfl rfl hby rfl) ?_
      refine ops_op rfl rfl (runs_none rfl) (mv_s (.inr rfl) rfl) ?_
      refine ops_nil ?_
      repeat (first | refine aw_seq ?_ | refine ath_n ?_ | refine aw_skip ?_ | refine abl_n ?_ | refine aw_block ?_)
      exact ⟨((gti s.mv k).fr, back ++ [(gti s.mv k).sym], p', f), ⟨by show p' < q.1.length; omega, k4, by simpa using g3, by show p' < f; omega, by simp; omega⟩, k3, wk_st [0, 2] (by decide) ⟨⟨_, rfl, .rowE (mvs_lo _) rfl⟩, ⟨_, rfl, .rowE (rowI_lo _) (by rw [List.map_append]; rfl)⟩, trivial⟩ ⟨.lo _ (by repeat' (first | exact Lo.s _ | exact Lo.emp | exact Lo.any | exact lo_nil | exact lo_nilE | refine lo_cons ?_ ?_ | refine lo_consE ?_ ?_ | refine lo_map ?_ | refine lo_mapE ?_ | refine Lo.cells ?_ | refine Lo.agg _ ?_ | refine Lo.ref _ ?_ | refine Lo.tup _ ?_ | refine Lo.fn _ _ ?_ | refine Lo.sl _ ?_ | intro _)), .own 0 0 3 _ _ rfl rfl, .own 2 1 1 _ _ rfl (by simp), trivial⟩⟩
    · rw [if_pos (by omega), List.append_nil] at g3
      rw [← g3] at HI
      (refine aw_exit ?_; repeat (first | refine ath_x ?_ | refine abl_hit ?_ | refine abl_miss rfl ?_ | refine abl_n ?_ | refine ath_n ?_ | refine aw_seq ?_ | refine aw_skip ?_ | refine aw_block ?_))
      refine aw_weak (F' := [(14, .own 0 1 back.length)]) (σ' := [.row 1 (back.map eI)]) (wk_st [1] (by decide) ⟨⟨_, rfl, .rowE (rowI_lo _) rfl⟩, trivial⟩ ⟨.own 1 0 1 _ _ rfl rfl, trivial⟩) ?_
      all_goals refine aw_region ?_
      all_goals (first | refine ops_op rfl rfl (runs_none rfl) (mv_own (.inl rfl) rfl) ?_ | refine ops_op rfl rfl (runs_none rfl) (mv_sl (.inl rfl) rfl) ?_ | refine ops_op rfl rfl (runs_none rfl) (mv_s (.inl rfl) rfl) ?_ | refine ops_op rfl rfl (runs_none rfl) (mv_emp (.inl rfl) rfl) ?_ | refine ops_op rfl rfl (runs_none rfl) (mv_sub (.inl rfl) rfl) ?_)
      all_goals refine ops_callR rfl rfl (runs_none rfl) rfl rfl (reverse_call back) rfl (by repeat (first | exact hF_nil | refine hF_cons (by first | exact .own _ _ _ (by decide) | exact .s _) ?_)) ?_
      all_goals refine ops_nil ?_
      all_goals (repeat (first | refine aw_seq ?_ | refine ath_n ?_ | refine aw_skip ?_ | refine abl_n ?_ | refine aw_block ?_))
      refine aw_region ?_
      first | refine ops_op rfl rfl (runs_none rfl) (mv_own (.inl rfl) rfl) ?_ | refine ops_op rfl rfl (runs_none rfl) (mv_sl (.inl rfl) rfl) ?_ | refine ops_op rfl rfl (runs_none rfl) (mv_s (.inl rfl) rfl) ?_ | refine ops_op rfl rfl (runs_none rfl) (mv_emp (.inl rfl) rfl) ?_ | refine ops_op rfl rfl (runs_none rfl) (mv_sub (.inl rfl) rfl) ?_
      first | refine ops_op rfl rfl (runs_none rfl) (mv_own (.inr rfl) rfl) ?_ | refine ops_op rfl rfl (runs_none rfl) (mv_sl (.inr rfl) rfl) ?_ | refine ops_op rfl rfl (runs_none rfl) (mv_s (.inr rfl) rfl) ?_ | refine ops_op rfl rfl (runs_none rfl) (mv_emp (.inr rfl) rfl) ?_ | refine ops_op rfl rfl (runs_none rfl) (mv_sub (.inr rfl) rfl) ?_
      refine ops_op rfl rfl (runs_none rfl) (mv_s (.inr rfl) rfl) ?_
      refine ops_nil ?_
      repeat (first | refine aw_seq ?_ | refine ath_n ?_ | refine aw_skip ?_ | refine abl_n ?_ | refine aw_block ?_)
      (refine aw_ret ?_; repeat (first | refine ath_r ?_ | refine abl_r ?_))
      exact post_le (N := 0) (.inr rfl) rfl rfl (.own _ _ _ _ _ rfl rfl (by simp)) HI
end Go.Proofs.Ythdpacbjbdkemaa.Aw
end
