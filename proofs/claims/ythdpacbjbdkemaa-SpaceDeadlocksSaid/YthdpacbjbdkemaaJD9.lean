/-
  Texts joined: SpG, SpH, EvL. Conditions: none.
-/
import Derived.Test.YthdpacbjbdkemaaJD8
import Derived.Test.YthdpacbjbdkemaaJD6
import Derived.Test.YthdpacbjbdkemaaJD5
section
namespace Go.Proofs.Ythdpacbjbdkemaa.Aw
set_option linter.unusedSimpArgs false
set_option linter.unusedVariables false
set_option linter.unusedSectionVars false
open Go Go.RowKit Go.Proofs
variable {P : Program} [IsP P]

instance : DecidableEq Mvx := fun a b => decidable_of_iff (a.fr = b.fr ∧ a.tt = b.tt ∧ a.sym = b.sym) ⟨fun h => by cases a; cases b; simp_all, fun h => by subst h; exact ⟨rfl, rfl, rfl⟩⟩
theorem cl_t {p : Prop} (h : @decide p (Classical.propDecidable p) = true) : p := @of_decide_eq_true p (Classical.propDecidable p) h
theorem cl_f {p : Prop} (h : @decide p (Classical.propDecidable p) = false) : ¬ p := @of_decide_eq_false p (Classical.propDecidable p) h
theorem mv_iff {a b : Mvx} : [Value.int .i64 a.fr, Value.int .i64 a.tt, Value.int .i64 a.sym] = [Value.int .i64 b.fr, Value.int .i64 b.tt, Value.int .i64 b.sym] ↔ a = b := by
  cases a; cases b; simp
theorem mv_neT {a b : Mvx} (h : @decide ([Value.int .i64 a.fr, Value.int .i64 a.tt, Value.int .i64 a.sym] ≠ [Value.int .i64 b.fr, Value.int .i64 b.tt, Value.int .i64 b.sym]) (Classical.propDecidable _) = true) : a ≠ b := fun g => cl_t h (mv_iff.2 g)
theorem mv_neF {a b : Mvx} (h : @decide ([Value.int .i64 a.fr, Value.int .i64 a.tt, Value.int .i64 a.sym] ≠ [Value.int .i64 b.fr, Value.int .i64 b.tt, Value.int .i64 b.sym]) (Classical.propDecidable _) = false) : a = b := mv_iff.1 (Classical.not_not.1 (cl_f h))
theorem ext_gti {α : Type} [Inhabited α] {a b : List α} (hl : a.length = b.length) (h : ∀ j, j < a.length → gti a j = gti b j) : a = b := by
  refine List.ext_getElem? fun j => ?_
  by_cases hj : j < a.length
  · rw [gti_get hj, gti_get (by omega), h j hj]
  · rw [List.getElem?_eq_none (by omega), List.getElem?_eq_none (by omega)]
theorem eqMv_pf (a b : List Mvx) : Pure P 39 [eL eMv a, eL eMv b] (eB (decide (a = b))) := by
  refine aw_fn (by rw [IsP.eq (P := P)]; exact Try.func39) rfl rfl rfl rfl rfl (lo_cons (lo_Mvs _) (lo_cons (lo_Mvs _) lo_nil)) (.s _) (by simp only [argF]; rfl) ?_
  refine aw_bdm (d := 0) rfl (fun hmx => ?_)
  unfold maxLen at hmx
  repeat (first | refine aw_seq ?_ | refine ath_n ?_ | refine aw_skip ?_ | refine abl_n ?_ | refine aw_block ?_)
  refine aw_region ?_
  refine ops_op rfl rfl (runs_none rfl) (mv_s (.inr rfl) rfl) ?_
  refine ops_nil ?_
  repeat (first | refine aw_seq ?_ | refine ath_n ?_ | refine aw_skip ?_ | refine abl_n ?_ | refine aw_block ?_)
  all_goals refine aw_region ?_
  all_goals (first | refine ops_op rfl rfl (runs_none rfl) (mv_own (.inl rfl) rfl) ?_ | refine ops_op rfl rfl (runs_none rfl) (mv_sl (.inl rfl) rfl) ?_ | refine ops_op rfl rfl (runs_none rfl) (mv_s (.inl rfl) rfl) ?_ | refine ops_op rfl rfl (runs_none rfl) (mv_emp (.inl rfl) rfl) ?_)
  all_goals (first | refine ops_op rfl rfl (runs_none rfl) (does_len_map rfl ts27 rfl) ?_ | refine ops_op rfl rfl (runs_none rfl) (does_len_sl rfl ts27 rfl) ?_ | refine ops_op rfl rfl (runs_none rfl) (does_len_own rfl ts27 rfl) ?_ | refine ops_op rfl rfl (runs_none rfl) (does_len_s rfl ts27 rfl) ?_ | refine ops_op rfl rfl (runs_none rfl) (does_len_emp rfl ts27 rfl) ?_)
  all_goals (first | refine ops_op rfl rfl (runs_none rfl) (mv_own (.inl rfl) rfl) ?_ | refine ops_op rfl rfl (runs_none rfl) (mv_sl (.inl rfl) rfl) ?_ | refine ops_op rfl rfl (runs_none rfl) (mv_s (.inl rfl) rfl) ?_ | refine ops_op rfl rfl (runs_none rfl) (mv_emp (.inl rfl) rfl) ?_)
  all_goals (first | refine ops_op rfl rfl (runs_none rfl) (does_len_map rfl ts27 rfl) ?_ | refine ops_op rfl rfl (runs_none rfl) (does_len_sl rfl ts27 rfl) ?_ | refine ops_op rfl rfl (runs_none rfl) (does_len_own rfl ts27 rfl) ?_ | refine ops_op rfl rfl (runs_none rfl) (does_len_s rfl ts27 rfl) ?_ | refine ops_op rfl rfl (runs_none rfl) (does_len_emp rfl ts27 rfl) ?_)
  all_goals (first | refine ops_opP rfl rfl (runs_none rfl) (does_neq rfl rfl rfl) (fun h10 => ?_) (fun h10 => ?_) | refine ops_opB rfl rfl (runs_none rfl) (does_neq rfl rfl rfl) (fun h10 => ?_) (fun h10 => ?_))
  all_goals refine ops_nil ?_
  all_goals (repeat (first | refine aw_seq ?_ | refine ath_n ?_ | refine aw_skip ?_ | refine abl_n ?_ | refine aw_block ?_))
  all_goals (first | refine aw_true rfl ?_ | refine aw_false rfl ?_)
  all_goals (repeat (first | refine aw_seq ?_ | refine ath_n ?_ | refine aw_skip ?_ | refine abl_n ?_ | refine aw_block ?_))
  · skip
    refine aw_region ?_
    refine ops_op rfl rfl (runs_none rfl) (mv_s (.inr rfl) rfl) ?_
    refine ops_nil ?_
    repeat (first | refine aw_seq ?_ | refine ath_n ?_ | refine aw_skip ?_ | refine abl_n ?_ | refine aw_block ?_)
    (refine aw_ret ?_; repeat (first | refine ath_r ?_ | refine abl_r ?_))
    exact post1 (.inr rfl) rfl (congrArg eB (decide_eq_false (fun e => by subst e; exact h10 rfl)).symm)
  have hl : a.length = b.length := by omega
  refine aw_region ?_
  first | refine ops_op rfl rfl (runs_none rfl) (mv_own (.inl rfl) rfl) ?_ | refine ops_op rfl rfl (runs_none rfl) (mv_sl (.inl rfl) rfl) ?_ | refine ops_op rfl rfl (runs_none rfl) (mv_s (.inl rfl) rfl) ?_ | refine ops_op rfl rfl (runs_none rfl) (mv_emp (.inl rfl) rfl) ?_
  first | refine ops_op rfl rfl (runs_none rfl) (does_len_map rfl ts27 rfl) ?_ | refine ops_op rfl rfl (runs_none rfl) (does_len_sl rfl ts27 rfl) ?_ | refine ops_op rfl rfl (runs_none rfl) (does_len_own rfl ts27 rfl) ?_ | refine ops_op rfl rfl (runs_none rfl) (does_len_s rfl ts27 rfl) ?_ | refine ops_op rfl rfl (runs_none rfl) (does_len_emp rfl ts27 rfl) ?_
  refine ops_op rfl rfl (runs_none rfl) (mv_s (.inl rfl) rfl) ?_
  refine ops_nil ?_
  repeat (first | refine aw_seq ?_ | refine ath_n ?_ | refine aw_skip ?_ | refine abl_n ?_ | refine aw_block ?_)
  refine aw_loops (S := Nat) (fun k => [(0, eL eMv a), (1, eL eMv b), (12, eI a.length), (13, eI k)]) (fun _ => []) (fun k => k ≤ a.length ∧ ∀ j, j < k → gti a j = gti b j) (fun k => a.length - k) 0 (wk_sub _ ⟨rfl, rfl, rfl, rfl, trivial⟩) ⟨Nat.zero_le _, fun j hj => by omega⟩ (fun k hk => ?_)
  obtain ⟨hk, hall⟩ := hk
  repeat (first | refine aw_seq ?_ | refine ath_n ?_ | refine aw_skip ?_ | refine abl_n ?_ | refine aw_block ?_)
  all_goals refine aw_region ?_
  all_goals (first | refine ops_opP rfl rfl (runs_none rfl) (does_lss rfl rfl rfl) (fun h14 => ?_) (fun h14 => ?_) | refine ops_opB rfl rfl (runs_none rfl) (does_lss rfl rfl rfl) (fun h14 => ?_) (fun h14 => ?_))
  all_goals refine ops_nil ?_
  all_goals (repeat (first | refine aw_seq ?_ | refine ath_n ?_ | refine aw_skip ?_ | refine abl_n ?_ | refine aw_block ?_))
  all_goals (first | refine aw_true rfl ?_ | refine aw_false rfl ?_)
  all_goals (repeat (first | refine aw_seq ?_ | refine ath_n ?_ | refine aw_skip ?_ | refine abl_n ?_ | refine aw_block ?_))
  · have hlt : k < a.length := by omega
    have hixa : (a.map eMv)[k]? = some (eMv (gti a k)) := ix_map hlt
    have hixb : (b.map eMv)[k]? = some (eMv (gti b k)) := ix_map (by omega)
    refine aw_region ?_
    refine ops_op rfl rfl (runs_none rfl) (mv_s (.inl rfl) rfl) ?_
    refine ops_op rfl rfl (runs_none rfl) (mv_s (.inr rfl) rfl) ?_
    refine ops_nil ?_
    repeat (first | refine aw_seq ?_ | refine ath_n ?_ | refine aw_skip ?_ | refine abl_n ?_ | refine aw_block ?_)
    all_goals refine aw_draw hmix ?_
    all_goals refine adraw_quiet (by kernel_rfl) ?_
    all_goals (first | refine qx_op rfl rfl (runs_none rfl) (mv_own (.inl rfl) rfl) ?_ | refine qx_op rfl rfl (runs_none rfl) (mv_sl (.inl rfl) rfl) ?_ | refine qx_op rfl rfl (runs_none rfl) (mv_s (.inl rfl) rfl) ?_ | refine qx_op rfl rfl (runs_none rfl) (mv_emp (.inl rfl) rfl) ?_)
    all_goals refine qx_op rfl rfl (runs_none rfl) (mv_s (.inl rfl) rfl) ?_
    all_goals (first | refine qx_op rfl rfl (runs_none rfl) (does_index_sl rfl ts27 ti56 rfl rfl rfl hixa rfl) ?_ | refine qx_op rfl rfl (runs_none rfl) (does_index_own rfl ts27 ti56 rfl rfl rfl hixa) ?_)
    all_goals (first | refine qx_op rfl rfl (runs_none rfl) (does_load_refw rfl ta56 ti56 rfl rfl) ?_ | refine qx_op rfl rfl (runs_none rfl) (does_load_whole rfl ta56 ti56 rfl rfl rfl rfl rfl) ?_ | refine qx_op rfl rfl (runs_none rfl) (does_load_refs rfl ta56 ti56 rfl (Nat.le_of_ble_eq_true rfl)) ?_ | refine qx_op rfl rfl (runs_none rfl) (does_load_ptrs rfl ta56 ti56 rfl rfl rfl rfl (Nat.le_of_ble_eq_true rfl)) ?_)
    all_goals (first | refine qx_op rfl rfl (runs_none rfl) (mv_own (.inl rfl) rfl) ?_ | refine qx_op rfl rfl (runs_none rfl) (mv_sl (.inl rfl) rfl) ?_ | refine qx_op rfl rfl (runs_none rfl) (mv_s (.inl rfl) rfl) ?_ | refine qx_op rfl rfl (runs_none rfl) (mv_emp (.inl rfl) rfl) ?_)
    all_goals refine qx_op rfl rfl (runs_none rfl) (mv_s (.inl rfl) rfl) ?_
    all_goals (first | refine qx_op rfl rfl (runs_none rfl) (does_index_sl rfl ts27 ti56 rfl rfl rfl hixb rfl) ?_ | refine qx_op rfl rfl (runs_none rfl) (does_index_own rfl ts27 ti56 rfl rfl rfl hixb) ?_)
    all_goals (first | refine qx_op rfl rfl (runs_none rfl) (does_load_refw rfl ta56 ti56 rfl rfl) ?_ | refine qx_op rfl rfl (runs_none rfl) (does_load_whole rfl ta56 ti56 rfl rfl rfl rfl rfl) ?_ | refine qx_op rfl rfl (runs_none rfl) (does_load_refs rfl ta56 ti56 rfl (Nat.le_of_ble_eq_true rfl)) ?_ | refine qx_op rfl rfl (runs_none rfl) (does_load_ptrs rfl ta56 ti56 rfl rfl rfl rfl (Nat.le_of_ble_eq_true rfl)) ?_)
    all_goals (first | refine qx_opP rfl rfl (runs_none rfl) (does_nea rfl rfl rfl te56 rfl rfl rfl) (fun h24 => ?_) (fun h24 => ?_) | refine qx_opB rfl rfl (runs_none rfl) (does_nea rfl rfl rfl te56 rfl rfl rfl) (fun h24 => ?_) (fun h24 => ?_))
    all_goals refine qx_nil ?_
    all_goals (repeat (first | refine aw_seq ?_ | refine ath_n ?_ | refine aw_skip ?_ | refine abl_n ?_ | refine aw_block ?_))
    all_goals (first | refine aw_true rfl ?_ | refine aw_false rfl ?_)
    all_goals (repeat (first | refine aw_seq ?_ | refine ath_n ?_ | refine aw_skip ?_ | refine abl_n ?_ | refine aw_block ?_))
    · skip
      refine aw_region ?_
      refine ops_op rfl rfl (runs_none rfl) (mv_s (.inr rfl) rfl) ?_
      refine ops_nil ?_
      repeat (first | refine aw_seq ?_ | refine ath_n ?_ | refine aw_skip ?_ | refine abl_n ?_ | refine aw_block ?_)
      (refine aw_ret ?_; repeat (first | refine ath_r ?_ | refine abl_r ?_))
      exact post1 (.inr rfl) rfl (congrArg eB (decide_eq_false (fun e => by subst e; exact mv_neT h24 rfl)).symm)
    · skip
      refine aw_region ?_
      refine ops_op rfl rfl (runs_none rfl) (does_add rfl rfl rfl (IntWalk.i64_in _ (by omega))) ?_
      refine ops_op rfl rfl (runs_none rfl) (mv_s (.inl rfl) rfl) ?_
      refine ops_nil ?_
      repeat (first | refine aw_seq ?_ | refine ath_n ?_ | refine aw_skip ?_ | refine abl_n ?_ | refine aw_block ?_)
      refine ⟨k + 1, ⟨by omega, fun j hj => ?_⟩, by omega, wk_sub _ ⟨rfl, rfl, rfl, rfl, trivial⟩⟩
      by_cases e : j = k
      · subst e; exact mv_neF h24
      · exact hall j (by omega)
  · have e : k = a.length := by omega
    subst e
    (refine aw_exit ?_; repeat (first | refine ath_x ?_ | refine abl_hit ?_ | refine abl_miss rfl ?_ | refine abl_n ?_ | refine ath_n ?_ | refine aw_seq ?_ | refine aw_skip ?_ | refine aw_block ?_))
    refine aw_region ?_
    refine ops_op rfl rfl (runs_none rfl) (mv_s (.inr rfl) rfl) ?_
    refine ops_nil ?_
    repeat (first | refine aw_seq ?_ | refine ath_n ?_ | refine aw_skip ?_ | refine abl_n ?_ | refine aw_block ?_)
    (refine aw_ret ?_; repeat (first | refine ath_r ?_ | refine abl_r ?_))
    exact post1 (.inr rfl) rfl (congrArg eB (decide_eq_true (ext_gti hl hall)).symm)
theorem eqII_pf (a b : List (List Int)) : Pure P 40 [eL (eL eI) a, eL (eL eI) b, .fn 17 []] (eB (decide (a = b))) := by
  refine aw_fn (by rw [IsP.eq (P := P)]; exact Try.func40) rfl rfl rfl rfl rfl (lo_cons (lo_II _) (lo_cons (lo_II _) (lo_cons (.fn _ _ (by simp)) lo_nil))) (.s _) (by simp only [argF]; rfl) ?_
  refine aw_bdm (d := 0) rfl (fun hmx => ?_)
  unfold maxLen at hmx
  repeat (first | refine aw_seq ?_ | refine ath_n ?_ | refine aw_skip ?_ | refine abl_n ?_ | refine aw_block ?_)
  refine aw_region ?_
  refine ops_op rfl rfl (runs_none rfl) (mv_s (.inr rfl) rfl) ?_
  refine ops_nil ?_
  repeat (first | refine aw_seq ?_ | refine ath_n ?_ | refine aw_skip ?_ | refine abl_n ?_ | refine aw_block ?_)
  all_goals refine aw_region ?_
  all_goals (first | refine ops_op rfl rfl (runs_none rfl) (mv_own (.inl rfl) rfl) ?_ | refine ops_op rfl rfl (runs_none rfl) (mv_sl (.inl rfl) rfl) ?_ | refine ops_op rfl rfl (runs_none rfl) (mv_s (.inl rfl) rfl) ?_ | refine ops_op rfl rfl (runs_none rfl) (mv_emp (.inl rfl) rfl) ?_)
  all_goals (first | refine ops_op rfl rfl (runs_none rfl) (does_len_map rfl ts26 rfl) ?_ | refine ops_op rfl rfl (runs_none rfl) (does_len_sl rfl ts26 rfl) ?_ | refine ops_op rfl rfl (runs_none rfl) (does_len_own rfl ts26 rfl) ?_ | refine ops_op rfl rfl (runs_none rfl) (does_len_s rfl ts26 rfl) ?_ | refine ops_op rfl rfl (runs_none rfl) (does_len_emp rfl ts26 rfl) ?_)
  all_goals (first | refine ops_op rfl rfl (runs_none rfl) (mv_own (.inl rfl) rfl) ?_ | refine ops_op rfl rfl (runs_none rfl) (mv_sl (.inl rfl) rfl) ?_ | refine ops_op rfl rfl (runs_none rfl) (mv_s (.inl rfl) rfl) ?_ | refine ops_op rfl rfl (runs_none rfl) (mv_emp (.inl rfl) rfl) ?_)
  all_goals (first | refine ops_op rfl rfl (runs_none rfl) (does_len_map rfl ts26 rfl) ?_ | refine ops_op rfl rfl (runs_none rfl) (does_len_sl rfl ts26 rfl) ?_ | refine ops_op rfl rfl (runs_none rfl) (does_len_own rfl ts26 rfl) ?_ | refine ops_op rfl rfl (runs_none rfl) (does_len_s rfl ts26 rfl) ?_ | refine ops_op rfl rfl (runs_none rfl) (does_len_emp rfl ts26 rfl) ?_)
  all_goals (first | refine ops_opP rfl rfl (runs_none rfl) (does_neq rfl rfl rfl) (fun h14 => ?_) (fun h14 => ?_) | refine ops_opB rfl rfl (runs_none rfl) (does_neq rfl rfl rfl) (fun h14 => ?_) (fun h14 => ?_))
  all_goals refine ops_nil ?_
  all_goals (repeat (first | refine aw_seq ?_ | refine ath_n ?_ | refine aw_skip ?_ | refine abl_n ?_ | refine aw_block ?_))
  all_goals (first | refine aw_true rfl ?_ | refine aw_false rfl ?_)
  all_goals (repeat (first | refine aw_seq ?_ | refine ath_n ?_ | refine aw_skip ?_ | refine abl_n ?_ | refine aw_block ?_))
  · skip
    refine aw_region ?_
    refine ops_op rfl rfl (runs_none rfl) (mv_s (.inr rfl) rfl) ?_
    refine ops_nil ?_
    repeat (first | refine aw_seq ?_ | refine ath_n ?_ | refine aw_skip ?_ | refine abl_n ?_ | refine aw_block ?_)
    (refine aw_ret ?_; repeat (first | refine ath_r ?_ | refine abl_r ?_))
    exact post1 (.inr rfl) rfl (congrArg eB (decide_eq_false (fun e => by subst e; exact h14 rfl)).symm)
  have hl : a.length = b.length := by omega
  refine aw_region ?_
  first | refine ops_op rfl rfl (runs_none rfl) (mv_own (.inl rfl) rfl) ?_ | refine ops_op rfl rfl (runs_none rfl) (mv_sl (.inl rfl) rfl) ?_ | refine ops_op rfl rfl (runs_none rfl) (mv_s (.inl rfl) rfl) ?_ | refine ops_op rfl rfl (runs_none rfl) (mv_emp (.inl rfl) rfl) ?_
  first | refine ops_op rfl rfl (runs_none rfl) (does_len_map rfl ts26 rfl) ?_ | refine ops_op rfl rfl (runs_none rfl) (does_len_sl rfl ts26 rfl) ?_ | refine ops_op rfl rfl (runs_none rfl) (does_len_own rfl ts26 rfl) ?_ | refine ops_op rfl rfl (runs_none rfl) (does_len_s rfl ts26 rfl) ?_ | refine ops_op rfl rfl (runs_none rfl) (does_len_emp rfl ts26 rfl) ?_
  refine ops_op rfl rfl (runs_none rfl) (mv_s (.inl rfl) rfl) ?_
  refine ops_nil ?_
  repeat (first | refine aw_seq ?_ | refine ath_n ?_ | refine aw_skip ?_ | refine abl_n ?_ | refine aw_block ?_)
  refine aw_loops (S := Nat) (fun k => [(1, eL (eL eI) b), (2, .fn 17 []), (15, eL (eL eI) a), (16, eI a.length), (17, eI k)]) (fun _ => []) (fun k => k ≤ a.length ∧ ∀ j, j < k → gti a j = gti b j) (fun k => a.length - k) 0 (wk_sub _ ⟨rfl, rfl, rfl, rfl, rfl, trivial⟩) ⟨Nat.zero_le _, fun j hj => by omega⟩ (fun k hk => ?_)
  obtain ⟨hk, hall⟩ := hk
  repeat (first | refine aw_seq ?_ | refine ath_n ?_ | refine aw_skip ?_ | refine abl_n ?_ | refine aw_block ?_)
  all_goals refine aw_region ?_
  all_goals (first | refine ops_opP rfl rfl (runs_none rfl) (does_lss rfl rfl rfl) (fun h18 => ?_) (fun h18 => ?_) | refine ops_opB rfl rfl (runs_none rfl) (does_lss rfl rfl rfl) (fun h18 => ?_) (fun h18 => ?_))
  all_goals refine ops_nil ?_
  all_goals (repeat (first | refine aw_seq ?_ | refine ath_n ?_ | refine aw_skip ?_ | refine abl_n ?_ | refine aw_block ?_))
  all_goals (first | refine aw_true rfl ?_ | refine aw_false rfl ?_)
  all_goals (repeat (first | refine aw_seq ?_ | refine ath_n ?_ | refine aw_skip ?_ | refine abl_n ?_ | refine aw_block ?_))
  · have hlt : k < a.length := by omega
    have hixa : (a.map (eL eI))[k]? = some (eL eI (gti a k)) := ix_map hlt
    have hixb : (b.map (eL eI))[k]? = some (eL eI (gti b k)) := ix_map (by omega)
    have hq := eqI_pf (P := P) (gti a k) (gti b k)
    refine aw_region ?_
    refine ops_op rfl rfl (runs_none rfl) (mv_s (.inl rfl) rfl) ?_
    first | refine ops_op rfl rfl (runs_none rfl) (does_index_sl rfl ts26 ti25 rfl rfl rfl hixa rfl) ?_ | refine ops_op rfl rfl (runs_none rfl) (does_index_own rfl ts26 ti25 rfl rfl rfl hixa) ?_
    first | refine ops_op rfl rfl (runs_none rfl) (does_load_ref rfl ta25 rfl) ?_ | refine ops_op rfl rfl (runs_none rfl) (does_load_ptr rfl ta25 rfl rfl rfl rfl rfl) ?_
    refine ops_op rfl rfl (runs_none rfl) (mv_s (.inr rfl) rfl) ?_
    first | refine ops_op rfl rfl (runs_none rfl) (mv_own (.inr rfl) rfl) ?_ | refine ops_op rfl rfl (runs_none rfl) (mv_sl (.inr rfl) rfl) ?_ | refine ops_op rfl rfl (runs_none rfl) (mv_s (.inr rfl) rfl) ?_ | refine ops_op rfl rfl (runs_none rfl) (mv_emp (.inr rfl) rfl) ?_
    refine ops_nil ?_
    repeat (first | refine aw_seq ?_ | refine ath_n ?_ | refine aw_skip ?_ | refine abl_n ?_ | refine aw_block ?_)
    refine aw_region ?_
    first | refine ops_op rfl rfl (runs_none rfl) (mv_own (.inl rfl) rfl) ?_ | refine ops_op rfl rfl (runs_none rfl) (mv_sl (.inl rfl) rfl) ?_ | refine ops_op rfl rfl (runs_none rfl) (mv_s (.inl rfl) rfl) ?_ | refine ops_op rfl rfl (runs_none rfl) (mv_emp (.inl rfl) rfl) ?_
    refine ops_op rfl rfl (runs_none rfl) (mv_s (.inl rfl) rfl) ?_
    first | refine ops_op rfl rfl (runs_none rfl) (does_index_sl rfl ts26 ti25 rfl rfl rfl hixb rfl) ?_ | refine ops_op rfl rfl (runs_none rfl) (does_index_own rfl ts26 ti25 rfl rfl rfl hixb) ?_
    first | refine ops_op rfl rfl (runs_none rfl) (does_load_ref rfl ta25 rfl) ?_ | refine ops_op rfl rfl (runs_none rfl) (does_load_ptr rfl ta25 rfl rfl rfl rfl rfl) ?_
    first | refine ops_op rfl rfl (runs_none rfl) (mv_own (.inr rfl) rfl) ?_ | refine ops_op rfl rfl (runs_none rfl) (mv_sl (.inr rfl) rfl) ?_ | refine ops_op rfl rfl (runs_none rfl) (mv_s (.inr rfl) rfl) ?_ | refine ops_op rfl rfl (runs_none rfl) (mv_emp (.inr rfl) rfl) ?_
    refine ops_nil ?_
    repeat (first | refine aw_seq ?_ | refine ath_n ?_ | refine aw_skip ?_ | refine abl_n ?_ | refine aw_block ?_)
    all_goals refine aw_region ?_
    all_goals (first | refine ops_op rfl rfl (runs_none rfl) (mv_fn (.inl rfl) rfl) ?_ | refine ops_op rfl rfl (runs_none rfl) (mv_s (.inl rfl) rfl) ?_)
    all_goals (first | refine ops_op rfl rfl (runs_none rfl) (mv_own (.inl rfl) rfl) ?_ | refine ops_op rfl rfl (runs_none rfl) (mv_sl (.inl rfl) rfl) ?_ | refine ops_op rfl rfl (runs_none rfl) (mv_s (.inl rfl) rfl) ?_ | refine ops_op rfl rfl (runs_none rfl) (mv_emp (.inl rfl) rfl) ?_)
    all_goals (first | refine ops_op rfl rfl (runs_none rfl) (mv_own (.inl rfl) rfl) ?_ | refine ops_op rfl rfl (runs_none rfl) (mv_sl (.inl rfl) rfl) ?_ | refine ops_op rfl rfl (runs_none rfl) (mv_s (.inl rfl) rfl) ?_ | refine ops_op rfl rfl (runs_none rfl) (mv_emp (.inl rfl) rfl) ?_)
    all_goals (first | refine ops_opP rfl rfl (runs_none rfl) (does_call rfl rfl (hq) (evc_cons rfl (evc_cons rfl evc_nil))) (fun h29 => ?_) (fun h29 => ?_) | refine ops_opB rfl rfl (runs_none rfl) (does_call rfl rfl (hq) (evc_cons rfl (evc_cons rfl evc_nil))) (fun h29 => ?_) (fun h29 => ?_))
    all_goals (first | refine ops_op rfl rfl (runs_none rfl) (does_notp rfl rfl) ?_ | refine ops_op rfl rfl (runs_none rfl) (does_not rfl rfl) ?_)
    all_goals refine ops_nil ?_
    all_goals (repeat (first | refine aw_seq ?_ | refine ath_n ?_ | refine aw_skip ?_ | refine abl_n ?_ | refine aw_block ?_))
    all_goals (first | refine aw_true rfl ?_ | refine aw_false rfl ?_)
    all_goals (repeat (first | refine aw_seq ?_ | refine ath_n ?_ | refine aw_skip ?_ | refine abl_n ?_ | refine aw_block ?_))
    · skip
      refine aw_region ?_
      refine ops_op rfl rfl (runs_none rfl) (does_add rfl rfl rfl (IntWalk.i64_in _ (by omega))) ?_
      refine ops_op rfl rfl (runs_none rfl) (mv_s (.inl rfl) rfl) ?_
      refine ops_nil ?_
      repeat (first | refine aw_seq ?_ | refine ath_n ?_ | refine aw_skip ?_ | refine abl_n ?_ | refine aw_block ?_)
      refine ⟨k + 1, ⟨by omega, fun j hj => ?_⟩, by omega, wk_sub _ ⟨rfl, rfl, rfl, rfl, rfl, trivial⟩⟩
      by_cases e : j = k
      · subst e; exact h29
      · exact hall j (by omega)
    · skip
      refine aw_region ?_
      refine ops_op rfl rfl (runs_none rfl) (mv_s (.inr rfl) rfl) ?_
      refine ops_nil ?_
      repeat (first | refine aw_seq ?_ | refine ath_n ?_ | refine aw_skip ?_ | refine abl_n ?_ | refine aw_block ?_)
      (refine aw_ret ?_; repeat (first | refine ath_r ?_ | refine abl_r ?_))
      exact post1 (.inr rfl) rfl (congrArg eB (decide_eq_false (fun e => by subst e; exact h29 rfl)).symm)
  · have e : k = a.length := by omega
    subst e
    (refine aw_exit ?_; repeat (first | refine ath_x ?_ | refine abl_hit ?_ | refine abl_miss rfl ?_ | refine abl_n ?_ | refine ath_n ?_ | refine aw_seq ?_ | refine aw_skip ?_ | refine aw_block ?_))
    refine aw_region ?_
    refine ops_op rfl rfl (runs_none rfl) (mv_s (.inr rfl) rfl) ?_
    refine ops_nil ?_
    repeat (first | refine aw_seq ?_ | refine ath_n ?_ | refine aw_skip ?_ | refine abl_n ?_ | refine aw_block ?_)
    (refine aw_ret ?_; repeat (first | refine ath_r ?_ | refine abl_r ?_))
    exact post1 (.inr rfl) rfl (congrArg eB (decide_eq_true (ext_gti hl hall)).symm)
def sameSp (a b : Spc) : Bool := decide (a.full = b.full) && (decide (a.mv = b.mv) && decide (a.st = b.st))
theorem sameSp_iff {a b : Spc} : sameSp a b = true ↔ a = b := by
  unfold sameSp
  simp only [Bool.and_eq_true, decide_eq_true_eq]
  cases a; cases b; simp only [Spc.mk.injEq]
  exact ⟨fun ⟨h1, h2, h3⟩ => ⟨h3, h2, h1⟩, fun ⟨h1, h2, h3⟩ => ⟨h3, h2, h1⟩⟩
theorem same_no {a b : Spc} (h : a ≠ b) : sameSp a b = false := by
  cases e : sameSp a b with
  | false => rfl
  | true => exact absurd (sameSp_iff.1 e) h
set_option maxHeartbeats 2000000 in
theorem rSame_pf (a b : Spc) : Pure P 12 [eSpc a, eSpc b] (eB (sameSp a b)) := by
  have hla : Lo 0 (.ref (eSpc a).cells) := .ref _ (lo_Spc a).cells
  have hlb : Lo 0 (.ref (eSpc b).cells) := .ref _ (lo_Spc b).cells
  refine aw_fn (by rw [IsP.eq (P := P)]; exact Try.func12) rfl rfl rfl rfl rfl (lo_cons (lo_Spc a) (lo_cons (lo_Spc b) lo_nil)) (.s _) (by simp only [argF]; rfl) ?_
  repeat (first | refine aw_seq ?_ | refine ath_n ?_ | refine aw_skip ?_ | refine abl_n ?_ | refine aw_block ?_)
  refine aw_region ?_
  refine ops_op rfl rfl (runs_none rfl) (does_box rfl rfl rfl rfl) ?_
  refine aops_weak (wk_froz (id := 0) rfl) (aops_weak (wk_ref (d := 2) rfl rfl rfl) ?_)
  refine ops_op rfl rfl (runs_none rfl) (does_box rfl rfl rfl rfl) ?_
  refine aops_weak (wk_froz (id := 1) rfl) (aops_weak (wk_ref (d := 3) rfl rfl rfl) ?_)
  refine ops_op rfl rfl (runs_none rfl) (mv_s (.inr rfl) rfl) ?_
  refine ops_nil ?_
  repeat (first | refine aw_seq ?_ | refine ath_n ?_ | refine aw_skip ?_ | refine abl_n ?_ | refine aw_block ?_)
  all_goals refine aw_region ?_
  all_goals (first | refine ops_op rfl rfl (runs_none rfl) (does_fieldAddr_ptr rfl tf29_2 (by decide) rfl) ?_ | refine ops_op rfl rfl (runs_none rfl) (does_fieldAddr_ref rfl tf29_2 (by decide) rfl) ?_)
  all_goals (first | refine ops_op rfl rfl (runs_none rfl) (does_load_ref rfl ta4 rfl) ?_ | refine ops_op rfl rfl (runs_none rfl) (does_load_ptr rfl ta4 rfl rfl rfl rfl rfl) ?_)
  all_goals (first | refine ops_op rfl rfl (runs_none rfl) (does_fieldAddr_ptr rfl tf29_2 (by decide) rfl) ?_ | refine ops_op rfl rfl (runs_none rfl) (does_fieldAddr_ref rfl tf29_2 (by decide) rfl) ?_)
  all_goals (first | refine ops_op rfl rfl (runs_none rfl) (does_load_ref rfl ta4 rfl) ?_ | refine ops_op rfl rfl (runs_none rfl) (does_load_ptr rfl ta4 rfl rfl rfl rfl rfl) ?_)
  all_goals (first | refine ops_opP rfl rfl (runs_none rfl) (does_neqb (by rw [IsP.eq (P := P)]; kernel_rfl) rfl rfl rfl) (fun h11 => ?_) (fun h11 => ?_) | refine ops_opB rfl rfl (runs_none rfl) (does_neqb (by rw [IsP.eq (P := P)]; kernel_rfl) rfl rfl rfl) (fun h11 => ?_) (fun h11 => ?_))
  all_goals refine ops_op rfl rfl (runs_none rfl) (mv_s (.inl rfl) rfl) ?_
  all_goals (first | refine ops_op rfl rfl (runs_y rfl rfl rfl) (does_fieldAddr_ptr rfl tf29_0 (by decide) rfl) ?_ | refine ops_op rfl rfl (runs_y rfl rfl rfl) (does_fieldAddr_ref rfl tf29_0 (by decide) rfl) ?_ | refine ops_skip rfl rfl (runs_nf rfl rfl rfl) ?_ | refine ops_skip rfl rfl (runs_nu rfl rfl rfl) ?_)
  all_goals (first | refine ops_op rfl rfl (runs_y rfl rfl rfl) (does_load_ref rfl ta26 rfl) ?_ | refine ops_op rfl rfl (runs_y rfl rfl rfl) (does_load_ptr rfl ta26 rfl rfl rfl rfl rfl) ?_ | refine ops_skip rfl rfl (runs_nf rfl rfl rfl) ?_ | refine ops_skip rfl rfl (runs_nu rfl rfl rfl) ?_)
  all_goals (first | refine ops_op rfl rfl (runs_y rfl rfl rfl) (does_len_map rfl ts26 rfl) ?_ | refine ops_op rfl rfl (runs_y rfl rfl rfl) (does_len_sl rfl ts26 rfl) ?_ | refine ops_op rfl rfl (runs_y rfl rfl rfl) (does_len_own rfl ts26 rfl) ?_ | refine ops_op rfl rfl (runs_y rfl rfl rfl) (does_len_s rfl ts26 rfl) ?_ | refine ops_op rfl rfl (runs_y rfl rfl rfl) (does_len_emp rfl ts26 rfl) ?_ | refine ops_skip rfl rfl (runs_nf rfl rfl rfl) ?_ | refine ops_skip rfl rfl (runs_nu rfl rfl rfl) ?_)
  all_goals (first | refine ops_op rfl rfl (runs_y rfl rfl rfl) (does_fieldAddr_ptr rfl tf29_0 (by decide) rfl) ?_ | refine ops_op rfl rfl (runs_y rfl rfl rfl) (does_fieldAddr_ref rfl tf29_0 (by decide) rfl) ?_ | refine ops_skip rfl rfl (runs_nf rfl rfl rfl) ?_ | refine ops_skip rfl rfl (runs_nu rfl rfl rfl) ?_)
  all_goals (first | refine ops_op rfl rfl (runs_y rfl rfl rfl) (does_load_ref rfl ta26 rfl) ?_ | refine ops_op rfl rfl (runs_y rfl rfl rfl) (does_load_ptr rfl ta26 rfl rfl rfl rfl rfl) ?_ | refine ops_skip rfl rfl (runs_nf rfl rfl rfl) ?_ | refine ops_skip rfl rfl (runs_nu rfl rfl rfl) ?_)
  all_goals (first | refine ops_op rfl rfl (runs_y rfl rfl rfl) (does_len_map rfl ts26 rfl) ?_ | refine ops_op rfl rfl (runs_y rfl rfl rfl) (does_len_sl rfl ts26 rfl) ?_ | refine ops_op rfl rfl (runs_y rfl rfl rfl) (does_len_own rfl ts26 rfl) ?_ | refine ops_op rfl rfl (runs_y rfl rfl rfl) (does_len_s rfl ts26 rfl) ?_ | refine ops_op rfl rfl (runs_y rfl rfl rfl) (does_len_emp rfl ts26 rfl) ?_ | refine ops_skip rfl rfl (runs_nf rfl rfl rfl) ?_ | refine ops_skip rfl rfl (runs_nu rfl rfl rfl) ?_)
  all_goals (first | refine ops_opP rfl rfl (runs_y rfl rfl rfl) (does_neq rfl rfl rfl) (fun h19 => ?_) (fun h19 => ?_) | refine ops_opB rfl rfl (runs_y rfl rfl rfl) (does_neq rfl rfl rfl) (fun h19 => ?_) (fun h19 => ?_) | refine ops_skip rfl rfl (runs_nf rfl rfl rfl) ?_ | refine ops_skip rfl rfl (runs_nu rfl rfl rfl) ?_)
  all_goals (first | refine ops_op rfl rfl (runs_none rfl) (pickT_s rfl rfl rfl) ?_ | refine ops_op rfl rfl (runs_none rfl) (pickF_s rfl rfl rfl) ?_ | refine ops_op rfl rfl (runs_none rfl) (does_pickT rfl rfl rfl) ?_ | refine ops_op rfl rfl (runs_none rfl) (does_pickF rfl rfl rfl) ?_)
  all_goals refine ops_op rfl rfl (runs_none rfl) (mv_s (.inl rfl) rfl) ?_
  all_goals (first | refine ops_op rfl rfl (runs_y rfl rfl rfl) (does_fieldAddr_ptr rfl tf29_1 (by decide) rfl) ?_ | refine ops_op rfl rfl (runs_y rfl rfl rfl) (does_fieldAddr_ref rfl tf29_1 (by decide) rfl) ?_ | refine ops_skip rfl rfl (runs_nf rfl rfl rfl) ?_ | refine ops_skip rfl rfl (runs_nu rfl rfl rfl) ?_)
  all_goals (first | refine ops_op rfl rfl (runs_y rfl rfl rfl) (does_load_ref rfl ta27 rfl) ?_ | refine ops_op rfl rfl (runs_y rfl rfl rfl) (does_load_ptr rfl ta27 rfl rfl rfl rfl rfl) ?_ | refine ops_skip rfl rfl (runs_nf rfl rfl rfl) ?_ | refine ops_skip rfl rfl (runs_nu rfl rfl rfl) ?_)
  all_goals (first | refine ops_op rfl rfl (runs_y rfl rfl rfl) (does_len_map rfl ts27 rfl) ?_ | refine ops_op rfl rfl (runs_y rfl rfl rfl) (does_len_sl rfl ts27 rfl) ?_ | refine ops_op rfl rfl (runs_y rfl rfl rfl) (does_len_own rfl ts27 rfl) ?_ | refine ops_op rfl rfl (runs_y rfl rfl rfl) (does_len_s rfl ts27 rfl) ?_ | refine ops_op rfl rfl (runs_y rfl rfl rfl) (does_len_emp rfl ts27 rfl) ?_ | refine ops_skip rfl rfl (runs_nf rfl rfl rfl) ?_ | refine ops_skip rfl rfl (runs_nu rfl rfl rfl) ?_)
  all_goals (first | refine ops_op rfl rfl (runs_y rfl rfl rfl) (does_fieldAddr_ptr rfl tf29_1 (by decide) rfl) ?_ | refine ops_op rfl rfl (runs_y rfl rfl rfl) (does_fieldAddr_ref rfl tf29_1 (by decide) rfl) ?_ | refine ops_skip rfl rfl (runs_nf rfl rfl rfl) ?_ | refine ops_skip rfl rfl (runs_nu rfl rfl rfl) ?_)
  all_goals (first | refine ops_op rfl rfl (runs_y rfl rfl rfl) (does_load_ref rfl ta27 rfl) ?_ | refine ops_op rfl rfl (runs_y rfl rfl rfl) (does_load_ptr rfl ta27 rfl rfl rfl rfl rfl) ?_ | refine ops_skip rfl rfl (runs_nf rfl rfl rfl) ?_ | refine ops_skip rfl rfl (runs_nu rfl rfl rfl) ?_)
  all_goals (first | refine ops_op rfl rfl (runs_y rfl rfl rfl) (does_len_map rfl ts27 rfl) ?_ | refine ops_op rfl rfl (runs_y rfl rfl rfl) (does_len_sl rfl ts27 rfl) ?_ | refine ops_op rfl rfl (runs_y rfl rfl rfl) (does_len_own rfl ts27 rfl) ?_ | refine ops_op rfl rfl (runs_y rfl rfl rfl) (does_len_s rfl ts27 rfl) ?_ | refine ops_op rfl rfl (runs_y rfl rfl rfl) (does_len_emp rfl ts27 rfl) ?_ | refine ops_skip rfl rfl (runs_nf rfl rfl rfl) ?_ | refine ops_skip rfl rfl (runs_nu rfl rfl rfl) ?_)
  all_goals (first | refine ops_opP rfl rfl (runs_y rfl rfl rfl) (does_neq rfl rfl rfl) (fun h28 => ?_) (fun h28 => ?_) | refine ops_opB rfl rfl (runs_y rfl rfl rfl) (does_neq rfl rfl rfl) (fun h28 => ?_) (fun h28 => ?_) | refine ops_skip rfl rfl (runs_nf rfl rfl rfl) ?_ | refine ops_skip rfl rfl (runs_nu rfl rfl rfl) ?_)
  all_goals (first | refine ops_op rfl rfl (runs_none rfl) (pickT_s rfl rfl rfl) ?_ | refine ops_op rfl rfl (runs_none rfl) (pickF_s rfl rfl rfl) ?_ | refine ops_op rfl rfl (runs_none rfl) (does_pickT rfl rfl rfl) ?_ | refine ops_op rfl rfl (runs_none rfl) (does_pickF rfl rfl rfl) ?_)
  all_goals refine ops_nil ?_
  all_goals (repeat (first | refine aw_seq ?_ | refine ath_n ?_ | refine aw_skip ?_ | refine abl_n ?_ | refine aw_block ?_))
  all_goals (first | refine aw_true rfl ?_ | refine aw_false rfl ?_)
  all_goals (repeat (first | refine aw_seq ?_ | refine ath_n ?_ | refine aw_skip ?_ | refine abl_n ?_ | refine aw_block ?_))
  rotate_right 1
  all_goals first
    | skip
      refine aw_region ?_
      refine ops_op rfl rfl (runs_none rfl) (mv_s (.inr rfl) rfl) ?_
      refine ops_nil ?_
      repeat (first | refine aw_seq ?_ | refine ath_n ?_ | refine aw_skip ?_ | refine abl_n ?_ | refine aw_block ?_)
      (refine aw_ret ?_; repeat (first | refine ath_r ?_ | refine abl_r ?_))
      exact post1 (.inr rfl) rfl (congrArg eB (same_no (fun e => by subst e; simp at *)).symm)
    | skip
  have hfu : a.full = b.full := by
    cases ha : a.full <;> cases hb : b.full <;> simp_all
  have hl1 : a.st.length = b.st.length := by omega
  have hl2 : a.mv.length = b.mv.length := by omega
  clear h11 h19 h28
  refine aw_region ?_
  refine ops_op rfl rfl (runs_none rfl) (mv_s (.inr rfl) rfl) ?_
  refine ops_nil ?_
  repeat (first | refine aw_seq ?_ | refine ath_n ?_ | refine aw_skip ?_ | refine abl_n ?_ | refine aw_block ?_)
  refine aw_loops (S := Nat) (fun k => [(2, .ref (eSpc a).cells), (3, .ref (eSpc b).cells), (5, eI k)]) (fun _ => []) (fun k => k ≤ a.st.length ∧ ∀ j, j < k → gti a.st j = gti b.st j) (fun k => a.st.length - k) 0 (wk_st [] (by decide) trivial ⟨.lo _ hla, .lo _ hlb, .lo _ (by repeat' (first | exact Lo.s _ | exact Lo.emp | exact Lo.any | exact lo_nil | exact lo_nilE | refine lo_cons ?_ ?_ | refine lo_consE ?_ ?_ | refine lo_map ?_ | refine lo_mapE ?_ | refine Lo.cells ?_ | refine Lo.agg _ ?_ | refine Lo.ref _ ?_ | refine Lo.tup _ ?_ | refine Lo.fn _ _ ?_ | refine Lo.sl _ ?_ | intro _)), trivial⟩) ⟨Nat.zero_le _, fun j hj => by omega⟩ (fun k hk => ?_)
  obtain ⟨hk, hall⟩ := hk
  repeat (first | refine aw_seq ?_ | refine ath_n ?_ | refine aw_skip ?_ | refine abl_n ?_ | refine aw_block ?_)
  refine aw_region ?_
  refine ops_op rfl rfl (runs_none rfl) (mv_s (.inl rfl) rfl) ?_
  first | refine ops_op rfl rfl (runs_none rfl) (does_fieldAddr_ptr rfl tf29_0 (by decide) rfl) ?_ | refine ops_op rfl rfl (runs_none rfl) (does_fieldAddr_ref rfl tf29_0 (by decide) rfl) ?_
  first | refine ops_op rfl rfl (runs_none rfl) (does_load_ref rfl ta26 rfl) ?_ | refine ops_op rfl rfl (runs_none rfl) (does_load_ptr rfl ta26 rfl rfl rfl rfl rfl) ?_
  first | refine ops_op rfl rfl (runs_none rfl) (does_len_map rfl ts26 rfl) ?_ | refine ops_op rfl rfl (runs_none rfl) (does_len_sl rfl ts26 rfl) ?_ | refine ops_op rfl rfl (runs_none rfl) (does_len_own rfl ts26 rfl) ?_ | refine ops_op rfl rfl (runs_none rfl) (does_len_s rfl ts26 rfl) ?_ | refine ops_op rfl rfl (runs_none rfl) (does_len_emp rfl ts26 rfl) ?_
  refine ops_op rfl rfl (runs_none rfl) (does_lss rfl rfl rfl) ?_
  refine ops_nil ?_
  repeat (first | refine aw_seq ?_ | refine ath_n ?_ | refine aw_skip ?_ | refine abl_n ?_ | refine aw_block ?_)
  refine aw_bdm (d := 32) rfl (fun hmx => ?_)
  unfold maxLen at hmx
  refine aw_if rfl (fun h => ?_) (fun h => ?_)
  · have hlt : k < a.st.length := by omega
    have hixa : (a.st.map (eL eI))[k]? = some (eL eI (gti a.st k)) := ix_map hlt
    have hixb : (b.st.map (eL eI))[k]? = some (eL eI (gti b.st k)) := ix_map (by omega)
    have hq := sameM_pf (P := P) (gti a.st k) (gti b.st k)
    repeat (first | refine aw_seq ?_ | refine ath_n ?_ | refine aw_skip ?_ | refine abl_n ?_ | refine aw_block ?_)
    all_goals refine aw_draw hmix ?_
    all_goals refine adraw_quiet (by kernel_rfl) ?_
    all_goals (first | refine qx_op rfl rfl (runs_none rfl) (does_fieldAddr_ptr rfl tf29_0 (by decide) rfl) ?_ | refine qx_op rfl rfl (runs_none rfl) (does_fieldAddr_ref rfl tf29_0 (by decide) rfl) ?_)
    all_goals (first | refine qx_op rfl rfl (runs_none rfl) (does_load_ref rfl ta26 rfl) ?_ | refine qx_op rfl rfl (runs_none rfl) (does_load_ptr rfl ta26 rfl rfl rfl rfl rfl) ?_)
    all_goals refine qx_op rfl rfl (runs_none rfl) (mv_s (.inl rfl) rfl) ?_
    all_goals (first | refine qx_op rfl rfl (runs_none rfl) (does_index_sl rfl ts26 ti25 rfl rfl rfl hixa rfl) ?_ | refine qx_op rfl rfl (runs_none rfl) (does_index_own rfl ts26 ti25 rfl rfl rfl hixa) ?_)
    all_goals (first | refine qx_op rfl rfl (runs_none rfl) (does_load_ref rfl ta25 rfl) ?_ | refine qx_op rfl rfl (runs_none rfl) (does_load_ptr rfl ta25 rfl rfl rfl rfl rfl) ?_)
    all_goals (first | refine qx_op rfl rfl (runs_none rfl) (does_fieldAddr_ptr rfl tf29_0 (by decide) rfl) ?_ | refine qx_op rfl rfl (runs_none rfl) (does_fieldAddr_ref rfl tf29_0 (by decide) rfl) ?_)
    all_goals (first | refine qx_op rfl rfl (runs_none rfl) (does_load_ref rfl ta26 rfl) ?_ | refine qx_op rfl rfl (runs_none rfl) (does_load_ptr rfl ta26 rfl rfl rfl rfl rfl) ?_)
    all_goals refine qx_op rfl rfl (runs_none rfl) (mv_s (.inl rfl) rfl) ?_
    all_goals (first | refine qx_op rfl rfl (runs_none rfl) (does_index_sl rfl ts26 ti25 rfl rfl rfl hixb rfl) ?_ | refine qx_op rfl rfl (runs_none rfl) (does_index_own rfl ts26 ti25 rfl rfl rfl hixb) ?_)
    all_goals (first | refine qx_op rfl rfl (runs_none rfl) (does_load_ref rfl ta25 rfl) ?_ | refine qx_op rfl rfl (runs_none rfl) (does_load_ptr rfl ta25 rfl rfl rfl rfl rfl) ?_)
    all_goals (first | refine qx_opP rfl rfl (runs_none rfl) (does_call rfl rfl (hq) (evc_cons rfl (evc_cons rfl evc_nil))) (fun h47 => ?_) (fun h47 => ?_) | refine qx_opB rfl rfl (runs_none rfl) (does_call rfl rfl (hq) (evc_cons rfl (evc_cons rfl evc_nil))) (fun h47 => ?_) (fun h47 => ?_))
    all_goals (first | refine qx_op rfl rfl (runs_none rfl) (does_notp rfl rfl) ?_ | refine qx_op rfl rfl (runs_none rfl) (does_not rfl rfl) ?_)
    all_goals refine qx_nil ?_
    all_goals (repeat (first | refine aw_seq ?_ | refine ath_n ?_ | refine aw_skip ?_ | refine abl_n ?_ | refine aw_block ?_))
    all_goals (first | refine aw_true rfl ?_ | refine aw_false rfl ?_)
    all_goals (repeat (first | refine aw_seq ?_ | refine ath_n ?_ | refine aw_skip ?_ | refine abl_n ?_ | refine aw_block ?_))
    · skip
      refine aw_region ?_
      refine ops_op rfl rfl (runs_none rfl) (mv_s (.inl rfl) rfl) ?_
      refine ops_op rfl rfl (runs_none rfl) (does_add rfl rfl rfl (IntWalk.i64_in _ (by omega))) ?_
      refine ops_op rfl rfl (runs_none rfl) (mv_s (.inr rfl) rfl) ?_
      refine ops_nil ?_
      repeat (first | refine aw_seq ?_ | refine ath_n ?_ | refine aw_skip ?_ | refine abl_n ?_ | refine aw_block ?_)
      refine ⟨k + 1, ⟨by omega, fun j hj => ?_⟩, by omega, wk_sub _ ⟨rfl, rfl, rfl, trivial⟩⟩
      by_cases e : j = k
      · subst e; exact h47
      · exact hall j (by omega)
    · skip
      refine aw_region ?_
      refine ops_op rfl rfl (runs_none rfl) (mv_s (.inr rfl) rfl) ?_
      refine ops_nil ?_
      repeat (first | refine aw_seq ?_ | refine ath_n ?_ | refine aw_skip ?_ | refine abl_n ?_ | refine aw_block ?_)
      (refine aw_ret ?_; repeat (first | refine ath_r ?_ | refine abl_r ?_))
      exact post1 (.inr rfl) rfl (congrArg eB (same_no (fun e => by subst e; exact h47 rfl)).symm)
  have e : k = a.st.length := by omega
  subst e
  have hst := ext_gti hl1 hall
  repeat (first | refine aw_seq ?_ | refine ath_n ?_ | refine aw_skip ?_ | refine abl_n ?_ | refine aw_block ?_)
  (refine aw_exit ?_; repeat (first | refine ath_x ?_ | refine abl_hit ?_ | refine abl_miss rfl ?_ | refine abl_n ?_ | refine ath_n ?_ | refine aw_seq ?_ | refine aw_skip ?_ | refine aw_block ?_))
  refine aw_region ?_
  refine ops_op rfl rfl (runs_none rfl) (mv_s (.inr rfl) rfl) ?_
  refine ops_nil ?_
  repeat (first | refine aw_seq ?_ | refine ath_n ?_ | refine aw_skip ?_ | refine abl_n ?_ | refine aw_block ?_)
  refine aw_loops (S := Nat) (fun k => [(2, .ref (eSpc a).cells), (3, .ref (eSpc b).cells), (6, eI k)]) (fun _ => []) (fun k => k ≤ a.mv.length ∧ ∀ j, j < k → gti a.mv j = gti b.mv j) (fun k => a.mv.length - k) 0 (wk_st [] (by decide) trivial ⟨.lo _ hla, .lo _ hlb, .lo _ (by repeat' (first | exact Lo.s _ | exact Lo.emp | exact Lo.any | exact lo_nil | exact lo_nilE | refine lo_cons ?_ ?_ | refine lo_consE ?_ ?_ | refine lo_map ?_ | refine lo_mapE ?_ | refine Lo.cells ?_ | refine Lo.agg _ ?_ | refine Lo.ref _ ?_ | refine Lo.tup _ ?_ | refine Lo.fn _ _ ?_ | refine Lo.sl _ ?_ | intro _)), trivial⟩) ⟨Nat.zero_le _, fun j hj => by omega⟩ (fun k hk => ?_)
  obtain ⟨hk, hall⟩ := hk
  repeat (first | refine aw_seq ?_ | refine ath_n ?_ | refine aw_skip ?_ | refine abl_n ?_ | refine aw_block ?_)
  refine aw_region ?_
  refine ops_op rfl rfl (runs_none rfl) (mv_s (.inl rfl) rfl) ?_
  first | refine ops_op rfl rfl (runs_none rfl) (does_fieldAddr_ptr rfl tf29_1 (by decide) rfl) ?_ | refine ops_op rfl rfl (runs_none rfl) (does_fieldAddr_ref rfl tf29_1 (by decide) rfl) ?_
  first | refine ops_op rfl rfl (runs_none rfl) (does_load_ref rfl ta27 rfl) ?_ | refine ops_op rfl rfl (runs_none rfl) (does_load_ptr rfl ta27 rfl rfl rfl rfl rfl) ?_
  first | refine ops_op rfl rfl (runs_none rfl) (does_len_map rfl ts27 rfl) ?_ | refine ops_op rfl rfl (runs_none rfl) (does_len_sl rfl ts27 rfl) ?_ | refine ops_op rfl rfl (runs_none rfl) (does_len_own rfl ts27 rfl) ?_ | refine ops_op rfl rfl (runs_none rfl) (does_len_s rfl ts27 rfl) ?_ | refine ops_op rfl rfl (runs_none rfl) (does_len_emp rfl ts27 rfl) ?_
  refine ops_op rfl rfl (runs_none rfl) (does_lss rfl rfl rfl) ?_
  refine ops_nil ?_
  repeat (first | refine aw_seq ?_ | refine ath_n ?_ | refine aw_skip ?_ | refine abl_n ?_ | refine aw_block ?_)
  refine aw_bdm (d := 51) rfl (fun hmx => ?_)
  unfold maxLen at hmx
  refine aw_if rfl (fun h => ?_) (fun h => ?_)
  · have hlt : k < a.mv.length := by omega
    have hixa : (a.mv.map eMv)[k]? = some (eMv (gti a.mv k)) := ix_map hlt
    have hixb : (b.mv.map eMv)[k]? = some (eMv (gti b.mv k)) := ix_map (by omega)
    repeat (first | refine aw_seq ?_ | refine ath_n ?_ | refine aw_skip ?_ | refine abl_n ?_ | refine aw_block ?_)
    all_goals refine aw_draw hmix ?_
    all_goals refine adraw_quiet (by kernel_rfl) ?_
    all_goals (first | refine qx_op rfl rfl (runs_none rfl) (does_fieldAddr_ptr rfl tf29_1 (by decide) rfl) ?_ | refine qx_op rfl rfl (runs_none rfl) (does_fieldAddr_ref rfl tf29_1 (by decide) rfl) ?_)
    all_goals (first | refine qx_op rfl rfl (runs_none rfl) (does_load_ref rfl ta27 rfl) ?_ | refine qx_op rfl rfl (runs_none rfl) (does_load_ptr rfl ta27 rfl rfl rfl rfl rfl) ?_)
    all_goals refine qx_op rfl rfl (runs_none rfl) (mv_s (.inl rfl) rfl) ?_
    all_goals (first | refine qx_op rfl rfl (runs_none rfl) (does_index_sl rfl ts27 ti56 rfl rfl rfl hixa rfl) ?_ | refine qx_op rfl rfl (runs_none rfl) (does_index_own rfl ts27 ti56 rfl rfl rfl hixa) ?_)
    all_goals (first | refine qx_op rfl rfl (runs_none rfl) (does_load_refw rfl ta56 ti56 rfl rfl) ?_ | refine qx_op rfl rfl (runs_none rfl) (does_load_whole rfl ta56 ti56 rfl rfl rfl rfl rfl) ?_ | refine qx_op rfl rfl (runs_none rfl) (does_load_refs rfl ta56 ti56 rfl (Nat.le_of_ble_eq_true rfl)) ?_ | refine qx_op rfl rfl (runs_none rfl) (does_load_ptrs rfl ta56 ti56 rfl rfl rfl rfl (Nat.le_of_ble_eq_true rfl)) ?_)
    all_goals (first | refine qx_op rfl rfl (runs_none rfl) (does_fieldAddr_ptr rfl tf29_1 (by decide) rfl) ?_ | refine qx_op rfl rfl (runs_none rfl) (does_fieldAddr_ref rfl tf29_1 (by decide) rfl) ?_)
    all_goals (first | refine qx_op rfl rfl (runs_none rfl) (does_load_ref rfl ta27 rfl) ?_ | refine qx_op rfl rfl (runs_none rfl) (does_load_ptr rfl ta27 rfl rfl rfl rfl rfl) ?_)
    all_goals refine qx_op rfl rfl (runs_none rfl) (mv_s (.inl rfl) rfl) ?_
    all_goals (first | refine qx_op rfl rfl (runs_none rfl) (does_index_sl rfl ts27 ti56 rfl rfl rfl hixb rfl) ?_ | refine qx_op rfl rfl (runs_none rfl) (does_index_own rfl ts27 ti56 rfl rfl rfl hixb) ?_)
    all_goals (first | refine qx_op rfl rfl (runs_none rfl) (does_load_refw rfl ta56 ti56 rfl rfl) ?_ | refine qx_op rfl rfl (runs_none rfl) (does_load_whole rfl ta56 ti56 rfl rfl rfl rfl rfl) ?_ | refine qx_op rfl rfl (runs_none rfl) (does_load_refs rfl ta56 ti56 rfl (Nat.le_of_ble_eq_true rfl)) ?_ | refine qx_op rfl rfl (runs_none rfl) (does_load_ptrs rfl ta56 ti56 rfl rfl rfl rfl (Nat.le_of_ble_eq_true rfl)) ?_)
    all_goals (first | refine qx_opP rfl rfl (runs_none rfl) (does_nea rfl rfl rfl te56 rfl rfl rfl) (fun h66 => ?_) (fun h66 => ?_) | refine qx_opB rfl rfl (runs_none rfl) (does_nea rfl rfl rfl te56 rfl rfl rfl) (fun h66 => ?_) (fun h66 => ?_))
    all_goals refine qx_nil ?_
    all_goals (repeat (first | refine aw_seq ?_ | refine ath_n ?_ | refine aw_skip ?_ | refine abl_n ?_ | refine aw_block ?_))
    all_goals (first | refine aw_true rfl ?_ | refine aw_false rfl ?_)
    all_goals (repeat (first | refine aw_seq ?_ | refine ath_n ?_ | refine aw_skip ?_ | refine abl_n ?_ | refine aw_block ?_))
    · skip
      refine aw_region ?_
      refine ops_op rfl rfl (runs_none rfl) (mv_s (.inr rfl) rfl) ?_
      refine ops_nil ?_
      repeat (first | refine aw_seq ?_ | refine ath_n ?_ | refine aw_skip ?_ | refine abl_n ?_ | refine aw_block ?_)
      (refine aw_ret ?_; repeat (first | refine ath_r ?_ | refine abl_r ?_))
      exact post1 (.inr rfl) rfl (congrArg eB (same_no (fun e => by subst e; exact mv_neT h66 rfl)).symm)
    · skip
      refine aw_region ?_
      refine ops_op rfl rfl (runs_none rfl) (mv_s (.inl rfl) rfl) ?_
      refine ops_op rfl rfl (runs_none rfl) (does_add rfl rfl rfl (IntWalk.i64_in _ (by omega))) ?_
      refine ops_op rfl rfl (runs_none rfl) (mv_s (.inr rfl) rfl) ?_
      refine ops_nil ?_
      repeat (first | refine aw_seq ?_ | refine ath_n ?_ | refine aw_skip ?_ | refine abl_n ?_ | refine aw_block ?_)
      refine ⟨k + 1, ⟨by omega, fun j hj => ?_⟩, by omega, wk_sub _ ⟨rfl, rfl, rfl, trivial⟩⟩
      by_cases e : j = k
      · subst e; exact mv_neF h66
      · exact hall j (by omega)
  have e : k = a.mv.length := by omega
  subst e
  have hmv := ext_gti hl2 hall
  repeat (first | refine aw_seq ?_ | refine ath_n ?_ | refine aw_skip ?_ | refine abl_n ?_ | refine aw_block ?_)
  (refine aw_exit ?_; repeat (first | refine ath_x ?_ | refine abl_hit ?_ | refine abl_miss rfl ?_ | refine abl_n ?_ | refine ath_n ?_ | refine aw_seq ?_ | refine aw_skip ?_ | refine aw_block ?_))
  refine aw_region ?_
  refine ops_op rfl rfl (runs_none rfl) (mv_s (.inr rfl) rfl) ?_
  refine ops_nil ?_
  repeat (first | refine aw_seq ?_ | refine ath_n ?_ | refine aw_skip ?_ | refine abl_n ?_ | refine aw_block ?_)
  (refine aw_ret ?_; repeat (first | refine ath_r ?_ | refine abl_r ?_))
  exact post1 (.inr rfl) rfl (congrArg eB (sameSp_iff.2 (by cases a; cases b; simp_all)).symm)
/-- whether a space is one of a net -/
def validSp (n : Net) (s : Spc) : Bool := if s.st.length < 1 ∨ 2000 < s.st.length then false else decide ((explE n (gti s.st 0) s.st.length).2 = 0) && sameSp (explE n (gti s.st 0) s.st.length).1 s
set_option maxHeartbeats 1000000 in
theorem rValidSp_pf (n : Net) (s : Spc) : Pure P 14 [eN n, eSpc s] (eB (validSp n s)) := by
  have hx := rExplore_pf (P := P) n (gti s.st 0) s.st.length
  have HV : validSp n s = if s.st.length < 1 ∨ 2000 < s.st.length then false else decide ((explE n (gti s.st 0) s.st.length).2 = 0) && sameSp (explE n (gti s.st 0) s.st.length).1 s := rfl
  generalize explE n (gti s.st 0) s.st.length = r at hx HV
  generalize validSp n s = V at HV ⊢
  have hq := rSame_pf (P := P) r.1 s
  refine aw_fn (by rw [IsP.eq (P := P)]; exact Try.func14) rfl rfl rfl rfl rfl (lo_cons (lo_N n) (lo_cons (lo_Spc s) lo_nil)) (.s _) (by simp only [argF]; rfl) ?_
  repeat (first | refine aw_seq ?_ | refine ath_n ?_ | refine aw_skip ?_ | refine abl_n ?_ | refine aw_block ?_)
  refine aw_region ?_
  refine ops_op rfl rfl (runs_none rfl) (does_box rfl rfl rfl rfl) ?_
  refine aops_weak (wk_froz (id := 0) rfl) (aops_weak (wk_ref (d := 2) rfl rfl rfl) ?_)
  refine ops_op rfl rfl (runs_none rfl) (does_box rfl rfl rfl rfl) ?_
  refine aops_weak (wk_froz (id := 1) rfl) (aops_weak (wk_ref (d := 3) rfl rfl rfl) ?_)
  refine ops_op rfl rfl (runs_none rfl) (mv_s (.inr rfl) rfl) ?_
  refine ops_nil ?_
  repeat (first | refine aw_seq ?_ | refine ath_n ?_ | refine aw_skip ?_ | refine abl_n ?_ | refine aw_block ?_)
  all_goals refine aw_region ?_
  all_goals (first | refine ops_op rfl rfl (runs_none rfl) (does_fieldAddr_ptr rfl tf29_0 (by decide) rfl) ?_ | refine ops_op rfl rfl (runs_none rfl) (does_fieldAddr_ref rfl tf29_0 (by decide) rfl) ?_)
  all_goals (first | refine ops_op rfl rfl (runs_none rfl) (does_load_ref rfl ta26 rfl) ?_ | refine ops_op rfl rfl (runs_none rfl) (does_load_ptr rfl ta26 rfl rfl rfl rfl rfl) ?_)
  all_goals (first | refine ops_op rfl rfl (runs_none rfl) (does_len_map rfl ts26 rfl) ?_ | refine ops_op rfl rfl (runs_none rfl) (does_len_sl rfl ts26 rfl) ?_ | refine ops_op rfl rfl (runs_none rfl) (does_len_own rfl ts26 rfl) ?_ | refine ops_op rfl rfl (runs_none rfl) (does_len_s rfl ts26 rfl) ?_ | refine ops_op rfl rfl (runs_none rfl) (does_len_emp rfl ts26 rfl) ?_)
  all_goals (first | refine ops_opP rfl rfl (runs_none rfl) (does_lss rfl rfl rfl) (fun h10 => ?_) (fun h10 => ?_) | refine ops_opB rfl rfl (runs_none rfl) (does_lss rfl rfl rfl) (fun h10 => ?_) (fun h10 => ?_))
  all_goals refine ops_op rfl rfl (runs_none rfl) (mv_s (.inl rfl) rfl) ?_
  all_goals (first | refine ops_op rfl rfl (runs_y rfl rfl rfl) (does_fieldAddr_ptr rfl tf29_0 (by decide) rfl) ?_ | refine ops_op rfl rfl (runs_y rfl rfl rfl) (does_fieldAddr_ref rfl tf29_0 (by decide) rfl) ?_ | refine ops_skip rfl rfl (runs_nf rfl rfl rfl) ?_ | refine ops_skip rfl rfl (runs_nu rfl rfl rfl) ?_)
  all_goals (first | refine ops_op rfl rfl (runs_y rfl rfl rfl) (does_load_ref rfl ta26 rfl) ?_ | refine ops_op rfl rfl (runs_y rfl rfl rfl) (does_load_ptr rfl ta26 rfl rfl rfl rfl rfl) ?_ | refine ops_skip rfl rfl (runs_nf rfl rfl rfl) ?_ | refine ops_skip rfl rfl (runs_nu rfl rfl rfl) ?_)
  all_goals (first | refine ops_op rfl rfl (runs_y rfl rfl rfl) (does_len_map rfl ts26 rfl) ?_ | refine ops_op rfl rfl (runs_y rfl rfl rfl) (does_len_sl rfl ts26 rfl) ?_ | refine ops_op rfl rfl (runs_y rfl rfl rfl) (does_len_own rfl ts26 rfl) ?_ | refine ops_op rfl rfl (runs_y rfl rfl rfl) (does_len_s rfl ts26 rfl) ?_ | refine ops_op rfl rfl (runs_y rfl rfl rfl) (does_len_emp rfl ts26 rfl) ?_ | refine ops_skip rfl rfl (runs_nf rfl rfl rfl) ?_ | refine ops_skip rfl rfl (runs_nu rfl rfl rfl) ?_)
  all_goals (first | refine ops_opP rfl rfl (runs_y rfl rfl rfl) (does_gtr rfl rfl rfl) (fun h15 => ?_) (fun h15 => ?_) | refine ops_opB rfl rfl (runs_y rfl rfl rfl) (does_gtr rfl rfl rfl) (fun h15 => ?_) (fun h15 => ?_) | refine ops_skip rfl rfl (runs_nf rfl rfl rfl) ?_ | refine ops_skip rfl rfl (runs_nu rfl rfl rfl) ?_)
  all_goals (first | refine ops_op rfl rfl (runs_none rfl) (pickT_s rfl rfl rfl) ?_ | refine ops_op rfl rfl (runs_none rfl) (pickF_s rfl rfl rfl) ?_ | refine ops_op rfl rfl (runs_none rfl) (does_pickT rfl rfl rfl) ?_ | refine ops_op rfl rfl (runs_none rfl) (does_pickF rfl rfl rfl) ?_)
  all_goals refine ops_nil ?_
  all_goals (repeat (first | refine aw_seq ?_ | refine ath_n ?_ | refine aw_skip ?_ | refine abl_n ?_ | refine aw_block ?_))
  all_goals (first | refine aw_true rfl ?_ | refine aw_false rfl ?_)
  all_goals (repeat (first | refine aw_seq ?_ | refine ath_n ?_ | refine aw_skip ?_ | refine abl_n ?_ | refine aw_block ?_))
  all_goals first
    | skip
      refine aw_region ?_
      refine ops_op rfl rfl (runs_none rfl) (mv_s (.inr rfl) rfl) ?_
      refine ops_nil ?_
      repeat (first | refine aw_seq ?_ | refine ath_n ?_ | refine aw_skip ?_ | refine abl_n ?_ | refine aw_block ?_)
      (refine aw_ret ?_; repeat (first | refine ath_r ?_ | refine abl_r ?_))
      exact post1 (.inr rfl) rfl (congrArg eB (by rw [HV, if_pos (by omega)]))
    | skip
  rw [if_neg (by omega)] at HV
  have hix : (s.st.map (eL eI))[0]? = some (eL eI (gti s.st 0)) := ix_map (by omega)
  all_goals refine aw_draw hmix ?_
  all_goals refine adraw_ex ?_
  all_goals (first | refine ex_free rfl rfl (runs_none rfl) (fun _ => (does_load_refw rfl ta24 ti24 rfl rfl)) ?_ | refine ex_look rfl rfl (runs_none rfl) (look_whole rfl ta24 ti24 rfl rfl rfl rfl rfl) ?_ | refine ex_free rfl rfl (runs_none rfl) (fun _ => (does_load_refs rfl ta24 ti24 rfl (Nat.le_of_ble_eq_true rfl))) ?_ | refine ex_look rfl rfl (runs_none rfl) (look_ptrs rfl ta24 ti24 rfl rfl rfl rfl (Nat.le_of_ble_eq_true rfl)) ?_)
  all_goals (first | refine ex_free rfl rfl (runs_none rfl) (fun _ => (does_fieldAddr_ptr rfl tf29_0 (by decide) rfl)) ?_ | refine ex_free rfl rfl (runs_none rfl) (fun _ => (does_fieldAddr_ref rfl tf29_0 (by decide) rfl)) ?_)
  all_goals (first | refine ex_free rfl rfl (runs_none rfl) (fun _ => (does_load_ref rfl ta26 rfl)) ?_ | refine ex_look rfl rfl (runs_none rfl) (look_ptr rfl ta26 rfl rfl rfl rfl rfl) ?_)
  all_goals (first | refine ex_free rfl rfl (runs_none rfl) (fun _ => (does_index_sl rfl ts26 ti25 rfl rfl rfl hix rfl)) ?_ | refine ex_free rfl rfl (runs_none rfl) (fun _ => (does_index_own rfl ts26 ti25 rfl rfl rfl hix)) ?_)
  all_goals (first | refine ex_free rfl rfl (runs_none rfl) (fun _ => (does_load_ref rfl ta25 rfl)) ?_ | refine ex_look rfl rfl (runs_none rfl) (look_ptr rfl ta25 rfl rfl rfl rfl rfl) ?_)
  all_goals (first | refine ex_free rfl rfl (runs_none rfl) (fun _ => (does_fieldAddr_ptr rfl tf29_0 (by decide) rfl)) ?_ | refine ex_free rfl rfl (runs_none rfl) (fun _ => (does_fieldAddr_ref rfl tf29_0 (by decide) rfl)) ?_)
  all_goals (first | refine ex_free rfl rfl (runs_none rfl) (fun _ => (does_load_ref rfl ta26 rfl)) ?_ | refine ex_look rfl rfl (runs_none rfl) (look_ptr rfl ta26 rfl rfl rfl rfl rfl) ?_)
  all_goals (first | refine ex_free rfl rfl (runs_none rfl) (fun _ => (does_len_map rfl ts26 rfl)) ?_ | refine ex_free rfl rfl (runs_none rfl) (fun _ => (does_len_sl rfl ts26 rfl)) ?_ | refine ex_free rfl rfl (runs_none rfl) (fun _ => (does_len_own rfl ts26 rfl)) ?_ | refine ex_free rfl rfl (runs_none rfl) (fun _ => (does_len_s rfl ts26 rfl)) ?_ | refine ex_free rfl rfl (runs_none rfl) (fun _ => (does_len_emp rfl ts26 rfl)) ?_)
  all_goals refine ex_free rfl rfl (runs_none rfl) (fun _ => (does_call rfl rfl (hx) (evc_cons rfl (evc_cons rfl (evc_cons rfl evc_nil))))) ?_
  all_goals (first | refine ex_free rfl rfl (runs_none rfl) (fun _ => (mv_tup (.inl rfl) rfl)) ?_ | refine ex_free rfl rfl (runs_none rfl) (fun _ => (mv_s (.inl rfl) rfl)) ?_)
  all_goals refine ex_free rfl rfl (runs_none rfl) (fun _ => (does_extract rfl rfl rfl)) ?_
  all_goals refine ex_free rfl rfl (runs_none rfl) (fun _ => (does_extract rfl rfl rfl)) ?_
  all_goals refine ex_eff rfl rfl (runs_none rfl) (does_alloc rfl ti29 rfl rfl) (fun _ h => app_other h) ?_
  all_goals refine ex_eff0 rfl (runs_none rfl) (does_store rfl ti29 rfl rfl rfl rfl rfl rfl (by decide) (by decide)) (fun _ h => set_other h) ?_
  all_goals refine ex_free rfl rfl (runs_none rfl) (fun _ => (mv_s (.inr rfl) rfl)) ?_
  all_goals refine ex_nil (by kernel_rfl) ?_
  all_goals (repeat (first | refine aw_seq ?_ | refine ath_n ?_ | refine aw_skip ?_ | refine abl_n ?_ | refine aw_block ?_))
  all_goals refine aw_region ?_
  all_goals refine ops_op rfl rfl (runs_none rfl) (mv_s (.inl rfl) rfl) ?_
  all_goals (first | refine ops_opP rfl rfl (runs_none rfl) (does_eql rfl rfl rfl) (fun h30 => ?_) (fun h30 => ?_) | refine ops_opB rfl rfl (runs_none rfl) (does_eql rfl rfl rfl) (fun h30 => ?_) (fun h30 => ?_))
  all_goals refine ops_op rfl rfl (runs_none rfl) (mv_s (.inl rfl) rfl) ?_
  all_goals (first | refine ops_op rfl rfl (runs_y rfl rfl rfl) (does_load_refw rfl ta29 ti29 rfl rfl) ?_ | refine ops_op rfl rfl (runs_y rfl rfl rfl) (does_load_whole rfl ta29 ti29 rfl rfl rfl rfl rfl) ?_ | refine ops_op rfl rfl (runs_y rfl rfl rfl) (does_load_refs rfl ta29 ti29 rfl (Nat.le_of_ble_eq_true rfl)) ?_ | refine ops_op rfl rfl (runs_y rfl rfl rfl) (does_load_ptrs rfl ta29 ti29 rfl rfl rfl rfl (Nat.le_of_ble_eq_true rfl)) ?_ | refine ops_skip rfl rfl (runs_nt rfl rfl rfl) ?_ | refine ops_skip rfl rfl (runs_nu rfl rfl rfl) ?_)
  all_goals (first | refine ops_op rfl rfl (runs_y rfl rfl rfl) (does_load_refw rfl ta29 ti29 rfl rfl) ?_ | refine ops_op rfl rfl (runs_y rfl rfl rfl) (does_load_whole rfl ta29 ti29 rfl rfl rfl rfl rfl) ?_ | refine ops_op rfl rfl (runs_y rfl rfl rfl) (does_load_refs rfl ta29 ti29 rfl (Nat.le_of_ble_eq_true rfl)) ?_ | refine ops_op rfl rfl (runs_y rfl rfl rfl) (does_load_ptrs rfl ta29 ti29 rfl rfl rfl rfl (Nat.le_of_ble_eq_true rfl)) ?_ | refine ops_skip rfl rfl (runs_nt rfl rfl rfl) ?_ | refine ops_skip rfl rfl (runs_nu rfl rfl rfl) ?_)
  all_goals (first | refine ops_op rfl rfl (runs_y rfl rfl rfl) (does_call rfl rfl (hq) (evc_cons rfl (evc_cons rfl evc_nil))) ?_ | refine ops_skip rfl rfl (runs_nt rfl rfl rfl) ?_ | refine ops_skip rfl rfl (runs_nu rfl rfl rfl) ?_)
  all_goals (first | refine ops_op rfl rfl (runs_none rfl) (pickT_s rfl rfl rfl) ?_ | refine ops_op rfl rfl (runs_none rfl) (pickF_s rfl rfl rfl) ?_ | refine ops_op rfl rfl (runs_none rfl) (does_pickT rfl rfl rfl) ?_ | refine ops_op rfl rfl (runs_none rfl) (does_pickF rfl rfl rfl) ?_)
  all_goals refine ops_op rfl rfl (runs_none rfl) (mv_s (.inr rfl) rfl) ?_
  all_goals refine ops_nil ?_
  all_goals (repeat (first | refine aw_seq ?_ | refine ath_n ?_ | refine aw_skip ?_ | refine abl_n ?_ | refine aw_block ?_))
  all_goals (refine aw_ret ?_; repeat (first | refine ath_r ?_ | refine abl_r ?_))
  all_goals first
    | exact post1 (.inr rfl) rfl (congrArg eB (by rw [HV, h30]; rfl))
    | exact post1 (.inr rfl) rfl (congrArg eB (by rw [HV, decide_eq_false h30]; rfl))
set_option maxHeartbeats 1000000 in
theorem validSp_pf (n : Net) (s : Spc) : Pure P 13 [eN n, eSpc s] (eB (validSp n s)) := by
  have hx := explore_pf (P := P) n (gti s.st 0) s.st.length
  have HV : validSp n s = if s.st.length < 1 ∨ 2000 < s.st.length then false else decide ((explE n (gti s.st 0) s.st.length).2 = 0) && sameSp (explE n (gti s.st 0) s.st.length).1 s := rfl
  generalize explE n (gti s.st 0) s.st.length = r at hx HV
  generalize validSp n s = V at HV ⊢
  have hq1 := eqMv_pf (P := P) r.1.mv s.mv
  have hq2 := eqII_pf (P := P) r.1.st s.st
  refine aw_fn (by rw [IsP.eq (P := P)]; exact Try.func13) rfl rfl rfl rfl rfl (lo_cons (lo_N n) (lo_cons (lo_Spc s) lo_nil)) (.s _) (by simp only [argF]; rfl) ?_
  repeat (first | refine aw_seq ?_ | refine ath_n ?_ | refine aw_skip ?_ | refine abl_n ?_ | refine aw_block ?_)
  refine aw_region ?_
  refine ops_op rfl rfl (runs_none rfl) (does_box rfl rfl rfl rfl) ?_
  refine aops_weak (wk_froz (id := 0) rfl) (aops_weak (wk_ref (d := 2) rfl rfl rfl) ?_)
  refine ops_op rfl rfl (runs_none rfl) (does_box rfl rfl rfl rfl) ?_
  refine aops_weak (wk_froz (id := 1) rfl) (aops_weak (wk_ref (d := 3) rfl rfl rfl) ?_)
  refine ops_op rfl rfl (runs_none rfl) (mv_s (.inr rfl) rfl) ?_
  refine ops_nil ?_
  repeat (first | refine aw_seq ?_ | refine ath_n ?_ | refine aw_skip ?_ | refine abl_n ?_ | refine aw_block ?_)
  all_goals refine aw_region ?_
  all_goals (first | refine ops_op rfl rfl (runs_none rfl) (does_fieldAddr_ptr rfl tf29_0 (by decide) rfl) ?_ | refine ops_op rfl rfl (runs_none rfl) (does_fieldAddr_ref rfl tf29_0 (by decide) rfl) ?_)
  all_goals (first | refine ops_op rfl rfl (runs_none rfl) (does_load_ref rfl ta26 rfl) ?_ | refine ops_op rfl rfl (runs_none rfl) (does_load_ptr rfl ta26 rfl rfl rfl rfl rfl) ?_)
  all_goals (first | refine ops_op rfl rfl (runs_none rfl) (does_len_map rfl ts26 rfl) ?_ | refine ops_op rfl rfl (runs_none rfl) (does_len_sl rfl ts26 rfl) ?_ | refine ops_op rfl rfl (runs_none rfl) (does_len_own rfl ts26 rfl) ?_ | refine ops_op rfl rfl (runs_none rfl) (does_len_s rfl ts26 rfl) ?_ | refine ops_op rfl rfl (runs_none rfl) (does_len_emp rfl ts26 rfl) ?_)
  all_goals (first | refine ops_opP rfl rfl (runs_none rfl) (does_eql rfl rfl rfl) (fun h10 => ?_) (fun h10 => ?_) | refine ops_opB rfl rfl (runs_none rfl) (does_eql rfl rfl rfl) (fun h10 => ?_) (fun h10 => ?_))
  all_goals refine ops_op rfl rfl (runs_none rfl) (mv_s (.inl rfl) rfl) ?_
  all_goals (first | refine ops_op rfl rfl (runs_y rfl rfl rfl) (does_fieldAddr_ptr rfl tf29_0 (by decide) rfl) ?_ | refine ops_op rfl rfl (runs_y rfl rfl rfl) (does_fieldAddr_ref rfl tf29_0 (by decide) rfl) ?_ | refine ops_skip rfl rfl (runs_nf rfl rfl rfl) ?_ | refine ops_skip rfl rfl (runs_nu rfl rfl rfl) ?_)
  all_goals (first | refine ops_op rfl rfl (runs_y rfl rfl rfl) (does_load_ref rfl ta26 rfl) ?_ | refine ops_op rfl rfl (runs_y rfl rfl rfl) (does_load_ptr rfl ta26 rfl rfl rfl rfl rfl) ?_ | refine ops_skip rfl rfl (runs_nf rfl rfl rfl) ?_ | refine ops_skip rfl rfl (runs_nu rfl rfl rfl) ?_)
  all_goals (first | refine ops_op rfl rfl (runs_y rfl rfl rfl) (does_len_map rfl ts26 rfl) ?_ | refine ops_op rfl rfl (runs_y rfl rfl rfl) (does_len_sl rfl ts26 rfl) ?_ | refine ops_op rfl rfl (runs_y rfl rfl rfl) (does_len_own rfl ts26 rfl) ?_ | refine ops_op rfl rfl (runs_y rfl rfl rfl) (does_len_s rfl ts26 rfl) ?_ | refine ops_op rfl rfl (runs_y rfl rfl rfl) (does_len_emp rfl ts26 rfl) ?_ | refine ops_skip rfl rfl (runs_nf rfl rfl rfl) ?_ | refine ops_skip rfl rfl (runs_nu rfl rfl rfl) ?_)
  all_goals (first | refine ops_opP rfl rfl (runs_y rfl rfl rfl) (does_gtr rfl rfl rfl) (fun h15 => ?_) (fun h15 => ?_) | refine ops_opB rfl rfl (runs_y rfl rfl rfl) (does_gtr rfl rfl rfl) (fun h15 => ?_) (fun h15 => ?_) | refine ops_skip rfl rfl (runs_nf rfl rfl rfl) ?_ | refine ops_skip rfl rfl (runs_nu rfl rfl rfl) ?_)
  all_goals (first | refine ops_op rfl rfl (runs_none rfl) (pickT_s rfl rfl rfl) ?_ | refine ops_op rfl rfl (runs_none rfl) (pickF_s rfl rfl rfl) ?_ | refine ops_op rfl rfl (runs_none rfl) (does_pickT rfl rfl rfl) ?_ | refine ops_op rfl rfl (runs_none rfl) (does_pickF rfl rfl rfl) ?_)
  all_goals refine ops_nil ?_
  all_goals (repeat (first | refine aw_seq ?_ | refine ath_n ?_ | refine aw_skip ?_ | refine abl_n ?_ | refine aw_block ?_))
  all_goals (first | refine aw_true rfl ?_ | refine aw_false rfl ?_)
  all_goals (repeat (first | refine aw_seq ?_ | refine ath_n ?_ | refine aw_skip ?_ | refine abl_n ?_ | refine aw_block ?_))
  all_goals first
    | skip
      refine aw_region ?_
      refine ops_op rfl rfl (runs_none rfl) (mv_s (.inr rfl) rfl) ?_
      refine ops_nil ?_
      repeat (first | refine aw_seq ?_ | refine ath_n ?_ | refine aw_skip ?_ | refine abl_n ?_ | refine aw_block ?_)
      (refine aw_ret ?_; repeat (first | refine ath_r ?_ | refine abl_r ?_))
      exact post1 (.inr rfl) rfl (congrArg eB (by rw [HV, if_pos (by omega)]))
    | skip
  rw [if_neg (by omega)] at HV
  have hix : (s.st.map (eL eI))[0]? = some (eL eI (gti s.st 0)) := ix_map (by omega)
  all_goals refine aw_draw hmix ?_
  all_goals refine adraw_ex ?_
  all_goals (first | refine ex_free rfl rfl (runs_none rfl) (fun _ => (does_load_refw rfl ta24 ti24 rfl rfl)) ?_ | refine ex_look rfl rfl (runs_none rfl) (look_whole rfl ta24 ti24 rfl rfl rfl rfl rfl) ?_ | refine ex_free rfl rfl (runs_none rfl) (fun _ => (does_load_refs rfl ta24 ti24 rfl (Nat.le_of_ble_eq_true rfl))) ?_ | refine ex_look rfl rfl (runs_none rfl) (look_ptrs rfl ta24 ti24 rfl rfl rfl rfl (Nat.le_of_ble_eq_true rfl)) ?_)
  all_goals (first | refine ex_free rfl rfl (runs_none rfl) (fun _ => (does_fieldAddr_ptr rfl tf29_0 (by decide) rfl)) ?_ | refine ex_free rfl rfl (runs_none rfl) (fun _ => (does_fieldAddr_ref rfl tf29_0 (by decide) rfl)) ?_)
  all_goals (first | refine ex_free rfl rfl (runs_none rfl) (fun _ => (does_load_ref rfl ta26 rfl)) ?_ | refine ex_look rfl rfl (runs_none rfl) (look_ptr rfl ta26 rfl rfl rfl rfl rfl) ?_)
  all_goals (first | refine ex_free rfl rfl (runs_none rfl) (fun _ => (does_index_sl rfl ts26 ti25 rfl rfl rfl hix rfl)) ?_ | refine ex_free rfl rfl (runs_none rfl) (fun _ => (does_index_own rfl ts26 ti25 rfl rfl rfl hix)) ?_)
  all_goals (first | refine ex_free rfl rfl (runs_none rfl) (fun _ => (does_load_ref rfl ta25 rfl)) ?_ | refine ex_look rfl rfl (runs_none rfl) (look_ptr rfl ta25 rfl rfl rfl rfl rfl) ?_)
  all_goals (first | refine ex_free rfl rfl (runs_none rfl) (fun _ => (does_fieldAddr_ptr rfl tf29_0 (by decide) rfl)) ?_ | refine ex_free rfl rfl (runs_none rfl) (fun _ => (does_fieldAddr_ref rfl tf29_0 (by decide) rfl)) ?_)
  all_goals (first | refine ex_free rfl rfl (runs_none rfl) (fun _ => (does_load_ref rfl ta26 rfl)) ?_ | refine ex_look rfl rfl (runs_none rfl) (look_ptr rfl ta26 rfl rfl rfl rfl rfl) ?_)
  all_goals (first | refine ex_free rfl rfl (runs_none rfl) (fun _ => (does_len_map rfl ts26 rfl)) ?_ | refine ex_free rfl rfl (runs_none rfl) (fun _ => (does_len_sl rfl ts26 rfl)) ?_ | refine ex_free rfl rfl (runs_none rfl) (fun _ => (does_len_own rfl ts26 rfl)) ?_ | refine ex_free rfl rfl (runs_none rfl) (fun _ => (does_len_s rfl ts26 rfl)) ?_ | refine ex_free rfl rfl (runs_none rfl) (fun _ => (does_len_emp rfl ts26 rfl)) ?_)
  all_goals refine ex_free rfl rfl (runs_none rfl) (fun _ => (does_call rfl rfl (hx) (evc_cons rfl (evc_cons rfl (evc_cons rfl evc_nil))))) ?_
  all_goals (first | refine ex_free rfl rfl (runs_none rfl) (fun _ => (mv_tup (.inl rfl) rfl)) ?_ | refine ex_free rfl rfl (runs_none rfl) (fun _ => (mv_s (.inl rfl) rfl)) ?_)
  all_goals refine ex_free rfl rfl (runs_none rfl) (fun _ => (does_extract rfl rfl rfl)) ?_
  all_goals refine ex_free rfl rfl (runs_none rfl) (fun _ => (does_extract rfl rfl rfl)) ?_
  all_goals refine ex_eff rfl rfl (runs_none rfl) (does_alloc rfl ti29 rfl rfl) (fun _ h => app_other h) ?_
  all_goals refine ex_eff0 rfl (runs_none rfl) (does_store rfl ti29 rfl rfl rfl rfl rfl rfl (by decide) (by decide)) (fun _ h => set_other h) ?_
  all_goals refine ex_free rfl rfl (runs_none rfl) (fun _ => (mv_s (.inr rfl) rfl)) ?_
  all_goals refine ex_nil (by kernel_rfl) ?_
  all_goals (repeat (first | refine aw_seq ?_ | refine ath_n ?_ | refine aw_skip ?_ | refine abl_n ?_ | refine aw_block ?_))
  unfold sameSp at HV
  all_goals refine aw_region ?_
  all_goals refine ops_op rfl rfl (runs_none rfl) (mv_s (.inl rfl) rfl) ?_
  all_goals (first | refine ops_opP rfl rfl (runs_none rfl) (does_eql rfl rfl rfl) (fun h30 => ?_) (fun h30 => ?_) | refine ops_opB rfl rfl (runs_none rfl) (does_eql rfl rfl rfl) (fun h30 => ?_) (fun h30 => ?_))
  all_goals refine ops_op rfl rfl (runs_none rfl) (mv_s (.inl rfl) rfl) ?_
  all_goals (first | refine ops_op rfl rfl (runs_y rfl rfl rfl) (does_fieldAddr_ptr rfl tf29_2 (by decide) rfl) ?_ | refine ops_op rfl rfl (runs_y rfl rfl rfl) (does_fieldAddr_ref rfl tf29_2 (by decide) rfl) ?_ | refine ops_skip rfl rfl (runs_nt rfl rfl rfl) ?_ | refine ops_skip rfl rfl (runs_nu rfl rfl rfl) ?_)
  all_goals (first | refine ops_op rfl rfl (runs_y rfl rfl rfl) (does_load_ref rfl ta4 rfl) ?_ | refine ops_op rfl rfl (runs_y rfl rfl rfl) (does_load_ptr rfl ta4 rfl rfl rfl rfl rfl) ?_ | refine ops_skip rfl rfl (runs_nt rfl rfl rfl) ?_ | refine ops_skip rfl rfl (runs_nu rfl rfl rfl) ?_)
  all_goals (first | refine ops_op rfl rfl (runs_y rfl rfl rfl) (does_fieldAddr_ptr rfl tf29_2 (by decide) rfl) ?_ | refine ops_op rfl rfl (runs_y rfl rfl rfl) (does_fieldAddr_ref rfl tf29_2 (by decide) rfl) ?_ | refine ops_skip rfl rfl (runs_nt rfl rfl rfl) ?_ | refine ops_skip rfl rfl (runs_nu rfl rfl rfl) ?_)
  all_goals (first | refine ops_op rfl rfl (runs_y rfl rfl rfl) (does_load_ref rfl ta4 rfl) ?_ | refine ops_op rfl rfl (runs_y rfl rfl rfl) (does_load_ptr rfl ta4 rfl rfl rfl rfl rfl) ?_ | refine ops_skip rfl rfl (runs_nt rfl rfl rfl) ?_ | refine ops_skip rfl rfl (runs_nu rfl rfl rfl) ?_)
  all_goals (first | refine ops_opP rfl rfl (runs_y rfl rfl rfl) (does_eqlb (by rw [IsP.eq (P := P)]; kernel_rfl) rfl rfl rfl) (fun h36 => ?_) (fun h36 => ?_) | refine ops_opB rfl rfl (runs_y rfl rfl rfl) (does_eqlb (by rw [IsP.eq (P := P)]; kernel_rfl) rfl rfl rfl) (fun h36 => ?_) (fun h36 => ?_) | refine ops_skip rfl rfl (runs_nt rfl rfl rfl) ?_ | refine ops_skip rfl rfl (runs_nu rfl rfl rfl) ?_)
  all_goals (first | refine ops_op rfl rfl (runs_none rfl) (pickT_s rfl rfl rfl) ?_ | refine ops_op rfl rfl (runs_none rfl) (pickF_s rfl rfl rfl) ?_ | refine ops_op rfl rfl (runs_none rfl) (does_pickT rfl rfl rfl) ?_ | refine ops_op rfl rfl (runs_none rfl) (does_pickF rfl rfl rfl) ?_)
  all_goals refine ops_op rfl rfl (runs_none rfl) (mv_s (.inl rfl) rfl) ?_
  all_goals (first | refine ops_op rfl rfl (runs_y rfl rfl rfl) (does_fieldAddr_ptr rfl tf29_1 (by decide) rfl) ?_ | refine ops_op rfl rfl (runs_y rfl rfl rfl) (does_fieldAddr_ref rfl tf29_1 (by decide) rfl) ?_ | refine ops_skip rfl rfl (runs_nt rfl rfl rfl) ?_ | refine ops_skip rfl rfl (runs_nu rfl rfl rfl) ?_)
  all_goals (first | refine ops_op rfl rfl (runs_y rfl rfl rfl) (does_load_ref rfl ta27 rfl) ?_ | refine ops_op rfl rfl (runs_y rfl rfl rfl) (does_load_ptr rfl ta27 rfl rfl rfl rfl rfl) ?_ | refine ops_skip rfl rfl (runs_nt rfl rfl rfl) ?_ | refine ops_skip rfl rfl (runs_nu rfl rfl rfl) ?_)
  all_goals (first | refine ops_op rfl rfl (runs_y rfl rfl rfl) (does_fieldAddr_ptr rfl tf29_1 (by decide) rfl) ?_ | refine ops_op rfl rfl (runs_y rfl rfl rfl) (does_fieldAddr_ref rfl tf29_1 (by decide) rfl) ?_ | refine ops_skip rfl rfl (runs_nt rfl rfl rfl) ?_ | refine ops_skip rfl rfl (runs_nu rfl rfl rfl) ?_)
  all_goals (first | refine ops_op rfl rfl (runs_y rfl rfl rfl) (does_load_ref rfl ta27 rfl) ?_ | refine ops_op rfl rfl (runs_y rfl rfl rfl) (does_load_ptr rfl ta27 rfl rfl rfl rfl rfl) ?_ | refine ops_skip rfl rfl (runs_nt rfl rfl rfl) ?_ | refine ops_skip rfl rfl (runs_nu rfl rfl rfl) ?_)
  all_goals (first | refine ops_opP rfl rfl (runs_y rfl rfl rfl) (does_call rfl rfl (hq1) (evc_cons rfl (evc_cons rfl evc_nil))) (fun h43 => ?_) (fun h43 => ?_) | refine ops_opB rfl rfl (runs_y rfl rfl rfl) (does_call rfl rfl (hq1) (evc_cons rfl (evc_cons rfl evc_nil))) (fun h43 => ?_) (fun h43 => ?_) | refine ops_skip rfl rfl (runs_nt rfl rfl rfl) ?_ | refine ops_skip rfl rfl (runs_nu rfl rfl rfl) ?_)
  all_goals (first | refine ops_op rfl rfl (runs_none rfl) (pickT_s rfl rfl rfl) ?_ | refine ops_op rfl rfl (runs_none rfl) (pickF_s rfl rfl rfl) ?_ | refine ops_op rfl rfl (runs_none rfl) (does_pickT rfl rfl rfl) ?_ | refine ops_op rfl rfl (runs_none rfl) (does_pickF rfl rfl rfl) ?_)
  all_goals refine ops_op rfl rfl (runs_none rfl) (mv_s (.inl rfl) rfl) ?_
  all_goals (first | refine ops_op rfl rfl (runs_y rfl rfl rfl) (does_fieldAddr_ptr rfl tf29_0 (by decide) rfl) ?_ | refine ops_op rfl rfl (runs_y rfl rfl rfl) (does_fieldAddr_ref rfl tf29_0 (by decide) rfl) ?_ | refine ops_skip rfl rfl (runs_nt rfl rfl rfl) ?_ | refine ops_skip rfl rfl (runs_nu rfl rfl rfl) ?_)
  all_goals (first | refine ops_op rfl rfl (runs_y rfl rfl rfl) (does_load_ref rfl ta26 rfl) ?_ | refine ops_op rfl rfl (runs_y rfl rfl rfl) (does_load_ptr rfl ta26 rfl rfl rfl rfl rfl) ?_ | refine ops_skip rfl rfl (runs_nt rfl rfl rfl) ?_ | refine ops_skip rfl rfl (runs_nu rfl rfl rfl) ?_)
  all_goals (first | refine ops_op rfl rfl (runs_y rfl rfl rfl) (does_fieldAddr_ptr rfl tf29_0 (by decide) rfl) ?_ | refine ops_op rfl rfl (runs_y rfl rfl rfl) (does_fieldAddr_ref rfl tf29_0 (by decide) rfl) ?_ | refine ops_skip rfl rfl (runs_nt rfl rfl rfl) ?_ | refine ops_skip rfl rfl (runs_nu rfl rfl rfl) ?_)
  all_goals (first | refine ops_op rfl rfl (runs_y rfl rfl rfl) (does_load_ref rfl ta26 rfl) ?_ | refine ops_op rfl rfl (runs_y rfl rfl rfl) (does_load_ptr rfl ta26 rfl rfl rfl rfl rfl) ?_ | refine ops_skip rfl rfl (runs_nt rfl rfl rfl) ?_ | refine ops_skip rfl rfl (runs_nu rfl rfl rfl) ?_)
  all_goals (first | refine ops_op rfl rfl (runs_y rfl rfl rfl) (does_call rfl rfl (hq2) (evc_cons rfl (evc_cons rfl (evc_cons rfl evc_nil)))) ?_ | refine ops_skip rfl rfl (runs_nt rfl rfl rfl) ?_ | refine ops_skip rfl rfl (runs_nu rfl rfl rfl) ?_)
  all_goals (first | refine ops_op rfl rfl (runs_none rfl) (pickT_s rfl rfl rfl) ?_ | refine ops_op rfl rfl (runs_none rfl) (pickF_s rfl rfl rfl) ?_ | refine ops_op rfl rfl (runs_none rfl) (does_pickT rfl rfl rfl) ?_ | refine ops_op rfl rfl (runs_none rfl) (does_pickF rfl rfl rfl) ?_)
  all_goals refine ops_op rfl rfl (runs_none rfl) (mv_s (.inr rfl) rfl) ?_
  all_goals refine ops_nil ?_
  all_goals (repeat (first | refine aw_seq ?_ | refine ath_n ?_ | refine aw_skip ?_ | refine abl_n ?_ | refine aw_block ?_))
  all_goals (refine aw_ret ?_; repeat (first | refine ath_r ?_ | refine abl_r ?_))
  all_goals exact post1 (.inr rfl) rfl (congrArg eB (by rw [HV]; simp_all))
end Go.Proofs.Ythdpacbjbdkemaa.Aw
end
section
namespace Go.Proofs.Ythdpacbjbdkemaa.Aw
set_option linter.unusedSimpArgs false
set_option linter.unusedVariables false
set_option linter.unusedSectionVars false
open Go Go.RowKit Go.Proofs
variable {P : Program} [IsP P]

theorem rowS_SI {n : Net} {most : Int} {i : Nat} {x : List Int} (hx : markB n x = true) : ∀ (on : List Int) (s s' : Spc), SI n most s → rowS n most i x on s = some s' → SI n most s' ∧ s.st.length ≤ s'.st.length
  | [], s, s', hs, h => by simp only [rowS, Option.some.injEq] at h; subst h; exact ⟨hs, Nat.le_refl _⟩
  | t :: ts, s, s', hs, h => by
    simp only [rowS] at h
    cases e : stepS most i s (FireE n x t) t with
    | none => rw [e] at h; cases h
    | some s1 =>
      rw [e] at h
      obtain ⟨g1, g2⟩ := rowS_SI hx ts s1 s' (hs.step hx e) h
      refine ⟨g1, Nat.le_trans ?_ g2⟩
      unfold stepS at e
      split at e
      · cases e; exact Nat.le_refl _
      · split at e
        · cases e
        · cases e
          dsimp only
          split
          · simp
          · exact Nat.le_refl _
theorem expS_SI {n : Net} {most : Int} : ∀ (f i : Nat) (s s' : Spc), SI n most s → expS n most f i s = some s' → SI n most s'
  | 0, i, s, s', hs, h => by simp only [expS, Option.some.injEq] at h; subst h; exact hs
  | f + 1, i, s, s', hs, h => by
    unfold expS at h
    split at h
    · rename_i hi
      cases e : rowS n most i (gti s.st i) (enabledL (gti s.st i) 0 n.trans) s with
      | none => rw [e] at h; cases h
      | some s1 =>
        rw [e] at h
        exact expS_SI f (i + 1) s1 s' (rowS_SI (hs.gti hi) _ s s1 hs e).1 h
    · simp only [Option.some.injEq] at h; subst h; exact hs
theorem explE_SI {n : Net} {m : List Int} {most : Int} (h : (explE n m most).2 = 0) : markB n m = true ∧ most ≤ 2000 ∧ SI n most (explE n m most).1 := by
  unfold explE at h ⊢
  split at h
  · rename_i h1
    rw [if_pos h1]
    split at h
    · simp at h
    · rename_i h2
      rw [if_neg h2]
      cases e : expS n most (most.toNat + 1) 0 ⟨[m], [], true⟩ with
      | none => rw [e] at h; simp [explR] at h
      | some s => exact ⟨h1, by omega, expS_SI _ _ _ _ (SI.init h1 (by omega)) e⟩
  · simp at h
theorem validSp_SI {n : Net} {s : Spc} (h : validSp n s = true) : validB n = true ∧ (∀ x ∈ s.st, markB n x = true) ∧ s.st.length ≤ 2000 ∧ s.mv.length ≤ 20000 := by
  unfold validSp at h
  split at h
  · cases h
  · simp only [Bool.and_eq_true, decide_eq_true_eq] at h
    obtain ⟨h1, h2⟩ := h
    obtain ⟨g1, g2, g3⟩ := explE_SI h1
    rw [sameSp_iff.1 h2] at g3
    have := g3.le
    exact ⟨by unfold markB at g1; simp only [Bool.and_eq_true] at g1; exact g1.1, g3.marks, by omega, g3.mvs⟩
/-! ## deadlocks -/
def deadP (n : Net) (S : List (List Int)) : Nat → List Int
  | 0 => []
  | k + 1 => deadP n S k ++ if (enabledL (gti S k) 0 n.trans).length = 0 then [(k : Int)] else []
theorem deadP_len (n : Net) (S : List (List Int)) : ∀ k, (deadP n S k).length ≤ k
  | 0 => by simp [deadP]
  | k + 1 => by
    have := deadP_len n S k
    simp only [deadP, List.length_append]
    split <;> simp <;> omega
def deadE (n : Net) (s : Spc) : List Int × Int := if validSp n s = true then (deadP n s.st s.st.length, 0) else ([], 1)
def eLE (r : List Int × Int) : AV := .tup [eL eI r.1, eI r.2]
theorem post_le {N : Nat} {F : Frm} {σ : List Ob} {t u : Nat} {r : List Int × Int} {x : AV} {l : List Int} {m : Int} {e : Exit} (he : e = .normal ∨ e = .ret) (h : F.get t = x) (h' : F.get u = eI m) (hf : Fini σ x (eL eI l)) (hr : r = (l, m)) : APost P [.tmp t, .tmp u] (eLE r) e F σ := by
  subst hr
  exact post2 he h h' hf (.refl _)
set_option maxHeartbeats 1000000 in
theorem deadlocks_pf (n : Net) (s : Spc) : Pure P 15 [eN n, eSpc s] (eLE (deadE n s)) := by
  have hv := validSp_pf (P := P) n s
  have hSI := validSp_SI (n := n) (s := s)
  have HI : deadE n s = if validSp n s = true then (deadP n s.st s.st.length, 0) else ([], 1) := rfl
  generalize deadE n s = R at HI ⊢
  generalize validSp n s = z at hv hSI HI
  have hln : Lo 0 (.ref (eN n).cells) := .ref _ (lo_N n).cells
  refine aw_fn (by rw [IsP.eq (P := P)]; exact Try.func15) rfl rfl rfl rfl rfl (lo_cons (lo_N n) (lo_cons (lo_Spc s) lo_nil)) (.tup _ (lo_cons lo_I (lo_cons (.s _) lo_nil))) (by simp only [argF]; rfl) ?_
  repeat (first | refine aw_seq ?_ | refine ath_n ?_ | refine aw_skip ?_ | refine abl_n ?_ | refine aw_block ?_)
  refine aw_region ?_
  refine ops_op rfl rfl (runs_none rfl) (does_box rfl rfl rfl rfl) ?_
  refine aops_weak (wk_froz (id := 0) rfl) (aops_weak (wk_ref (d := 2) rfl rfl rfl) ?_)
  refine ops_op rfl rfl (runs_none rfl) (does_box rfl rfl rfl rfl) ?_
  refine aops_weak (wk_froz (id := 1) rfl) (aops_weak (wk_ref (d := 3) rfl rfl rfl) ?_)
  first | refine ops_op rfl rfl (runs_none rfl) (mv_own (.inr rfl) rfl) ?_ | refine ops_op rfl rfl (runs_none rfl) (mv_sl (.inr rfl) rfl) ?_ | refine ops_op rfl rfl (runs_none rfl) (mv_s (.inr rfl) rfl) ?_ | refine ops_op rfl rfl (runs_none rfl) (mv_emp (.inr rfl) rfl) ?_
  refine ops_op rfl rfl (runs_none rfl) (mv_s (.inr rfl) rfl) ?_
  refine ops_nil ?_
  repeat (first | refine aw_seq ?_ | refine ath_n ?_ | refine aw_skip ?_ | refine abl_n ?_ | refine aw_block ?_)
  all_goals refine aw_region ?_
  all_goals (first | refine ops_op rfl rfl (runs_none rfl) (does_load_refw rfl ta24 ti24 rfl rfl) ?_ | refine ops_op rfl rfl (runs_none rfl) (does_load_whole rfl ta24 ti24 rfl rfl rfl rfl rfl) ?_ | refine ops_op rfl rfl (runs_none rfl) (does_load_refs rfl ta24 ti24 rfl (Nat.le_of_ble_eq_true rfl)) ?_ | refine ops_op rfl rfl (runs_none rfl) (does_load_ptrs rfl ta24 ti24 rfl rfl rfl rfl (Nat.le_of_ble_eq_true rfl)) ?_)
  all_goals (first | refine ops_op rfl rfl (runs_none rfl) (does_load_refw rfl ta29 ti29 rfl rfl) ?_ | refine ops_op rfl rfl (runs_none rfl) (does_load_whole rfl ta29 ti29 rfl rfl rfl rfl rfl) ?_ | refine ops_op rfl rfl (runs_none rfl) (does_load_refs rfl ta29 ti29 rfl (Nat.le_of_ble_eq_true rfl)) ?_ | refine ops_op rfl rfl (runs_none rfl) (does_load_ptrs rfl ta29 ti29 rfl rfl rfl rfl (Nat.le_of_ble_eq_true rfl)) ?_)
  all_goals (first | refine ops_opP rfl rfl (runs_none rfl) (does_call rfl rfl (hv) (evc_cons rfl (evc_cons rfl evc_nil))) (fun h13 => ?_) (fun h13 => ?_) | refine ops_opB rfl rfl (runs_none rfl) (does_call rfl rfl (hv) (evc_cons rfl (evc_cons rfl evc_nil))) (fun h13 => ?_) (fun h13 => ?_))
  all_goals (first | refine ops_op rfl rfl (runs_none rfl) (does_notp rfl rfl) ?_ | refine ops_op rfl rfl (runs_none rfl) (does_not rfl rfl) ?_)
  all_goals refine ops_nil ?_
  all_goals (repeat (first | refine aw_seq ?_ | refine ath_n ?_ | refine aw_skip ?_ | refine abl_n ?_ | refine aw_block ?_))
  all_goals (first | refine aw_true rfl ?_ | refine aw_false rfl ?_)
  all_goals (repeat (first | refine aw_seq ?_ | refine ath_n ?_ | refine aw_skip ?_ | refine abl_n ?_ | refine aw_block ?_))
  rotate_left 1
  · skip
    refine aw_region ?_
    first | refine ops_op rfl rfl (runs_none rfl) (mv_own (.inr rfl) rfl) ?_ | refine ops_op rfl rfl (runs_none rfl) (mv_sl (.inr rfl) rfl) ?_ | refine ops_op rfl rfl (runs_none rfl) (mv_s (.inr rfl) rfl) ?_ | refine ops_op rfl rfl (runs_none rfl) (mv_emp (.inr rfl) rfl) ?_
    refine ops_op rfl rfl (runs_none rfl) (mv_s (.inr rfl) rfl) ?_
    refine ops_nil ?_
    repeat (first | refine aw_seq ?_ | refine ath_n ?_ | refine aw_skip ?_ | refine abl_n ?_ | refine aw_block ?_)
    (refine aw_ret ?_; repeat (first | refine ath_r ?_ | refine abl_r ?_))
    exact post_le (N := 0) (.inr rfl) rfl rfl .nil (by rw [HI, if_neg (by rw [h13]; simp)])
  obtain ⟨hvb, hmk, hsl, _⟩ := hSI h13
  rw [if_pos h13] at HI
  refine aw_region ?_
  first | refine ops_op rfl rfl (runs_none rfl) (mv_own (.inr rfl) rfl) ?_ | refine ops_op rfl rfl (runs_none rfl) (mv_sl (.inr rfl) rfl) ?_ | refine ops_op rfl rfl (runs_none rfl) (mv_s (.inr rfl) rfl) ?_ | refine ops_op rfl rfl (runs_none rfl) (mv_emp (.inr rfl) rfl) ?_
  refine ops_nil ?_
  repeat (first | refine aw_seq ?_ | refine ath_n ?_ | refine aw_skip ?_ | refine abl_n ?_ | refine aw_block ?_)
  refine aw_weak (wk_own (d := 6) 1 rfl (.inr rfl)) ?_
  refine aw_region ?_
  first | refine ops_op rfl rfl (runs_none rfl) (does_fieldAddr_ptr rfl tf29_0 (by decide) rfl) ?_ | refine ops_op rfl rfl (runs_none rfl) (does_fieldAddr_ref rfl tf29_0 (by decide) rfl) ?_
  first | refine ops_op rfl rfl (runs_none rfl) (does_load_ref rfl ta26 rfl) ?_ | refine ops_op rfl rfl (runs_none rfl) (does_load_ptr rfl ta26 rfl rfl rfl rfl rfl) ?_
  first | refine ops_op rfl rfl (runs_none rfl) (does_len_map rfl ts26 rfl) ?_ | refine ops_op rfl rfl (runs_none rfl) (does_len_sl rfl ts26 rfl) ?_ | refine ops_op rfl rfl (runs_none rfl) (does_len_own rfl ts26 rfl) ?_ | refine ops_op rfl rfl (runs_none rfl) (does_len_s rfl ts26 rfl) ?_ | refine ops_op rfl rfl (runs_none rfl) (does_len_emp rfl ts26 rfl) ?_
  refine ops_op rfl rfl (runs_none rfl) (mv_s (.inl rfl) rfl) ?_
  refine ops_nil ?_
  repeat (first | refine aw_seq ?_ | refine ath_n ?_ | refine aw_skip ?_ | refine abl_n ?_ | refine aw_block ?_)
  refine aw_loops (S := Nat) (fun k => [(2, .ref (eN n).cells), (6, .own 0 1 (deadP n s.st k).length), (16, eL (eL eI) s.st), (17, eI s.st.length), (18, eI k)]) (fun k => [.row 1 ((deadP n s.st k).map eI)]) (fun k => k ≤ s.st.length) (fun k => s.st.length - k) 0 (wk_st [2] (by decide) ⟨⟨_, rfl, .rowE (by simp [deadP]) rfl⟩, trivial⟩ ⟨.lo _ hln, .own 2 0 1 _ _ rfl rfl, .lo _ (lo_II _), .lo _ (by repeat' (first | exact Lo.s _ | exact Lo.emp | exact Lo.any | exact lo_nil | exact lo_nilE | refine lo_cons ?_ ?_ | refine lo_consE ?_ ?_ | refine lo_map ?_ | refine lo_mapE ?_ | refine Lo.cells ?_ | refine Lo.agg _ ?_ | refine Lo.ref _ ?_ | refine Lo.tup _ ?_ | refine Lo.fn _ _ ?_ | refine Lo.sl _ ?_ | intro _)), .lo _ (by repeat' (first | exact Lo.s _ | exact Lo.emp | exact Lo.any | exact lo_nil | exact lo_nilE | refine lo_cons ?_ ?_ | refine lo_consE ?_ ?_ | refine lo_map ?_ | refine lo_mapE ?_ | refine Lo.cells ?_ | refine Lo.agg _ ?_ | refine Lo.ref _ ?_ | refine Lo.tup _ ?_ | refine Lo.fn _ _ ?_ | refine Lo.sl _ ?_ | intro _)), trivial⟩) (Nat.zero_le _) (fun k hk => ?_)
  repeat (first | refine aw_seq ?_ | refine ath_n ?_ | refine aw_skip ?_ | refine abl_n ?_ | refine aw_block ?_)
  all_goals refine aw_region ?_
  all_goals (first | refine ops_opP rfl rfl (runs_none rfl) (does_lss rfl rfl rfl) (fun h19 => ?_) (fun h19 => ?_) | refine ops_opB rfl rfl (runs_none rfl) (does_lss rfl rfl rfl) (fun h19 => ?_) (fun h19 => ?_))
  all_goals refine ops_nil ?_
  all_goals (repeat (first | refine aw_seq ?_ | refine ath_n ?_ | refine aw_skip ?_ | refine abl_n ?_ | refine aw_block ?_))
  all_goals (first | refine aw_true rfl ?_ | refine aw_false rfl ?_)
  all_goals (repeat (first | refine aw_seq ?_ | refine ath_n ?_ | refine aw_skip ?_ | refine abl_n ?_ | refine aw_block ?_))
  · have hlt : k < s.st.length := by omega
    have hx0 := hmk _ (gti_mem hlt)
    have hix : (s.st.map (eL eI))[k]? = some (eL eI (gti s.st k)) := ix_map hlt
    have hen := enabled_pf (P := P) n (gti s.st k)
    have hoe : enabledE n (gti s.st k) = (enabledL (gti s.st k) 0 n.trans, 0) := by unfold enabledE; rw [if_pos hx0]
    rw [hoe] at hen
    have hd : deadP n s.st (k + 1) = deadP n s.st k ++ if (enabledL (gti s.st k) 0 n.trans).length = 0 then [(k : Int)] else [] := rfl
    have hdl := deadP_len n s.st k
    have hdm : ((deadP n s.st k).map eI).length = (deadP n s.st k).length := by simp
    generalize gti s.st k = x at hix hen hd
    generalize enabledL x 0 n.trans = on at hen hd
    replace hen : Pure P 23 [eN n, eL eI x] (.tup [eL eI on, eI 0]) := hen
    refine aw_region ?_
    refine ops_op rfl rfl (runs_none rfl) (mv_s (.inl rfl) rfl) ?_
    first | refine ops_op rfl rfl (runs_none rfl) (does_index_sl rfl ts26 ti25 rfl rfl rfl hix rfl) ?_ | refine ops_op rfl rfl (runs_none rfl) (does_index_own rfl ts26 ti25 rfl rfl rfl hix) ?_
    first | refine ops_op rfl rfl (runs_none rfl) (does_load_ref rfl ta25 rfl) ?_ | refine ops_op rfl rfl (runs_none rfl) (does_load_ptr rfl ta25 rfl rfl rfl rfl rfl) ?_
    refine ops_op rfl rfl (runs_none rfl) (mv_s (.inr rfl) rfl) ?_
    first | refine ops_op rfl rfl (runs_none rfl) (mv_own (.inr rfl) rfl) ?_ | refine ops_op rfl rfl (runs_none rfl) (mv_sl (.inr rfl) rfl) ?_ | refine ops_op rfl rfl (runs_none rfl) (mv_s (.inr rfl) rfl) ?_ | refine ops_op rfl rfl (runs_none rfl) (mv_emp (.inr rfl) rfl) ?_
    refine ops_nil ?_
    repeat (first | refine aw_seq ?_ | refine ath_n ?_ | refine aw_skip ?_ | refine abl_n ?_ | refine aw_block ?_)
    refine aw_region ?_
    first | refine ops_op rfl rfl (runs_none rfl) (does_load_refw rfl ta24 ti24 rfl rfl) ?_ | refine ops_op rfl rfl (runs_none rfl) (does_load_whole rfl ta24 ti24 rfl rfl rfl rfl rfl) ?_ | refine ops_op rfl rfl (runs_none rfl) (does_load_refs rfl ta24 ti24 rfl (Nat.le_of_ble_eq_true rfl)) ?_ | refine ops_op rfl rfl (runs_none rfl) (does_load_ptrs rfl ta24 ti24 rfl rfl rfl rfl (Nat.le_of_ble_eq_true rfl)) ?_
    first | refine ops_op rfl rfl (runs_none rfl) (mv_own (.inl rfl) rfl) ?_ | refine ops_op rfl rfl (runs_none rfl) (mv_sl (.inl rfl) rfl) ?_ | refine ops_op rfl rfl (runs_none rfl) (mv_s (.inl rfl) rfl) ?_ | refine ops_op rfl rfl (runs_none rfl) (mv_emp (.inl rfl) rfl) ?_
    refine ops_op rfl rfl (runs_none rfl) (does_call rfl rfl (hen) (evc_cons rfl (evc_cons rfl evc_nil))) ?_
    first | refine ops_op rfl rfl (runs_none rfl) (mv_tup (.inl rfl) rfl) ?_ | refine ops_op rfl rfl (runs_none rfl) (mv_s (.inl rfl) rfl) ?_
    refine ops_op rfl rfl (runs_none rfl) (does_extract rfl rfl rfl) ?_
    refine ops_op rfl rfl (runs_none rfl) (does_extract rfl rfl rfl) ?_
    first | refine ops_op rfl rfl (runs_none rfl) (mv_own (.inr rfl) rfl) ?_ | refine ops_op rfl rfl (runs_none rfl) (mv_sl (.inr rfl) rfl) ?_ | refine ops_op rfl rfl (runs_none rfl) (mv_s (.inr rfl) rfl) ?_ | refine ops_op rfl rfl (runs_none rfl) (mv_emp (.inr rfl) rfl) ?_
    refine ops_op rfl rfl (runs_none rfl) (mv_s (.inr rfl) rfl) ?_
    refine ops_nil ?_
    repeat (first | refine aw_seq ?_ | refine ath_n ?_ | refine aw_skip ?_ | refine abl_n ?_ | refine aw_block ?_)
    all_goals refine aw_region ?_
    all_goals refine ops_op rfl rfl (runs_none rfl) (mv_s (.inl rfl) rfl) ?_
    all_goals refine ops_op rfl rfl (runs_none rfl) (dec_t rfl (does_eql rfl rfl rfl)) ?_
    all_goals refine ops_op rfl rfl (runs_none rfl) (mv_s (.inl rfl) rfl) ?_
    all_goals (first | refine ops_op rfl rfl (runs_y rfl rfl rfl) (mv_own (.inl rfl) rfl) ?_ | refine ops_op rfl rfl (runs_y rfl rfl rfl) (mv_sl (.inl rfl) rfl) ?_ | refine ops_op rfl rfl (runs_y rfl rfl rfl) (mv_s (.inl rfl) rfl) ?_ | refine ops_op rfl rfl (runs_y rfl rfl rfl) (mv_emp (.inl rfl) rfl) ?_ | refine ops_skip rfl rfl (runs_nt rfl rfl rfl) ?_ | refine ops_skip rfl rfl (runs_nu rfl rfl rfl) ?_)
    all_goals (first | refine ops_op rfl rfl (runs_y rfl rfl rfl) (does_len_map rfl ts25 rfl) ?_ | refine ops_op rfl rfl (runs_y rfl rfl rfl) (does_len_sl rfl ts25 rfl) ?_ | refine ops_op rfl rfl (runs_y rfl rfl rfl) (does_len_own rfl ts25 rfl) ?_ | refine ops_op rfl rfl (runs_y rfl rfl rfl) (does_len_s rfl ts25 rfl) ?_ | refine ops_op rfl rfl (runs_y rfl rfl rfl) (does_len_emp rfl ts25 rfl) ?_ | refine ops_skip rfl rfl (runs_nt rfl rfl rfl) ?_ | refine ops_skip rfl rfl (runs_nu rfl rfl rfl) ?_)
    all_goals (first | refine ops_opP rfl rfl (runs_y rfl rfl rfl) (does_eql rfl rfl rfl) (fun h34 => ?_) (fun h34 => ?_) | refine ops_opB rfl rfl (runs_y rfl rfl rfl) (does_eql rfl rfl rfl) (fun h34 => ?_) (fun h34 => ?_) | refine ops_skip rfl rfl (runs_nt rfl rfl rfl) ?_ | refine ops_skip rfl rfl (runs_nu rfl rfl rfl) ?_)
    all_goals (first | refine ops_op rfl rfl (runs_none rfl) (pickT_s rfl rfl rfl) ?_ | refine ops_op rfl rfl (runs_none rfl) (pickF_s rfl rfl rfl) ?_ | refine ops_op rfl rfl (runs_none rfl) (does_pickT rfl rfl rfl) ?_ | refine ops_op rfl rfl (runs_none rfl) (does_pickF rfl rfl rfl) ?_)
    all_goals refine ops_nil ?_
    all_goals (repeat (first | refine aw_seq ?_ | refine ath_n ?_ | refine aw_skip ?_ | refine abl_n ?_ | refine aw_block ?_))
    all_goals (first | refine aw_true rfl ?_ | refine aw_false rfl ?_)
    all_goals (repeat (first | refine aw_seq ?_ | refine ath_n ?_ | refine aw_skip ?_ | refine abl_n ?_ | refine aw_block ?_))
    · rw [if_pos (by omega)] at hd
      refine aw_region ?_
      first | refine ops_op rfl rfl (runs_none rfl) (mv_own (.inl rfl) rfl) ?_ | refine ops_op rfl rfl (runs_none rfl) (mv_sl (.inl rfl) rfl) ?_ | refine ops_op rfl rfl (runs_none rfl) (mv_s (.inl rfl) rfl) ?_ | refine ops_op rfl rfl (runs_none rfl) (mv_emp (.inl rfl) rfl) ?_
      refine ops_op rfl rfl (runs_none rfl) (mv_s (.inl rfl) rfl) ?_
      first | refine ops_op rfl rfl (runs_none rfl) (lit1_sF rfl ts25 ti3 rfl rfl rfl rfl) ?_ | refine ops_op rfl rfl (runs_none rfl) (lit1_slF rfl ts25 ti3 rfl rfl rfl rfl (by repeat' (first | exact Lo.s _ | exact Lo.emp | exact Lo.any | exact lo_nil | exact lo_nilE | refine lo_cons ?_ ?_ | refine lo_consE ?_ ?_ | refine lo_map ?_ | refine lo_mapE ?_ | refine Lo.cells ?_ | refine Lo.agg _ ?_ | refine Lo.ref _ ?_ | refine Lo.tup _ ?_ | refine Lo.fn _ _ ?_ | refine Lo.sl _ ?_ | intro _))) ?_ | refine ops_op rfl rfl (runs_none rfl) (does_litAF rfl ts25 ti3 rfl rfl (by decide) (by decide) rfl rfl rfl (by repeat' (first | exact Lo.s _ | exact Lo.emp | exact Lo.any | exact lo_nil | exact lo_nilE | refine lo_cons ?_ ?_ | refine lo_consE ?_ ?_ | refine lo_map ?_ | refine lo_mapE ?_ | refine Lo.cells ?_ | refine Lo.agg _ ?_ | refine Lo.ref _ ?_ | refine Lo.tup _ ?_ | refine Lo.fn _ _ ?_ | refine Lo.sl _ ?_ | intro _))) ?_
      first | refine ops_op rfl rfl (runs_none rfl) (does_append rfl ts25 ti3 rfl (by decide) rfl rfl (by first | rfl | (simp; done) | (simp; omega)) rfl (by first | exact .own _ _ _ rfl rfl _ (by first | rfl | simp) | exact .emp | exact .nil | exact .sl _ (by first | simp; done | intro e he; simp at he; obtain ⟨_, _, rfl⟩ := he; rfl)) (by first | omega | (simp; omega) | (unfold maxLen; simp; omega)) (by first | omega | (simp; omega) | (unfold maxLen; simp; omega))) ?_ | refine ops_op rfl rfl (runs_none rfl) (does_append0 rfl ts25 ti3 rfl (by decide) rfl (.inl rfl) rfl (by first | exact .own _ _ _ rfl rfl _ (by first | rfl | simp) | exact .emp | exact .nil | exact .sl _ (by first | simp; done | intro e he; simp at he; obtain ⟨_, _, rfl⟩ := he; rfl)) (by first | omega | (simp; omega) | (unfold maxLen; simp; omega)) (by first | omega | (simp; omega) | (unfold maxLen; simp; omega))) ?_ | refine ops_op rfl rfl (runs_none rfl) (does_append0 rfl ts25 ti3 rfl (by decide) rfl (.inr rfl) rfl (by first | exact .own _ _ _ rfl rfl _ (by first | rfl | simp) | exact .emp | exact .nil | exact .sl _ (by first | simp; done | intro e he; simp at he; obtain ⟨_, _, rfl⟩ := he; rfl)) (by first | omega | (simp; omega) | (unfold maxLen; simp; omega)) (by first | omega | (simp; omega) | (unfold maxLen; simp; omega))) ?_
      first | refine ops_op rfl rfl (runs_none rfl) (mv_own (.inr rfl) rfl) ?_ | refine ops_op rfl rfl (runs_none rfl) (mv_sl (.inr rfl) rfl) ?_ | refine ops_op rfl rfl (runs_none rfl) (mv_s (.inr rfl) rfl) ?_ | refine ops_op rfl rfl (runs_none rfl) (mv_emp (.inr rfl) rfl) ?_
      refine ops_nil ?_
      repeat (first | refine aw_seq ?_ | refine ath_n ?_ | refine aw_skip ?_ | refine abl_n ?_ | refine aw_block ?_)
      refine aw_region ?_
      refine ops_op rfl rfl (runs_none rfl) (does_add rfl rfl rfl (IntWalk.i64_in _ (by omega))) ?_
      refine ops_op rfl rfl (runs_none rfl) (mv_s (.inl rfl) rfl) ?_
      refine ops_nil ?_
      repeat (first | refine aw_seq ?_ | refine ath_n ?_ | refine aw_skip ?_ | refine abl_n ?_ | refine aw_block ?_)
      exact ⟨k + 1, by omega, by omega, wk_st [1] (by decide) ⟨⟨_, rfl, .rowE (rowI_lo _) (by rw [hd, List.map_append]; rfl)⟩, trivial⟩ ⟨.lo _ hln, .own 1 0 1 _ _ rfl (by rw [hd]; simp), .lo _ (lo_II _), .lo _ (by repeat' (first | exact Lo.s _ | exact Lo.emp | exact Lo.any | exact lo_nil | exact lo_nilE | refine lo_cons ?_ ?_ | refine lo_consE ?_ ?_ | refine lo_map ?_ | refine lo_mapE ?_ | refine Lo.cells ?_ | refine Lo.agg _ ?_ | refine Lo.ref _ ?_ | refine Lo.tup _ ?_ | refine Lo.fn _ _ ?_ | refine Lo.sl _ ?_ | intro _)), .lo _ (by repeat' (first | exact Lo.s _ | exact Lo.emp | exact Lo.any | exact lo_nil | exact lo_nilE | refine lo_cons ?_ ?_ | refine lo_consE ?_ ?_ | refine lo_map ?_ | refine lo_mapE ?_ | refine Lo.cells ?_ | refine Lo.agg _ ?_ | refine Lo.ref _ ?_ | refine Lo.tup _ ?_ | refine Lo.fn _ _ ?_ | refine Lo.sl _ ?_ | intro _)), trivial⟩⟩
    · rw [if_neg (by omega), List.append_nil] at hd
      refine aw_region ?_
      refine ops_op rfl rfl (runs_none rfl) (does_add rfl rfl rfl (IntWalk.i64_in _ (by omega))) ?_
      refine ops_op rfl rfl (runs_none rfl) (mv_s (.inl rfl) rfl) ?_
      refine ops_nil ?_
      repeat (first | refine aw_seq ?_ | refine ath_n ?_ | refine aw_skip ?_ | refine abl_n ?_ | refine aw_block ?_)
      exact ⟨k + 1, by omega, by omega, wk_st [0] (by decide) ⟨⟨_, rfl, .rowE (rowI_lo _) (by rw [hd])⟩, trivial⟩ ⟨.lo _ hln, .own 0 0 1 _ _ rfl (by rw [hd]), .lo _ (lo_II _), .lo _ (by repeat' (first | exact Lo.s _ | exact Lo.emp | exact Lo.any | exact lo_nil | exact lo_nilE | refine lo_cons ?_ ?_ | refine lo_consE ?_ ?_ | refine lo_map ?_ | refine lo_mapE ?_ | refine Lo.cells ?_ | refine Lo.agg _ ?_ | refine Lo.ref _ ?_ | refine Lo.tup _ ?_ | refine Lo.fn _ _ ?_ | refine Lo.sl _ ?_ | intro _)), .lo _ (by repeat' (first | exact Lo.s _ | exact Lo.emp | exact Lo.any | exact lo_nil | exact lo_nilE | refine lo_cons ?_ ?_ | refine lo_consE ?_ ?_ | refine lo_map ?_ | refine lo_mapE ?_ | refine Lo.cells ?_ | refine Lo.agg _ ?_ | refine Lo.ref _ ?_ | refine Lo.tup _ ?_ | refine Lo.fn _ _ ?_ | refine Lo.sl _ ?_ | intro _)), trivial⟩⟩
  · have e : k = s.st.length := by omega
    subst e
    (refine aw_exit ?_; repeat (first | refine ath_x ?_ | refine abl_hit ?_ | refine abl_miss rfl ?_ | refine abl_n ?_ | refine ath_n ?_ | refine aw_seq ?_ | refine aw_skip ?_ | refine aw_block ?_))
    refine aw_region ?_
    first | refine ops_op rfl rfl (runs_none rfl) (mv_own (.inl rfl) rfl) ?_ | refine ops_op rfl rfl (runs_none rfl) (mv_sl (.inl rfl) rfl) ?_ | refine ops_op rfl rfl (runs_none rfl) (mv_s (.inl rfl) rfl) ?_ | refine ops_op rfl rfl (runs_none rfl) (mv_emp (.inl rfl) rfl) ?_
    first | refine ops_op rfl rfl (runs_none rfl) (mv_own (.inr rfl) rfl) ?_ | refine ops_op rfl rfl (runs_none rfl) (mv_sl (.inr rfl) rfl) ?_ | refine ops_op rfl rfl (runs_none rfl) (mv_s (.inr rfl) rfl) ?_ | refine ops_op rfl rfl (runs_none rfl) (mv_emp (.inr rfl) rfl) ?_
    refine ops_op rfl rfl (runs_none rfl) (mv_s (.inr rfl) rfl) ?_
    refine ops_nil ?_
    repeat (first | refine aw_seq ?_ | refine ath_n ?_ | refine aw_skip ?_ | refine abl_n ?_ | refine aw_block ?_)
    (refine aw_ret ?_; repeat (first | refine ath_r ?_ | refine abl_r ?_))
    exact post_le (N := 0) (.inr rfl) rfl rfl (.own _ _ _ _ _ rfl rfl (by simp)) HI
theorem rEnabled_pf (n : Net) (x : List Int) (hx : markB n x = true) : Pure P 41 [eN n, eL eI x] (eL eI (enabledL x 0 n.trans)) := by
  have hx2 : validB n = true ∧ mark2B n x = true := by unfold markB at hx; simpa only [Bool.and_eq_true] using hx
  have hpl := validB_places hx2.1
  have hln : Lo 0 (.ref (eN n).cells) := .ref _ (lo_N n).cells
  refine aw_fn (by rw [IsP.eq (P := P)]; exact Try.func41) rfl rfl rfl rfl rfl (lo_cons (lo_N n) (lo_cons lo_I lo_nil)) lo_I (by simp only [argF]; rfl) ?_
  repeat (first | refine aw_seq ?_ | refine ath_n ?_ | refine aw_skip ?_ | refine abl_n ?_ | refine aw_block ?_)
  refine aw_region ?_
  refine ops_op rfl rfl (runs_none rfl) (does_box rfl rfl rfl rfl) ?_
  refine aops_weak (wk_froz (id := 0) rfl) (aops_weak (wk_ref (d := 2) rfl rfl rfl) ?_)
  first | refine ops_op rfl rfl (runs_none rfl) (mv_own (.inr rfl) rfl) ?_ | refine ops_op rfl rfl (runs_none rfl) (mv_sl (.inr rfl) rfl) ?_ | refine ops_op rfl rfl (runs_none rfl) (mv_s (.inr rfl) rfl) ?_ | refine ops_op rfl rfl (runs_none rfl) (mv_emp (.inr rfl) rfl) ?_
  refine ops_nil ?_
  repeat (first | refine aw_seq ?_ | refine ath_n ?_ | refine aw_skip ?_ | refine abl_n ?_ | refine aw_block ?_)
  refine aw_region ?_
  first | refine ops_op rfl rfl (runs_none rfl) (mv_own (.inr rfl) rfl) ?_ | refine ops_op rfl rfl (runs_none rfl) (mv_sl (.inr rfl) rfl) ?_ | refine ops_op rfl rfl (runs_none rfl) (mv_s (.inr rfl) rfl) ?_ | refine ops_op rfl rfl (runs_none rfl) (mv_emp (.inr rfl) rfl) ?_
  refine ops_nil ?_
  repeat (first | refine aw_seq ?_ | refine ath_n ?_ | refine aw_skip ?_ | refine abl_n ?_ | refine aw_block ?_)
  refine aw_weak (wk_own (d := 5) 1 rfl (.inr rfl)) ?_
  refine aw_region ?_
  refine ops_op rfl rfl (runs_none rfl) (mv_s (.inr rfl) rfl) ?_
  refine ops_nil ?_
  repeat (first | refine aw_seq ?_ | refine ath_n ?_ | refine aw_skip ?_ | refine abl_n ?_ | refine aw_block ?_)
  refine aw_loops (S := Nat × List Int) (fun p => [(1, eL eI x), (2, .ref (eN n).cells), (5, .own 0 1 p.2.length), (6, eI p.1)]) (fun p => [.row 1 (p.2.map eI)]) (fun p => p.1 ≤ n.trans.length ∧ p.2.length ≤ p.1 ∧ p.2 ++ enabledL x p.1 (n.trans.drop p.1) = enabledL x 0 n.trans) (fun p => n.trans.length - p.1) (0, []) (wk_st [1] (by decide) ⟨⟨_, rfl, .rowE (by simp) rfl⟩, trivial⟩ ⟨.lo _ lo_I, .lo _ hln, .own 1 0 1 _ _ rfl rfl, .lo _ (by repeat' (first | exact Lo.s _ | exact Lo.emp | exact Lo.any | exact lo_nil | exact lo_nilE | refine lo_cons ?_ ?_ | refine lo_consE ?_ ?_ | refine lo_map ?_ | refine lo_mapE ?_ | refine Lo.cells ?_ | refine Lo.agg _ ?_ | refine Lo.ref _ ?_ | refine Lo.tup _ ?_ | refine Lo.fn _ _ ?_ | refine Lo.sl _ ?_ | intro _)), trivial⟩) ⟨Nat.zero_le _, Nat.zero_le _, rfl⟩ (fun p hp => ?_)
  obtain ⟨k, l⟩ := p
  obtain ⟨hk, hll, hE⟩ := hp
  replace hk : k ≤ n.trans.length := hk
  replace hll : l.length ≤ k := hll
  replace hE : l ++ enabledL x k (n.trans.drop k) = enabledL x 0 n.trans := hE
  have hlm : (l.map eI).length = l.length := by simp
  repeat (first | refine aw_seq ?_ | refine ath_n ?_ | refine aw_skip ?_ | refine abl_n ?_ | refine aw_block ?_)
  all_goals refine aw_region ?_
  all_goals refine ops_op rfl rfl (runs_none rfl) (mv_s (.inl rfl) rfl) ?_
  all_goals (first | refine ops_op rfl rfl (runs_none rfl) (does_fieldAddr_ptr rfl tf24_1 (by decide) rfl) ?_ | refine ops_op rfl rfl (runs_none rfl) (does_fieldAddr_ref rfl tf24_1 (by decide) rfl) ?_)
  all_goals (first | refine ops_op rfl rfl (runs_none rfl) (does_load_ref rfl ta22 rfl) ?_ | refine ops_op rfl rfl (runs_none rfl) (does_load_ptr rfl ta22 rfl rfl rfl rfl rfl) ?_)
  all_goals (first | refine ops_op rfl rfl (runs_none rfl) (does_len_map rfl ts22 rfl) ?_ | refine ops_op rfl rfl (runs_none rfl) (does_len_sl rfl ts22 rfl) ?_ | refine ops_op rfl rfl (runs_none rfl) (does_len_own rfl ts22 rfl) ?_ | refine ops_op rfl rfl (runs_none rfl) (does_len_s rfl ts22 rfl) ?_ | refine ops_op rfl rfl (runs_none rfl) (does_len_emp rfl ts22 rfl) ?_)
  all_goals (first | refine ops_opP rfl rfl (runs_none rfl) (does_lss rfl rfl rfl) (fun h11 => ?_) (fun h11 => ?_) | refine ops_opB rfl rfl (runs_none rfl) (does_lss rfl rfl rfl) (fun h11 => ?_) (fun h11 => ?_))
  all_goals refine ops_nil ?_
  all_goals (repeat (first | refine aw_seq ?_ | refine ath_n ?_ | refine aw_skip ?_ | refine abl_n ?_ | refine aw_block ?_))
  all_goals (first | refine aw_true rfl ?_ | refine aw_false rfl ?_)
  all_goals (repeat (first | refine aw_seq ?_ | refine ath_n ?_ | refine aw_skip ?_ | refine abl_n ?_ | refine aw_block ?_))
  all_goals dsimp only at h11
  · have hlt : k < n.trans.length := by omega
    have hc := can_en (P := P) n x k hx hlt
    rw [drop_gti hlt, enabledL] at hE
    all_goals refine aw_region ?_
    all_goals (first | refine ops_op rfl rfl (runs_none rfl) (does_load_refw rfl ta24 ti24 rfl rfl) ?_ | refine ops_op rfl rfl (runs_none rfl) (does_load_whole rfl ta24 ti24 rfl rfl rfl rfl rfl) ?_ | refine ops_op rfl rfl (runs_none rfl) (does_load_refs rfl ta24 ti24 rfl (Nat.le_of_ble_eq_true rfl)) ?_ | refine ops_op rfl rfl (runs_none rfl) (does_load_ptrs rfl ta24 ti24 rfl rfl rfl rfl (Nat.le_of_ble_eq_true rfl)) ?_)
    all_goals (first | refine ops_op rfl rfl (runs_none rfl) (mv_own (.inl rfl) rfl) ?_ | refine ops_op rfl rfl (runs_none rfl) (mv_sl (.inl rfl) rfl) ?_ | refine ops_op rfl rfl (runs_none rfl) (mv_s (.inl rfl) rfl) ?_ | refine ops_op rfl rfl (runs_none rfl) (mv_emp (.inl rfl) rfl) ?_)
    all_goals refine ops_op rfl rfl (runs_none rfl) (mv_s (.inl rfl) rfl) ?_
    all_goals (first | refine ops_opP rfl rfl (runs_none rfl) (does_call rfl rfl (hc) (evc_cons rfl (evc_cons rfl (evc_cons rfl evc_nil)))) (fun h17 => ?_) (fun h17 => ?_) | refine ops_opB rfl rfl (runs_none rfl) (does_call rfl rfl (hc) (evc_cons rfl (evc_cons rfl (evc_cons rfl evc_nil)))) (fun h17 => ?_) (fun h17 => ?_))
    all_goals refine ops_nil ?_
    all_goals (repeat (first | refine aw_seq ?_ | refine ath_n ?_ | refine aw_skip ?_ | refine abl_n ?_ | refine aw_block ?_))
    all_goals (first | refine aw_true rfl ?_ | refine aw_false rfl ?_)
    all_goals (repeat (first | refine aw_seq ?_ | refine ath_n ?_ | refine aw_skip ?_ | refine abl_n ?_ | refine aw_block ?_))
    · rw [if_pos h17] at hE
      refine aw_region ?_
      first | refine ops_op rfl rfl (runs_none rfl) (mv_own (.inl rfl) rfl) ?_ | refine ops_op rfl rfl (runs_none rfl) (mv_sl (.inl rfl) rfl) ?_ | refine ops_op rfl rfl (runs_none rfl) (mv_s (.inl rfl) rfl) ?_ | refine ops_op rfl rfl (runs_none rfl) (mv_emp (.inl rfl) rfl) ?_
      refine ops_op rfl rfl (runs_none rfl) (mv_s (.inl rfl) rfl) ?_
      first | refine ops_op rfl rfl (runs_none rfl) (lit1_sF rfl ts25 ti3 rfl rfl rfl rfl) ?_ | refine ops_op rfl rfl (runs_none rfl) (lit1_slF rfl ts25 ti3 rfl rfl rfl rfl (by repeat' (first | exact Lo.s _ | exact Lo.emp | exact Lo.any | exact lo_nil | exact lo_nilE | refine lo_cons ?_ ?_ | refine lo_consE ?_ ?_ | refine lo_map ?_ | refine lo_mapE ?_ | refine Lo.cells ?_ | refine Lo.agg _ ?_ | refine Lo.ref _ ?_ | refine Lo.tup _ ?_ | refine Lo.fn _ _ ?_ | refine Lo.sl _ ?_ | intro _))) ?_ | refine ops_op rfl rfl (runs_none rfl) (does_litAF rfl ts25 ti3 rfl rfl (by decide) (by decide) rfl rfl rfl (by repeat' (first | exact Lo.s _ | exact Lo.emp | exact Lo.any | exact lo_nil | exact lo_nilE | refine lo_cons ?_ ?_ | refine lo_consE ?_ ?_ | refine lo_map ?_ | refine lo_mapE ?_ | refine Lo.cells ?_ | refine Lo.agg _ ?_ | refine Lo.ref _ ?_ | refine Lo.tup _ ?_ | refine Lo.fn _ _ ?_ | refine Lo.sl _ ?_ | intro _))) ?_
      first | refine ops_op rfl rfl (runs_none rfl) (does_append rfl ts25 ti3 rfl (by decide) rfl rfl (by first | rfl | (simp; done) | (simp; omega)) rfl (by first | exact .own _ _ _ rfl rfl _ (by first | rfl | simp) | exact .emp | exact .nil | exact .sl _ (by first | simp; done | intro e he; simp at he; obtain ⟨_, _, rfl⟩ := he; rfl)) (by first | omega | (simp; omega) | (unfold maxLen; simp; omega)) (by first | omega | (simp; omega) | (unfold maxLen; simp; omega))) ?_ | refine ops_op rfl rfl (runs_none rfl) (does_append0 rfl ts25 ti3 rfl (by decide) rfl (.inl rfl) rfl (by first | exact .own _ _ _ rfl rfl _ (by first | rfl | simp) | exact .emp | exact .nil | exact .sl _ (by first | simp; done | intro e he; simp at he; obtain ⟨_, _, rfl⟩ := he; rfl)) (by first | omega | (simp; omega) | (unfold maxLen; simp; omega)) (by first | omega | (simp; omega) | (unfold maxLen; simp; omega))) ?_ | refine ops_op rfl rfl (runs_none rfl) (does_append0 rfl ts25 ti3 rfl (by decide) rfl (.inr rfl) rfl (by first | exact .own _ _ _ rfl rfl _ (by first | rfl | simp) | exact .emp | exact .nil | exact .sl _ (by first | simp; done | intro e he; simp at he; obtain ⟨_, _, rfl⟩ := he; rfl)) (by first | omega | (simp; omega) | (unfold maxLen; simp; omega)) (by first | omega | (simp; omega) | (unfold maxLen; simp; omega))) ?_
      first | refine ops_op rfl rfl (runs_none rfl) (mv_own (.inr rfl) rfl) ?_ | refine ops_op rfl rfl (runs_none rfl) (mv_sl (.inr rfl) rfl) ?_ | refine ops_op rfl rfl (runs_none rfl) (mv_s (.inr rfl) rfl) ?_ | refine ops_op rfl rfl (runs_none rfl) (mv_emp (.inr rfl) rfl) ?_
      refine ops_nil ?_
      repeat (first | refine aw_seq ?_ | refine ath_n ?_ | refine aw_skip ?_ | refine abl_n ?_ | refine aw_block ?_)
      refine aw_region ?_
      refine ops_op rfl rfl (runs_none rfl) (mv_s (.inl rfl) rfl) ?_
      refine ops_op rfl rfl (runs_none rfl) (does_add rfl rfl rfl (IntWalk.i64_in _ (by omega))) ?_
      refine ops_op rfl rfl (runs_none rfl) (mv_s (.inr rfl) rfl) ?_
      refine ops_nil ?_
      repeat (first | refine aw_seq ?_ | refine ath_n ?_ | refine aw_skip ?_ | refine abl_n ?_ | refine aw_block ?_)
      exact ⟨(k + 1, l ++ [(k : Int)]), ⟨by show k + 1 ≤ n.trans.length; omega, by simp; omega, by simpa using hE⟩, by show n.trans.length - (k + 1) < n.trans.length - k; omega, wk_st [1] (by decide) ⟨⟨_, rfl, .rowE (rowI_lo _) (by rw [List.map_append]; rfl)⟩, trivial⟩ ⟨.lo _ lo_I, .lo _ hln, .own 1 0 1 _ _ rfl (by simp), .lo _ (by repeat' (first | exact Lo.s _ | exact Lo.emp | exact Lo.any | exact lo_nil | exact lo_nilE | refine lo_cons ?_ ?_ | refine lo_consE ?_ ?_ | refine lo_map ?_ | refine lo_mapE ?_ | refine Lo.cells ?_ | refine Lo.agg _ ?_ | refine Lo.ref _ ?_ | refine Lo.tup _ ?_ | refine Lo.fn _ _ ?_ | refine Lo.sl _ ?_ | intro _)), trivial⟩⟩
    · rw [if_neg (by rw [h17]; simp)] at hE
      refine aw_region ?_
      refine ops_op rfl rfl (runs_none rfl) (mv_s (.inl rfl) rfl) ?_
      refine ops_op rfl rfl (runs_none rfl) (does_add rfl rfl rfl (IntWalk.i64_in _ (by omega))) ?_
      refine ops_op rfl rfl (runs_none rfl) (mv_s (.inr rfl) rfl) ?_
      refine ops_nil ?_
      repeat (first | refine aw_seq ?_ | refine ath_n ?_ | refine aw_skip ?_ | refine abl_n ?_ | refine aw_block ?_)
      exact ⟨(k + 1, l), ⟨by show k + 1 ≤ n.trans.length; omega, by show l.length ≤ k + 1; omega, hE⟩, by show n.trans.length - (k + 1) < n.trans.length - k; omega, wk_sub _ ⟨rfl, rfl, rfl, rfl, trivial⟩⟩
  · have e : k = n.trans.length := by omega
    subst e
    rw [List.drop_length, enabledL, List.append_nil] at hE
    subst hE
    (refine aw_exit ?_; repeat (first | refine ath_x ?_ | refine abl_hit ?_ | refine abl_miss rfl ?_ | refine abl_n ?_ | refine ath_n ?_ | refine aw_seq ?_ | refine aw_skip ?_ | refine aw_block ?_))
    refine aw_region ?_
    first | refine ops_op rfl rfl (runs_none rfl) (mv_own (.inl rfl) rfl) ?_ | refine ops_op rfl rfl (runs_none rfl) (mv_sl (.inl rfl) rfl) ?_ | refine ops_op rfl rfl (runs_none rfl) (mv_s (.inl rfl) rfl) ?_ | refine ops_op rfl rfl (runs_none rfl) (mv_emp (.inl rfl) rfl) ?_
    first | refine ops_op rfl rfl (runs_none rfl) (mv_own (.inr rfl) rfl) ?_ | refine ops_op rfl rfl (runs_none rfl) (mv_sl (.inr rfl) rfl) ?_ | refine ops_op rfl rfl (runs_none rfl) (mv_s (.inr rfl) rfl) ?_ | refine ops_op rfl rfl (runs_none rfl) (mv_emp (.inr rfl) rfl) ?_
    refine ops_nil ?_
    repeat (first | refine aw_seq ?_ | refine ath_n ?_ | refine aw_skip ?_ | refine abl_n ?_ | refine aw_block ?_)
    (refine aw_ret ?_; repeat (first | refine ath_r ?_ | refine abl_r ?_))
    exact post1f (.inr rfl) rfl (.own _ _ _ _ _ rfl rfl (by simp))
set_option maxHeartbeats 1000000 in
theorem rDeadlocks_pf (n : Net) (s : Spc) : Pure P 16 [eN n, eSpc s] (eLE (deadE n s)) := by
  have hv := rValidSp_pf (P := P) n s
  have hvn := rvalid_pf (P := P) n
  have hSI := validSp_SI (n := n) (s := s)
  have HI : deadE n s = if validSp n s = true then (deadP n s.st s.st.length, 0) else ([], 1) := rfl
  generalize deadE n s = R at HI ⊢
  generalize validSp n s = z at hv hSI HI
  have hln : Lo 0 (.ref (eN n).cells) := .ref _ (lo_N n).cells
  have hls : Lo 0 (.ref (eSpc s).cells) := .ref _ (lo_Spc s).cells
  refine aw_fn (by rw [IsP.eq (P := P)]; exact Try.func16) rfl rfl rfl rfl rfl (lo_cons (lo_N n) (lo_cons (lo_Spc s) lo_nil)) (.tup _ (lo_cons lo_I (lo_cons (.s _) lo_nil))) (by simp only [argF]; rfl) ?_
  repeat (first | refine aw_seq ?_ | refine ath_n ?_ | refine aw_skip ?_ | refine abl_n ?_ | refine aw_block ?_)
  refine aw_region ?_
  refine ops_op rfl rfl (runs_none rfl) (does_box rfl rfl rfl rfl) ?_
  refine aops_weak (wk_froz (id := 0) rfl) (aops_weak (wk_ref (d := 2) rfl rfl rfl) ?_)
  refine ops_op rfl rfl (runs_none rfl) (does_box rfl rfl rfl rfl) ?_
  refine aops_weak (wk_froz (id := 1) rfl) (aops_weak (wk_ref (d := 3) rfl rfl rfl) ?_)
  first | refine ops_op rfl rfl (runs_none rfl) (mv_own (.inr rfl) rfl) ?_ | refine ops_op rfl rfl (runs_none rfl) (mv_sl (.inr rfl) rfl) ?_ | refine ops_op rfl rfl (runs_none rfl) (mv_s (.inr rfl) rfl) ?_ | refine ops_op rfl rfl (runs_none rfl) (mv_emp (.inr rfl) rfl) ?_
  refine ops_op rfl rfl (runs_none rfl) (mv_s (.inr rfl) rfl) ?_
  refine ops_nil ?_
  repeat (first | refine aw_seq ?_ | refine ath_n ?_ | refine aw_skip ?_ | refine abl_n ?_ | refine aw_block ?_)
  all_goals refine aw_region ?_
  all_goals (first | refine ops_op rfl rfl (runs_none rfl) (does_load_refw rfl ta24 ti24 rfl rfl) ?_ | refine ops_op rfl rfl (runs_none rfl) (does_load_whole rfl ta24 ti24 rfl rfl rfl rfl rfl) ?_ | refine ops_op rfl rfl (runs_none rfl) (does_load_refs rfl ta24 ti24 rfl (Nat.le_of_ble_eq_true rfl)) ?_ | refine ops_op rfl rfl (runs_none rfl) (does_load_ptrs rfl ta24 ti24 rfl rfl rfl rfl (Nat.le_of_ble_eq_true rfl)) ?_)
  all_goals (first | refine ops_opP rfl rfl (runs_none rfl) (does_call rfl rfl (hvn) (evc_cons rfl evc_nil)) (fun h9 => ?_) (fun h9 => ?_) | refine ops_opB rfl rfl (runs_none rfl) (does_call rfl rfl (hvn) (evc_cons rfl evc_nil)) (fun h9 => ?_) (fun h9 => ?_))
  all_goals (first | refine ops_op rfl rfl (runs_none rfl) (does_notp rfl rfl) ?_ | refine ops_op rfl rfl (runs_none rfl) (does_not rfl rfl) ?_)
  all_goals refine ops_op rfl rfl (runs_none rfl) (mv_s (.inl rfl) rfl) ?_
  all_goals (first | refine ops_op rfl rfl (runs_y rfl rfl rfl) (does_load_refw rfl ta24 ti24 rfl rfl) ?_ | refine ops_op rfl rfl (runs_y rfl rfl rfl) (does_load_whole rfl ta24 ti24 rfl rfl rfl rfl rfl) ?_ | refine ops_op rfl rfl (runs_y rfl rfl rfl) (does_load_refs rfl ta24 ti24 rfl (Nat.le_of_ble_eq_true rfl)) ?_ | refine ops_op rfl rfl (runs_y rfl rfl rfl) (does_load_ptrs rfl ta24 ti24 rfl rfl rfl rfl (Nat.le_of_ble_eq_true rfl)) ?_ | refine ops_skip rfl rfl (runs_nf rfl rfl rfl) ?_ | refine ops_skip rfl rfl (runs_nu rfl rfl rfl) ?_)
  all_goals (first | refine ops_op rfl rfl (runs_y rfl rfl rfl) (does_load_refw rfl ta29 ti29 rfl rfl) ?_ | refine ops_op rfl rfl (runs_y rfl rfl rfl) (does_load_whole rfl ta29 ti29 rfl rfl rfl rfl rfl) ?_ | refine ops_op rfl rfl (runs_y rfl rfl rfl) (does_load_refs rfl ta29 ti29 rfl (Nat.le_of_ble_eq_true rfl)) ?_ | refine ops_op rfl rfl (runs_y rfl rfl rfl) (does_load_ptrs rfl ta29 ti29 rfl rfl rfl rfl (Nat.le_of_ble_eq_true rfl)) ?_ | refine ops_skip rfl rfl (runs_nf rfl rfl rfl) ?_ | refine ops_skip rfl rfl (runs_nu rfl rfl rfl) ?_)
  all_goals (first | refine ops_opP rfl rfl (runs_y rfl rfl rfl) (does_call rfl rfl (hv) (evc_cons rfl (evc_cons rfl evc_nil))) (fun h14 => ?_) (fun h14 => ?_) | refine ops_opB rfl rfl (runs_y rfl rfl rfl) (does_call rfl rfl (hv) (evc_cons rfl (evc_cons rfl evc_nil))) (fun h14 => ?_) (fun h14 => ?_) | refine ops_skip rfl rfl (runs_nf rfl rfl rfl) ?_ | refine ops_skip rfl rfl (runs_nu rfl rfl rfl) ?_)
  all_goals (first | refine ops_op rfl rfl (runs_y rfl rfl rfl) (does_notp rfl rfl) ?_ | refine ops_op rfl rfl (runs_y rfl rfl rfl) (does_not rfl rfl) ?_ | refine ops_skip rfl rfl (runs_nf rfl rfl rfl) ?_ | refine ops_skip rfl rfl (runs_nu rfl rfl rfl) ?_)
  all_goals (first | refine ops_op rfl rfl (runs_none rfl) (pickT_s rfl rfl rfl) ?_ | refine ops_op rfl rfl (runs_none rfl) (pickF_s rfl rfl rfl) ?_ | refine ops_op rfl rfl (runs_none rfl) (does_pickT rfl rfl rfl) ?_ | refine ops_op rfl rfl (runs_none rfl) (does_pickF rfl rfl rfl) ?_)
  all_goals refine ops_nil ?_
  all_goals (repeat (first | refine aw_seq ?_ | refine ath_n ?_ | refine aw_skip ?_ | refine abl_n ?_ | refine aw_block ?_))
  all_goals (first | refine aw_true rfl ?_ | refine aw_false rfl ?_)
  all_goals (repeat (first | refine aw_seq ?_ | refine ath_n ?_ | refine aw_skip ?_ | refine abl_n ?_ | refine aw_block ?_))
  rotate_left 1
  all_goals first
    | skip
      refine aw_region ?_
      first | refine ops_op rfl rfl (runs_none rfl) (mv_own (.inr rfl) rfl) ?_ | refine ops_op rfl rfl (runs_none rfl) (mv_sl (.inr rfl) rfl) ?_ | refine ops_op rfl rfl (runs_none rfl) (mv_s (.inr rfl) rfl) ?_ | refine ops_op rfl rfl (runs_none rfl) (mv_emp (.inr rfl) rfl) ?_
      refine ops_op rfl rfl (runs_none rfl) (mv_s (.inr rfl) rfl) ?_
      refine ops_nil ?_
      repeat (first | refine aw_seq ?_ | refine ath_n ?_ | refine aw_skip ?_ | refine abl_n ?_ | refine aw_block ?_)
      (refine aw_ret ?_; repeat (first | refine ath_r ?_ | refine abl_r ?_))
      exact post_le (N := 0) (.inr rfl) rfl rfl .nil (by rw [HI, if_neg (by first | (rw [h14]; simp; done) | (intro hz; have := (hSI hz).1; rw [h9] at this; cases this))])
    | skip
  obtain ⟨hvb, hmk, hsl, _⟩ := hSI h14
  rw [if_pos h14] at HI
  refine aw_region ?_
  first | refine ops_op rfl rfl (runs_none rfl) (mv_own (.inr rfl) rfl) ?_ | refine ops_op rfl rfl (runs_none rfl) (mv_sl (.inr rfl) rfl) ?_ | refine ops_op rfl rfl (runs_none rfl) (mv_s (.inr rfl) rfl) ?_ | refine ops_op rfl rfl (runs_none rfl) (mv_emp (.inr rfl) rfl) ?_
  refine ops_nil ?_
  repeat (first | refine aw_seq ?_ | refine ath_n ?_ | refine aw_skip ?_ | refine abl_n ?_ | refine aw_block ?_)
  refine aw_weak (wk_own (d := 6) 1 rfl (.inr rfl)) ?_
  refine aw_region ?_
  refine ops_op rfl rfl (runs_none rfl) (mv_s (.inr rfl) rfl) ?_
  refine ops_nil ?_
  repeat (first | refine aw_seq ?_ | refine ath_n ?_ | refine aw_skip ?_ | refine abl_n ?_ | refine aw_block ?_)
  refine aw_loops (S := Nat) (fun k => [(2, .ref (eN n).cells), (3, .ref (eSpc s).cells), (6, .own 0 1 (deadP n s.st k).length), (7, eI k)]) (fun k => [.row 1 ((deadP n s.st k).map eI)]) (fun k => k ≤ s.st.length) (fun k => s.st.length - k) 0 (wk_st [2] (by decide) ⟨⟨_, rfl, .rowE (by simp [deadP]) rfl⟩, trivial⟩ ⟨.lo _ hln, .lo _ hls, .own 2 0 1 _ _ rfl rfl, .lo _ (by repeat' (first | exact Lo.s _ | exact Lo.emp | exact Lo.any | exact lo_nil | exact lo_nilE | refine lo_cons ?_ ?_ | refine lo_consE ?_ ?_ | refine lo_map ?_ | refine lo_mapE ?_ | refine Lo.cells ?_ | refine Lo.agg _ ?_ | refine Lo.ref _ ?_ | refine Lo.tup _ ?_ | refine Lo.fn _ _ ?_ | refine Lo.sl _ ?_ | intro _)), trivial⟩) (Nat.zero_le _) (fun k hk => ?_)
  repeat (first | refine aw_seq ?_ | refine ath_n ?_ | refine aw_skip ?_ | refine abl_n ?_ | refine aw_block ?_)
  all_goals refine aw_region ?_
  all_goals refine ops_op rfl rfl (runs_none rfl) (mv_s (.inl rfl) rfl) ?_
  all_goals (first | refine ops_op rfl rfl (runs_none rfl) (does_fieldAddr_ptr rfl tf29_0 (by decide) rfl) ?_ | refine ops_op rfl rfl (runs_none rfl) (does_fieldAddr_ref rfl tf29_0 (by decide) rfl) ?_)
  all_goals (first | refine ops_op rfl rfl (runs_none rfl) (does_load_ref rfl ta26 rfl) ?_ | refine ops_op rfl rfl (runs_none rfl) (does_load_ptr rfl ta26 rfl rfl rfl rfl rfl) ?_)
  all_goals (first | refine ops_op rfl rfl (runs_none rfl) (does_len_map rfl ts26 rfl) ?_ | refine ops_op rfl rfl (runs_none rfl) (does_len_sl rfl ts26 rfl) ?_ | refine ops_op rfl rfl (runs_none rfl) (does_len_own rfl ts26 rfl) ?_ | refine ops_op rfl rfl (runs_none rfl) (does_len_s rfl ts26 rfl) ?_ | refine ops_op rfl rfl (runs_none rfl) (does_len_emp rfl ts26 rfl) ?_)
  all_goals (first | refine ops_opP rfl rfl (runs_none rfl) (does_lss rfl rfl rfl) (fun h21 => ?_) (fun h21 => ?_) | refine ops_opB rfl rfl (runs_none rfl) (does_lss rfl rfl rfl) (fun h21 => ?_) (fun h21 => ?_))
  all_goals refine ops_nil ?_
  all_goals (repeat (first | refine aw_seq ?_ | refine ath_n ?_ | refine aw_skip ?_ | refine abl_n ?_ | refine aw_block ?_))
  all_goals (first | refine aw_true rfl ?_ | refine aw_false rfl ?_)
  all_goals (repeat (first | refine aw_seq ?_ | refine ath_n ?_ | refine aw_skip ?_ | refine abl_n ?_ | refine aw_block ?_))
  · have hlt : k < s.st.length := by omega
    have hx0 := hmk _ (gti_mem hlt)
    have hix : (s.st.map (eL eI))[k]? = some (eL eI (gti s.st k)) := ix_map hlt
    have hen := rEnabled_pf (P := P) n (gti s.st k) hx0
    have hd : deadP n s.st (k + 1) = deadP n s.st k ++ if (enabledL (gti s.st k) 0 n.trans).length = 0 then [(k : Int)] else [] := rfl
    have hdl := deadP_len n s.st k
    have hdm : ((deadP n s.st k).map eI).length = (deadP n s.st k).length := by simp
    generalize gti s.st k = x at hix hen hd
    generalize enabledL x 0 n.trans = on at hen hd
    all_goals refine aw_draw hmix ?_
    all_goals refine adraw_quiet (by kernel_rfl) ?_
    all_goals (first | refine qx_op rfl rfl (runs_none rfl) (does_load_refw rfl ta24 ti24 rfl rfl) ?_ | refine qx_op rfl rfl (runs_none rfl) (does_load_whole rfl ta24 ti24 rfl rfl rfl rfl rfl) ?_ | refine qx_op rfl rfl (runs_none rfl) (does_load_refs rfl ta24 ti24 rfl (Nat.le_of_ble_eq_true rfl)) ?_ | refine qx_op rfl rfl (runs_none rfl) (does_load_ptrs rfl ta24 ti24 rfl rfl rfl rfl (Nat.le_of_ble_eq_true rfl)) ?_)
    all_goals (first | refine qx_op rfl rfl (runs_none rfl) (does_fieldAddr_ptr rfl tf29_0 (by decide) rfl) ?_ | refine qx_op rfl rfl (runs_none rfl) (does_fieldAddr_ref rfl tf29_0 (by decide) rfl) ?_)
    all_goals (first | refine qx_op rfl rfl (runs_none rfl) (does_load_ref rfl ta26 rfl) ?_ | refine qx_op rfl rfl (runs_none rfl) (does_load_ptr rfl ta26 rfl rfl rfl rfl rfl) ?_)
    all_goals refine qx_op rfl rfl (runs_none rfl) (mv_s (.inl rfl) rfl) ?_
    all_goals (first | refine qx_op rfl rfl (runs_none rfl) (does_index_sl rfl ts26 ti25 rfl rfl rfl hix rfl) ?_ | refine qx_op rfl rfl (runs_none rfl) (does_index_own rfl ts26 ti25 rfl rfl rfl hix) ?_)
    all_goals (first | refine qx_op rfl rfl (runs_none rfl) (does_load_ref rfl ta25 rfl) ?_ | refine qx_op rfl rfl (runs_none rfl) (does_load_ptr rfl ta25 rfl rfl rfl rfl rfl) ?_)
    all_goals refine qx_op rfl rfl (runs_none rfl) (does_call rfl rfl (hen) (evc_cons rfl (evc_cons rfl evc_nil))) ?_
    all_goals (first | refine qx_op rfl rfl (runs_none rfl) (does_len_map rfl ts25 rfl) ?_ | refine qx_op rfl rfl (runs_none rfl) (does_len_sl rfl ts25 rfl) ?_ | refine qx_op rfl rfl (runs_none rfl) (does_len_own rfl ts25 rfl) ?_ | refine qx_op rfl rfl (runs_none rfl) (does_len_s rfl ts25 rfl) ?_ | refine qx_op rfl rfl (runs_none rfl) (does_len_emp rfl ts25 rfl) ?_)
    all_goals (first | refine qx_opP rfl rfl (runs_none rfl) (does_eql rfl rfl rfl) (fun h32 => ?_) (fun h32 => ?_) | refine qx_opB rfl rfl (runs_none rfl) (does_eql rfl rfl rfl) (fun h32 => ?_) (fun h32 => ?_))
    all_goals refine qx_nil ?_
    all_goals (repeat (first | refine aw_seq ?_ | refine ath_n ?_ | refine aw_skip ?_ | refine abl_n ?_ | refine aw_block ?_))
    all_goals (first | refine aw_true rfl ?_ | refine aw_false rfl ?_)
    all_goals (repeat (first | refine aw_seq ?_ | refine ath_n ?_ | refine aw_skip ?_ | refine abl_n ?_ | refine aw_block ?_))
    · rw [if_pos (by omega)] at hd
      refine aw_region ?_
      first | refine ops_op rfl rfl (runs_none rfl) (mv_own (.inl rfl) rfl) ?_ | refine ops_op rfl rfl (runs_none rfl) (mv_sl (.inl rfl) rfl) ?_ | refine ops_op rfl rfl (runs_none rfl) (mv_s (.inl rfl) rfl) ?_ | refine ops_op rfl rfl (runs_none rfl) (mv_emp (.inl rfl) rfl) ?_
      refine ops_op rfl rfl (runs_none rfl) (mv_s (.inl rfl) rfl) ?_
      first | refine ops_op rfl rfl (runs_none rfl) (lit1_sF rfl ts25 ti3 rfl rfl rfl rfl) ?_ | refine ops_op rfl rfl (runs_none rfl) (lit1_slF rfl ts25 ti3 rfl rfl rfl rfl (by repeat' (first | exact Lo.s _ | exact Lo.emp | exact Lo.any | exact lo_nil | exact lo_nilE | refine lo_cons ?_ ?_ | refine lo_consE ?_ ?_ | refine lo_map ?_ | refine lo_mapE ?_ | refine Lo.cells ?_ | refine Lo.agg _ ?_ | refine Lo.ref _ ?_ | refine Lo.tup _ ?_ | refine Lo.fn _ _ ?_ | refine Lo.sl _ ?_ | intro _))) ?_ | refine ops_op rfl rfl (runs_none rfl) (does_litAF rfl ts25 ti3 rfl rfl (by decide) (by decide) rfl rfl rfl (by repeat' (first | exact Lo.s _ | exact Lo.emp | exact Lo.any | exact lo_nil | exact lo_nilE | refine lo_cons ?_ ?_ | refine lo_consE ?_ ?_ | refine lo_map ?_ | refine lo_mapE ?_ | refine Lo.cells ?_ | refine Lo.agg _ ?_ | refine Lo.ref _ ?_ | refine Lo.tup _ ?_ | refine Lo.fn _ _ ?_ | refine Lo.sl _ ?_ | intro _))) ?_
      first | refine ops_op rfl rfl (runs_none rfl) (does_append rfl ts25 ti3 rfl (by decide) rfl rfl (by first | rfl | (simp; done) | (simp; omega)) rfl (by first | exact .own _ _ _ rfl rfl _ (by first | rfl | simp) | exact .emp | exact .nil | exact .sl _ (by first | simp; done | intro e he; simp at he; obtain ⟨_, _, rfl⟩ := he; rfl)) (by first | omega | (simp; omega) | (unfold maxLen; simp; omega)) (by first | omega | (simp; omega) | (unfold maxLen; simp; omega))) ?_ | refine ops_op rfl rfl (runs_none rfl) (does_append0 rfl ts25 ti3 rfl (by decide) rfl (.inl rfl) rfl (by first | exact .own _ _ _ rfl rfl _ (by first | rfl | simp) | exact .emp | exact .nil | exact .sl _ (by first | simp; done | intro e he; simp at he; obtain ⟨_, _, rfl⟩ := he; rfl)) (by first | omega | (simp; omega) | (unfold maxLen; simp; omega)) (by first | omega | (simp; omega) | (unfold maxLen; simp; omega))) ?_ | refine ops_op rfl rfl (runs_none rfl) (does_append0 rfl ts25 ti3 rfl (by decide) rfl (.inr rfl) rfl (by first | exact .own _ _ _ rfl rfl _ (by first | rfl | simp) | exact .emp | exact .nil | exact .sl _ (by first | simp; done | intro e he; simp at he; obtain ⟨_, _, rfl⟩ := he; rfl)) (by first | omega | (simp; omega) | (unfold maxLen; simp; omega)) (by first | omega | (simp; omega) | (unfold maxLen; simp; omega))) ?_
      first | refine ops_op rfl rfl (runs_none rfl) (mv_own (.inr rfl) rfl) ?_ | refine ops_op rfl rfl (runs_none rfl) (mv_sl (.inr rfl) rfl) ?_ | refine ops_op rfl rfl (runs_none rfl) (mv_s (.inr rfl) rfl) ?_ | refine ops_op rfl rfl (runs_none rfl) (mv_emp (.inr rfl) rfl) ?_
      refine ops_nil ?_
      repeat (first | refine aw_seq ?_ | refine ath_n ?_ | refine aw_skip ?_ | refine abl_n ?_ | refine aw_block ?_)
      refine aw_region ?_
      refine ops_op rfl rfl (runs_none rfl) (mv_s (.inl rfl) rfl) ?_
      refine ops_op rfl rfl (runs_none rfl) (does_add rfl rfl rfl (IntWalk.i64_in _ (by omega))) ?_
      refine ops_op rfl rfl (runs_none rfl) (mv_s (.inr rfl) rfl) ?_
      refine ops_nil ?_
      repeat (first | refine aw_seq ?_ | refine ath_n ?_ | refine aw_skip ?_ | refine abl_n ?_ | refine aw_block ?_)
      exact ⟨k + 1, by omega, by omega, wk_st [1] (by decide) ⟨⟨_, rfl, .rowE (rowI_lo _) (by rw [hd, List.map_append]; rfl)⟩, trivial⟩ ⟨.lo _ hln, .lo _ hls, .own 1 0 1 _ _ rfl (by rw [hd]; simp), .lo _ (by repeat' (first | exact Lo.s _ | exact Lo.emp | exact Lo.any | exact lo_nil | exact lo_nilE | refine lo_cons ?_ ?_ | refine lo_consE ?_ ?_ | refine lo_map ?_ | refine lo_mapE ?_ | refine Lo.cells ?_ | refine Lo.agg _ ?_ | refine Lo.ref _ ?_ | refine Lo.tup _ ?_ | refine Lo.fn _ _ ?_ | refine Lo.sl _ ?_ | intro _)), trivial⟩⟩
    · rw [if_neg (by omega), List.append_nil] at hd
      refine aw_region ?_
      refine ops_op rfl rfl (runs_none rfl) (mv_s (.inl rfl) rfl) ?_
      refine ops_op rfl rfl (runs_none rfl) (does_add rfl rfl rfl (IntWalk.i64_in _ (by omega))) ?_
      refine ops_op rfl rfl (runs_none rfl) (mv_s (.inr rfl) rfl) ?_
      refine ops_nil ?_
      repeat (first | refine aw_seq ?_ | refine ath_n ?_ | refine aw_skip ?_ | refine abl_n ?_ | refine aw_block ?_)
      exact ⟨k + 1, by omega, by omega, wk_st [0] (by decide) ⟨⟨_, rfl, .rowE (rowI_lo _) (by rw [hd])⟩, trivial⟩ ⟨.lo _ hln, .lo _ hls, .own 0 0 1 _ _ rfl (by rw [hd]), .lo _ (by repeat' (first | exact Lo.s _ | exact Lo.emp | exact Lo.any | exact lo_nil | exact lo_nilE | refine lo_cons ?_ ?_ | refine lo_consE ?_ ?_ | refine lo_map ?_ | refine lo_mapE ?_ | refine Lo.cells ?_ | refine Lo.agg _ ?_ | refine Lo.ref _ ?_ | refine Lo.tup _ ?_ | refine Lo.fn _ _ ?_ | refine Lo.sl _ ?_ | intro _)), trivial⟩⟩
  · have e : k = s.st.length := by omega
    subst e
    (refine aw_exit ?_; repeat (first | refine ath_x ?_ | refine abl_hit ?_ | refine abl_miss rfl ?_ | refine abl_n ?_ | refine ath_n ?_ | refine aw_seq ?_ | refine aw_skip ?_ | refine aw_block ?_))
    refine aw_region ?_
    first | refine ops_op rfl rfl (runs_none rfl) (mv_own (.inl rfl) rfl) ?_ | refine ops_op rfl rfl (runs_none rfl) (mv_sl (.inl rfl) rfl) ?_ | refine ops_op rfl rfl (runs_none rfl) (mv_s (.inl rfl) rfl) ?_ | refine ops_op rfl rfl (runs_none rfl) (mv_emp (.inl rfl) rfl) ?_
    first | refine ops_op rfl rfl (runs_none rfl) (mv_own (.inr rfl) rfl) ?_ | refine ops_op rfl rfl (runs_none rfl) (mv_sl (.inr rfl) rfl) ?_ | refine ops_op rfl rfl (runs_none rfl) (mv_s (.inr rfl) rfl) ?_ | refine ops_op rfl rfl (runs_none rfl) (mv_emp (.inr rfl) rfl) ?_
    refine ops_op rfl rfl (runs_none rfl) (mv_s (.inr rfl) rfl) ?_
    refine ops_nil ?_
    repeat (first | refine aw_seq ?_ | refine ath_n ?_ | refine aw_skip ?_ | refine abl_n ?_ | refine aw_block ?_)
    (refine aw_ret ?_; repeat (first | refine ath_r ?_ | refine abl_r ?_))
    exact post_le (N := 0) (.inr rfl) rfl rfl (.own _ _ _ _ _ rfl rfl (by simp)) HI
end Go.Proofs.Ythdpacbjbdkemaa.Aw
end
section
namespace Go.Proofs.Ythdpacbjbdkemaa.Aw
set_option linter.unusedSimpArgs false
set_option linter.unusedVariables false
set_option linter.unusedSectionVars false
open Go.RowKit

structure KE (G G' : Cx) : Prop where
  step : G.Step G'
  mu0 : ∀ y, G.mu 0 = some y → G'.mu 0 = some y
  rows : RowsKept G.w G'.w
theorem KE.refl (G : Cx) : KE G G := ⟨.refl G, fun _ h => h, RowsKept.refl _⟩
theorem KE.trans {G H K : Cx} (h : KE G H) (k : KE H K) : KE G K := ⟨h.step.trans k.step, fun y x => k.mu0 y (h.mu0 y x), h.rows.trans k.rows⟩
theorem KE.of {G G' : Cx} (e : G.Ext G') : KE G G' := ⟨e.step, e.mu 0, e.rows⟩
def liftK (N : Nat) (G : Cx) (Q : Exit → Frm → List Ob → Prop) : Exit → Act → World → Prop :=
  fun e a' w' => ∃ G' F' σ', G'.w = w' ∧ KE G G' ∧ S8 N G' a' F' σ' ∧ Q e F' σ'
theorem liftK_mono {N : Nat} {G G1 : Cx} (h : KE G G1) {Q Q' : Exit → Frm → List Ob → Prop} (hq : ∀ e F σ, Q e F σ → Q' e F σ) {e : Exit} {a : Act} {w : World} (x : liftK N G1 Q e a w) : liftK N G Q' e a w := by
  obtain ⟨G', F', σ', h1, h2, h3, h4⟩ := x
  exact ⟨G', F', σ', h1, h.trans h2, h3, hq _ _ _ h4⟩

def KWp (P : Program) (N : Nat) (c : Code) (F : Frm) (σ : List Ob) (Q : Exit → Frm → List Ob → Prop) : Prop :=
  ∀ G a, S8 N G a F σ → c.wp P (liftK N G Q) a G.w
def KOps (P : Program) (N : Nat) (ops : Array Oper) (l : List Oper) (F : Frm) (σ : List Ob) (Q : Exit → Frm → List Ob → Prop) : Prop :=
  ∀ G a, S8 N G a F σ → wpList P ops (liftK N G Q) l a G.w

section
variable {P : Program} {N : Nat} {F : Frm} {σ : List Ob} {Q : Exit → Frm → List Ob → Prop}

theorem kw_seq {x y : Code} (h : KWp P N x F σ (AThen (fun F σ => KWp P N y F σ Q) Q)) : KWp P N (.seq x y) F σ Q := fun G a hs => by
  refine wp_seq (Code.wp_mono (fun e a1 w1 q => ?_) (h G a hs))
  obtain ⟨G', F', σ', rfl, h2, h3, h4⟩ := q
  cases e with
  | normal => exact Code.wp_mono (fun e a w q => liftK_mono h2 (fun _ _ _ x => x) q) (h4 G' a1 h3)
  | _ => exact ⟨G', F', σ', rfl, h2, h3, h4⟩
theorem kw_skip (h : Q .normal F σ) : KWp P N .skip F σ Q := fun G a hs => wp_skip ⟨G, F, σ, rfl, .refl G, hs, h⟩
theorem kw_exit {id : Nat} (h : Q (.exit id) F σ) : KWp P N (.exit id) F σ Q := fun G a hs => wp_exit ⟨G, F, σ, rfl, .refl G, hs, h⟩
theorem kw_ret (h : Q .ret F σ) : KWp P N .ret F σ Q := fun G a hs => wp_ret ⟨G, F, σ, rfl, .refl G, hs, h⟩
theorem kw_block {id : Nat} {c : Code} (h : KWp P N c F σ (ABlk id Q)) : KWp P N (.block id c) F σ Q := fun G a hs => by
  refine wp_block (Code.wp_mono (fun e a1 w1 q => ?_) (h G a hs))
  obtain ⟨G', F', σ', rfl, h2, h3, h4⟩ := q
  cases e with
  | exit id' =>
    simp only [ABlk] at h4
    simp only [Exit.inBlock]
    split
    · rename_i e; rw [if_pos e] at h4; exact ⟨G', F', σ', rfl, h2, h3, h4⟩
    · rename_i e; rw [if_neg e] at h4; exact ⟨G', F', σ', rfl, h2, h3, h4⟩
  | _ => exact ⟨G', F', σ', rfl, h2, h3, h4⟩
theorem kw_cond {c : Operand} {x y : Code} {b : Bool} (hc : F.eval c = .s (.bool b)) (ht : b = true → KWp P N x F σ Q) (hf : b = false → KWp P N y F σ Q) : KWp P N (.cond c x y) F σ Q := fun G a hs =>
  wp_cond_split (rep_bool hs.fr hc) (fun e => ht e G a hs) (fun e => hf e G a hs)
theorem kw_true {c : Operand} {x y : Code} (hc : F.eval c = .s (.bool true)) (ht : KWp P N x F σ Q) : KWp P N (.cond c x y) F σ Q := kw_cond hc (fun _ => ht) (fun e => by cases e)
theorem kw_false {c : Operand} {x y : Code} (hc : F.eval c = .s (.bool false)) (ht : KWp P N y F σ Q) : KWp P N (.cond c x y) F σ Q := kw_cond hc (fun e => by cases e) (fun _ => ht)
theorem kw_loop {c : Code} (I : Nat → Frm → List Ob → Prop) (m : Nat) (h0 : I m F σ)
    (round : ∀ m F σ, I m F σ → KWp P N c F σ (AThen (fun F' σ' => ∃ m', m' < m ∧ I m' F' σ') Q)) : KWp P N (.loop c) F σ Q := fun G a hs => by
  refine wp_loop_ghost (fun n a w => ∃ G' F' σ', G'.w = w ∧ KE G G' ∧ S8 N G' a F' σ' ∧ I n F' σ') m ⟨G, F, σ, rfl, .refl G, hs, h0⟩ ?_
  rintro n a w ⟨G', F', σ', rfl, h2, h3, h4⟩
  refine Code.wp_mono (fun e a1 w1 q => ?_) (round n F' σ' h4 G' a h3)
  obtain ⟨G2, F2, σ2, rfl, h5, h6, h7⟩ := q
  cases e with
  | normal => obtain ⟨m', hm, hi⟩ := h7; exact ⟨m', hm, ⟨G2, F2, σ2, rfl, h2.trans h5, h6, hi⟩⟩
  | _ => exact ⟨G2, F2, σ2, rfl, h2.trans h5, h6, h7⟩

theorem kw_region {id : Nat} {l : List Oper} (h : KOps P N l.toArray l F σ Q) : KWp P N (.region id l.toArray false) F σ Q := fun G a hs => wp_region_lit (h G a hs)
theorem kw_mono {c : Code} {Q' : Exit → Frm → List Ob → Prop} (h : KWp P N c F σ Q) (hq : ∀ e F σ, Q e F σ → Q' e F σ) : KWp P N c F σ Q' := fun G a hs =>
  Code.wp_mono (fun e a w q => liftK_mono (.refl G) hq q) (h G a hs)

end

section
variable {P : Program} {N : Nat} {F : Frm} {σ σ' : List Ob} {Q : Exit → Frm → List Ob → Prop} {ops : Array Oper} {o : Oper} {l : List Oper} {x : AV}

theorem kops_nil (h : Q .normal F σ) : KOps P N ops [] F σ Q := fun G a hs => ⟨G, F, σ, rfl, .refl G, hs, h⟩
theorem kops_op {d : Nat} (hd : o.dst = some d) (hN : Nat.blt d N = true) (hr : Runs ops F o true) (hD : Does P o F σ x σ') (k : KOps P N ops l ((d, x) :: F) σ' Q) : KOps P N ops (o :: l) F σ Q := fun G a hs => by
  unfold wpList
  rw [if_pos (hr.wanted hs.fr)]
  left
  refine hD G a _ _ hs.rel (fun y _ => rep_eval hs.fr y) (fun v G' e r hv => ?_)
  rw [hd]
  exact wpList_mono (fun e' a w q => liftK_mono (KE.of e) (fun _ _ _ x => x) q) _ _ _ (k G' _ ((hs.step e r).put (by simpa [Nat.blt_eq] using hN) hv))
theorem kops_eff (hd : o.dst = none) (hr : Runs ops F o true) (hD : Does P o F σ x σ') (k : KOps P N ops l F σ' Q) : KOps P N ops (o :: l) F σ Q := fun G a hs => by
  unfold wpList
  rw [if_pos (hr.wanted hs.fr)]
  left
  refine hD G a _ _ hs.rel (fun y _ => rep_eval hs.fr y) (fun v G' e r hv => ?_)
  rw [hd]
  exact wpList_mono (fun e' a w q => liftK_mono (KE.of e) (fun _ _ _ x => x) q) _ _ _ (k G' _ (hs.step e r))
end


def WeakK (N : Nat) (F : Frm) (σ : List Ob) (F' : Frm) (σ' : List Ob) : Prop := ∀ G a, S8 N G a F σ → ∃ G', G'.w = G.w ∧ KE G G' ∧ S8 N G' a F' σ'
theorem WeakK.refl {N : Nat} {F : Frm} {σ : List Ob} : WeakK N F σ F σ := fun G a h => ⟨G, rfl, .refl G, h⟩
section
variable {P : Program} {N : Nat} {F F' : Frm} {σ σ' : List Ob} {Q : Exit → Frm → List Ob → Prop}
theorem kw_weak {c : Code} (w : WeakK N F σ F' σ') (h : KWp P N c F' σ' Q) : KWp P N c F σ Q := fun G a hs => by
  obtain ⟨G1, e1, s1, h1⟩ := w G a hs
  rw [← e1]
  exact Code.wp_mono (fun e a w q => liftK_mono s1 (fun _ _ _ x => x) q) (h G1 a h1)
/-- new names; the name 0 stays -/
theorem kwk_st (ρ : List Nat) (h0 : ρ[0]? = some 0) (hn : ρ.Nodup) (hs : StL ρ σ ρ σ') (hf : FrRn F ρ F') : WeakK N F σ F' σ' := fun G a h =>
  ⟨G.ren ρ, rfl, ⟨⟨rfl, rfl, fun _ _ h => h, fun _ _ _ => rfl, fun _ _ h => .inl h⟩, fun y hy => by simp [Cx.ren, h0, hy], RowsKept.refl _⟩, ⟨ren_rel h.rel hn (stRn_of ρ σ' hs), frRn_ok h.fr F' hf, h.df, h.nt⟩⟩
theorem kw_loops {c : Code} {S : Type} (fr : S → Frm) (st : S → List Ob) (inv : S → Prop) (ms : S → Nat) (s0 : S) (hw : WeakK N F σ (fr s0) (st s0)) (h0 : inv s0)
    (round : ∀ s, inv s → KWp P N c (fr s) (st s) (AThen (fun F' σ' => ∃ s', inv s' ∧ ms s' < ms s ∧ WeakK N F' σ' (fr s') (st s')) Q)) : KWp P N (.loop c) F σ Q := by
  refine kw_weak hw (kw_loop (fun m F σ => ∃ s, inv s ∧ ms s = m ∧ WeakK N F σ (fr s) (st s)) (ms s0) ⟨s0, h0, rfl, WeakK.refl⟩ (fun m F σ h => ?_))
  obtain ⟨s, h1, rfl, h3⟩ := h
  refine kw_weak h3 (kw_mono (round s h1) (fun e F σ q => ?_))
  cases e with
  | normal => obtain ⟨s', g1, g2, g3⟩ := q; exact ⟨ms s', g2, s', g1, rfl, g3⟩
  | _ => exact q
variable {ops : Array Oper} {o : Oper} {l : List Oper} {d : Nat}
theorem kops_opP {p : Prop} [Decidable p] (hd : o.dst = some d) (hN : Nat.blt d N = true) (hr : Runs ops F o true) (hD : Does P o F σ (.s (.bool (decide p))) σ) (k1 : p → KOps P N ops l ((d, .s (.bool true)) :: F) σ Q) (k2 : ¬ p → KOps P N ops l ((d, .s (.bool false)) :: F) σ Q) : KOps P N ops (o :: l) F σ Q := by
  by_cases h : p
  · exact kops_op hd hN hr (dec_t h hD) (k1 h)
  · exact kops_op hd hN hr (dec_f h hD) (k2 h)
theorem kops_opB {b : Bool} (hd : o.dst = some d) (hN : Nat.blt d N = true) (hr : Runs ops F o true) (hD : Does P o F σ (.s (.bool b)) σ) (k1 : b = true → KOps P N ops l ((d, .s (.bool true)) :: F) σ Q) (k2 : b = false → KOps P N ops l ((d, .s (.bool false)) :: F) σ Q) : KOps P N ops (o :: l) F σ Q := by
  cases b with
  | true => exact kops_op hd hN hr hD (k1 rfl)
  | false => exact kops_op hd hN hr hD (k2 rfl)
theorem fr_keep {G G' : Cx} {a : Act} (hF : ∀ p ∈ F, Lo 1 p.2) (h : FOk G a F) (k : KE G G') : FOk G' a F := fun t => by
  have key : ∀ F : Frm, (∀ p ∈ F, Lo 1 p.2) → Lo 1 (F.get t) := by
    intro F
    induction F with
    | nil => intro _; exact .any
    | cons p F ih =>
      intro hF
      obtain ⟨d, x⟩ := p
      simp only [Frm.get]
      cases Nat.beq d t with
      | true => exact hF (d, x) List.mem_cons_self
      | false => exact ih (fun p hp => hF p (List.mem_cons_of_mem _ hp))
  refine (h t).low (key F hF) k.step.st k.step.cell (fun id y hid hy => ?_) (fun _ => k.rows)
  obtain rfl : id = 0 := by omega
  exact k.mu0 y hy
section
variable {fo : Operand} {ar : Array Operand} {ts : Array TypeId} {f : FuncId} {x : AV} {e n : Int}
end
end
theorem hF_nil : ∀ p ∈ ([] : Frm), Lo 1 p.2 := by simp
theorem hF_cons {d : Nat} {x : AV} {F : Frm} (h : Lo 1 x) (t : ∀ p ∈ F, Lo 1 p.2) : ∀ p ∈ (d, x) :: F, Lo 1 p.2 := fun p hp => by
  rcases List.mem_cons.1 hp with rfl | hp
  · exact h
  · exact t p hp
end Go.Proofs.Ythdpacbjbdkemaa.Aw
end
