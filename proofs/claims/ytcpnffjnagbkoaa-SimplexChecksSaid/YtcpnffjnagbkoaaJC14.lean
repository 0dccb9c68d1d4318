/-
  Texts joined: SxH. Conditions: none.
-/
import Derived.Test.YtcpnffjnagbkoaaJC13
section
namespace Go.Proofs.Ytcpnffjnagbkoaa.Aw
set_option linter.unusedSimpArgs false
set_option linter.unusedVariables false
set_option linter.unusedSectionVars false
open Go.RowKit Go.Proofs
variable {P : Program} [IsP P]

noncomputable def decP (p : Prop) : Bool := @decide p (Classical.propDecidable p)
theorem decP_t {p : Prop} (h : p) : true = decP p := by unfold decP; exact (@decide_eq_true _ (Classical.propDecidable p) h).symm
theorem decP_f {p : Prop} (h : ¬ p) : false = decP p := by unfold decP; exact (@decide_eq_false _ (Classical.propDecidable p) h).symm
structure Sol where
  kind : Int
  x : List Fr
  y : List Fr
  ray : List Fr
  v : Fr
def eSol (s : Sol) : AV := .agg [eI s.kind, eL eF s.x, eL eF s.y, eL eF s.ray, eI s.v.n, eI s.v.d]
theorem fr_eq {a b c d : Int} (h : [Value.int .i64 a, Value.int .i64 b] = [Value.int .i64 c, Value.int .i64 d]) : a = c ∧ b = d := by cases h; exact ⟨rfl, rfl⟩
theorem fr_mk {a b c d : Int} (h : a = c ∧ b = d) : [Value.int .i64 a, Value.int .i64 b] = [Value.int .i64 c, Value.int .i64 d] := by rw [h.1, h.2]
theorem cl_t {p : Prop} (h : @decide p (Classical.propDecidable p) = true) : p := @of_decide_eq_true p (Classical.propDecidable p) h
theorem cl_f {p : Prop} (h : @decide p (Classical.propDecidable p) = false) : ¬ p := @of_decide_eq_false p (Classical.propDecidable p) h
theorem fr_eqT {a b c d : Int} (h : @decide ([Value.int .i64 a, Value.int .i64 b] = [Value.int .i64 c, Value.int .i64 d]) (Classical.propDecidable _) = true) : a = c ∧ b = d := fr_eq (cl_t h)
theorem fr_eqF {a b c d : Int} (h : @decide ([Value.int .i64 a, Value.int .i64 b] = [Value.int .i64 c, Value.int .i64 d]) (Classical.propDecidable _) = false) : ¬ (a = c ∧ b = d) := fun g => cl_f h (fr_mk g)
theorem fr_neT {a b c d : Int} (h : @decide ([Value.int .i64 a, Value.int .i64 b] ≠ [Value.int .i64 c, Value.int .i64 d]) (Classical.propDecidable _) = true) : ¬ (a = c ∧ b = d) := fun g => cl_t h (fr_mk g)
theorem fr_neF {a b c d : Int} (h : @decide ([Value.int .i64 a, Value.int .i64 b] ≠ [Value.int .i64 c, Value.int .i64 d]) (Classical.propDecidable _) = false) : a = c ∧ b = d := fr_eq (Classical.not_not.1 (cl_f h))
def Opt (b1 b2 b3 u : Bool) (l : Nat) (dx dy : FE) (v : Fr) : Prop := b1 = true ∧ b2 = true ∧ b3 = true ∧ l = 0 ∧ u = true ∧ dx.e = 0 ∧ dy.e = 0 ∧ (dx.n = dy.n ∧ dx.d = dy.d) ∧ (v.n = dx.n ∧ v.d = dx.d)
def Inf (l l2 : Nat) (v : Fr) (b2 b3 u : Bool) (dy : FE) : Prop := l = 0 ∧ l2 = 0 ∧ (v.n = 0 ∧ v.d = 0) ∧ b2 = true ∧ b3 = true ∧ u = true ∧ dy.e = 0 ∧ dy.n > 0
def Unb (l : Nat) (v : Fr) (b1 b2 : Bool) (r : Bool × Int) (dr : FE) : Prop := l = 0 ∧ (v.n = 0 ∧ v.d = 0) ∧ b1 = true ∧ b2 = true ∧ r.1 = true ∧ r.2 = 0 ∧ dr.e = 0 ∧ dr.n < 0
noncomputable def checkB (p : LP) (s : Sol) : Bool :=
  if validP p = true then
    if s.kind = 1 then decP (Opt (solB p s.x) (fineB s.y p.a.length) (signsB p s.y) (undR p s.y p.c).1 s.ray.length (dotE p.c s.x) (dotE p.b s.y) s.v)
    else if s.kind = 2 then decP (Inf s.x.length s.ray.length s.v (fineB s.y p.a.length) (signsB p s.y) (undR p s.y (zerosL p.c.length)).1 (dotE p.b s.y))
    else if s.kind = 3 then decP (Unb s.y.length s.v (solB p s.x) (fineB s.ray p.c.length) (metE p s.ray (zerosL p.a.length)) (dotE p.c s.ray))
    else false
  else false
theorem zerosL_len (n : Nat) : (zerosL n).length = n := by simp [zerosL]
set_option maxHeartbeats 4000000 in
theorem sCheck_pf (p : LP) (s : Sol) : Pure P 7 [eP p, eSol s] (eB (checkB p s)) := by
  have HI : checkB p s = checkB p s := rfl
  generalize hR : checkB p s = R at HI ⊢
  unfold checkB at hR
  clear HI
  refine aw_fn (by rw [IsP.eq (P := P)]; exact Try.func7) rfl rfl rfl rfl rfl (by repeat' (first | exact Lo.s _ | exact Lo.emp | exact Lo.any | exact lo_nil | exact lo_nilE | refine lo_cons ?_ ?_ | refine lo_consE ?_ ?_ | refine lo_map ?_ | refine lo_mapE ?_ | refine Lo.cells ?_ | refine Lo.agg _ ?_ | refine Lo.ref _ ?_ | refine Lo.tup _ ?_ | refine Lo.fn _ _ ?_ | refine Lo.sl _ ?_ | intro _)) (by repeat' (first | exact Lo.s _ | exact Lo.emp | exact Lo.any | exact lo_nil | exact lo_nilE | refine lo_cons ?_ ?_ | refine lo_consE ?_ ?_ | refine lo_map ?_ | refine lo_mapE ?_ | refine Lo.cells ?_ | refine Lo.agg _ ?_ | refine Lo.ref _ ?_ | refine Lo.tup _ ?_ | refine Lo.fn _ _ ?_ | refine Lo.sl _ ?_ | intro _)) (by simp only [argF]; rfl) ?_
  repeat (first | refine aw_seq ?_ | refine ath_n ?_ | refine aw_skip ?_ | refine abl_n ?_ | refine aw_block ?_)
  refine aw_region ?_
  refine ops_op rfl rfl (runs_none rfl) (does_box rfl rfl rfl rfl) ?_
  refine aops_weak (wk_froz (id := 0) rfl) (aops_weak (wk_ref (d := 2) rfl rfl rfl) ?_)
  refine ops_op rfl rfl (runs_none rfl) (does_box rfl rfl rfl rfl) ?_
  refine aops_weak (wk_froz (id := 1) rfl) (aops_weak (wk_ref (d := 3) rfl rfl rfl) ?_)
  refine ops_op rfl rfl (runs_none rfl) (mv_s (.inr rfl) rfl) ?_
  refine ops_nil ?_
  repeat (first | refine aw_seq ?_ | refine ath_n ?_ | refine aw_skip ?_ | refine abl_n ?_ | refine aw_block ?_)
  all_goals refine aw_region ?_
  all_goals (first | refine ops_op rfl rfl (runs_none rfl) (does_load_refw rfl ta26 ti26 rfl rfl) ?_ | refine ops_op rfl rfl (runs_none rfl) (does_load_whole rfl ta26 ti26 rfl rfl rfl rfl rfl) ?_ | refine ops_op rfl rfl (runs_none rfl) (does_load_refs rfl ta26 ti26 rfl (Nat.le_of_ble_eq_true rfl)) ?_ | refine ops_op rfl rfl (runs_none rfl) (does_load_ptrs rfl ta26 ti26 rfl rfl rfl rfl (Nat.le_of_ble_eq_true rfl)) ?_)
  all_goals (first | refine ops_opP rfl rfl (runs_none rfl) (does_call rfl rfl (sValid_pf _) (evc_cons rfl evc_nil)) (fun h22 => ?_) (fun h22 => ?_) | refine ops_opB rfl rfl (runs_none rfl) (does_call rfl rfl (sValid_pf _) (evc_cons rfl evc_nil)) (fun h22 => ?_) (fun h22 => ?_))
  all_goals (first | refine ops_op rfl rfl (runs_none rfl) (does_notp rfl rfl) ?_ | refine ops_op rfl rfl (runs_none rfl) (does_not rfl rfl) ?_)
  all_goals refine ops_nil ?_
  all_goals (repeat (first | refine aw_seq ?_ | refine ath_n ?_ | refine aw_skip ?_ | refine abl_n ?_ | refine aw_block ?_))
  all_goals (first | refine aw_true rfl ?_ | refine aw_false rfl ?_)
  all_goals (repeat (first | refine aw_seq ?_ | refine ath_n ?_ | refine aw_skip ?_ | refine abl_n ?_ | refine aw_block ?_))
  rotate_left 1
  · skip
    refine aw_region ?_
    refine ops_op rfl rfl (runs_none rfl) (mv_s (.inr rfl) rfl) ?_
    refine ops_nil ?_
    repeat (first | refine aw_seq ?_ | refine ath_n ?_ | refine aw_skip ?_ | refine abl_n ?_ | refine aw_block ?_)
    (refine aw_ret ?_; repeat (first | refine ath_r ?_ | refine abl_r ?_))
    exact post1 (.inr rfl) rfl (congrArg eB (by rw [← hR, if_neg (by rw [h22]; simp)]))
  obtain ⟨q1, q2, q3, q4⟩ := validP_len h22
  rw [if_pos h22] at hR
  refine aw_draw hmix ?_
  refine adraw_quiet (by kernel_rfl) ?_
  first | refine qx_op rfl rfl (runs_none rfl) (does_fieldAddr_ptr rfl tf26_0 (by decide) rfl) ?_ | refine qx_op rfl rfl (runs_none rfl) (does_fieldAddr_ref rfl tf26_0 (by decide) rfl) ?_
  first | refine qx_op rfl rfl (runs_none rfl) (does_load_ref rfl ta22 rfl) ?_ | refine qx_op rfl rfl (runs_none rfl) (does_load_ptr rfl ta22 rfl rfl rfl rfl rfl) ?_
  first | refine qx_op rfl rfl (runs_none rfl) (does_len_map rfl ts22 rfl) ?_ | refine qx_op rfl rfl (runs_none rfl) (does_len_sl rfl ts22 rfl) ?_ | refine qx_op rfl rfl (runs_none rfl) (does_len_own rfl ts22 rfl) ?_ | refine qx_op rfl rfl (runs_none rfl) (does_len_s rfl ts22 rfl) ?_ | refine qx_op rfl rfl (runs_none rfl) (does_len_emp rfl ts22 rfl) ?_
  first | refine qx_op rfl rfl (runs_none rfl) (does_fieldAddr_ptr rfl tf26_1 (by decide) rfl) ?_ | refine qx_op rfl rfl (runs_none rfl) (does_fieldAddr_ref rfl tf26_1 (by decide) rfl) ?_
  first | refine qx_op rfl rfl (runs_none rfl) (does_load_ref rfl ta23 rfl) ?_ | refine qx_op rfl rfl (runs_none rfl) (does_load_ptr rfl ta23 rfl rfl rfl rfl rfl) ?_
  first | refine qx_op rfl rfl (runs_none rfl) (does_len_map rfl ts23 rfl) ?_ | refine qx_op rfl rfl (runs_none rfl) (does_len_sl rfl ts23 rfl) ?_ | refine qx_op rfl rfl (runs_none rfl) (does_len_own rfl ts23 rfl) ?_ | refine qx_op rfl rfl (runs_none rfl) (does_len_s rfl ts23 rfl) ?_ | refine qx_op rfl rfl (runs_none rfl) (does_len_emp rfl ts23 rfl) ?_
  refine qx_op rfl rfl (runs_none rfl) (mv_s (.inr rfl) rfl) ?_
  refine qx_op rfl rfl (runs_none rfl) (mv_s (.inr rfl) rfl) ?_
  refine qx_nil ?_
  repeat (first | refine aw_seq ?_ | refine ath_n ?_ | refine aw_skip ?_ | refine abl_n ?_ | refine aw_block ?_)
  refine aw_region ?_
  first | refine ops_op rfl rfl (runs_none rfl) (does_fieldAddr_ptr rfl tf30_0 (by decide) rfl) ?_ | refine ops_op rfl rfl (runs_none rfl) (does_fieldAddr_ref rfl tf30_0 (by decide) rfl) ?_
  first | refine ops_op rfl rfl (runs_none rfl) (does_load_ref rfl ta3 rfl) ?_ | refine ops_op rfl rfl (runs_none rfl) (does_load_ptr rfl ta3 rfl rfl rfl rfl rfl) ?_
  refine ops_nil ?_
  repeat (first | refine aw_seq ?_ | refine ath_n ?_ | refine aw_skip ?_ | refine abl_n ?_ | refine aw_block ?_)
  all_goals refine aw_region ?_
  all_goals (first | refine ops_opP rfl rfl (runs_none rfl) (does_eql rfl rfl rfl) (fun h33 => ?_) (fun h33 => ?_) | refine ops_opB rfl rfl (runs_none rfl) (does_eql rfl rfl rfl) (fun h33 => ?_) (fun h33 => ?_))
  all_goals refine ops_op rfl rfl (runs_none rfl) (mv_s (.inr rfl) rfl) ?_
  all_goals refine ops_nil ?_
  all_goals (repeat (first | refine aw_seq ?_ | refine ath_n ?_ | refine aw_skip ?_ | refine abl_n ?_ | refine aw_block ?_))
  all_goals (first | refine aw_true rfl ?_ | refine aw_false rfl ?_)
  all_goals (repeat (first | refine aw_seq ?_ | refine ath_n ?_ | refine aw_skip ?_ | refine abl_n ?_ | refine aw_block ?_))
  · rw [if_pos h33] at hR
    have hs1 := solution_pf (P := P) p s.x h22
    have hu : Pure P 26 [eP p, eL eF s.y, eL eF p.c] (.tup [eB (undR p s.y p.c).1, eI (undR p s.y p.c).2]) := under_pf (P := P) p s.y p.c h22 rfl
    have ht := @undR_t p s.y p.c
    have hdx := fDot_pf (P := P) p.c s.x
    have hdy := fDot_pf (P := P) p.b s.y
    generalize (undR p s.y p.c).1 = b at hu ht hR
    generalize (undR p s.y p.c).2 = e at hu ht
    generalize dotE p.c s.x = dx at hdx hR
    generalize dotE p.b s.y = dy at hdy hR
    all_goals refine aw_region ?_
    all_goals (first | refine ops_op rfl rfl (runs_none rfl) (does_load_refw rfl ta26 ti26 rfl rfl) ?_ | refine ops_op rfl rfl (runs_none rfl) (does_load_whole rfl ta26 ti26 rfl rfl rfl rfl rfl) ?_ | refine ops_op rfl rfl (runs_none rfl) (does_load_refs rfl ta26 ti26 rfl (Nat.le_of_ble_eq_true rfl)) ?_ | refine ops_op rfl rfl (runs_none rfl) (does_load_ptrs rfl ta26 ti26 rfl rfl rfl rfl (Nat.le_of_ble_eq_true rfl)) ?_)
    all_goals (first | refine ops_op rfl rfl (runs_none rfl) (does_fieldAddr_ptr rfl tf30_1 (by decide) rfl) ?_ | refine ops_op rfl rfl (runs_none rfl) (does_fieldAddr_ref rfl tf30_1 (by decide) rfl) ?_)
    all_goals (first | refine ops_op rfl rfl (runs_none rfl) (does_load_ref rfl ta22 rfl) ?_ | refine ops_op rfl rfl (runs_none rfl) (does_load_ptr rfl ta22 rfl rfl rfl rfl rfl) ?_)
    all_goals (first | refine ops_opP rfl rfl (runs_none rfl) (does_call rfl rfl (hs1) (evc_cons rfl (evc_cons rfl evc_nil))) (fun h37 => ?_) (fun h37 => ?_) | refine ops_opB rfl rfl (runs_none rfl) (does_call rfl rfl (hs1) (evc_cons rfl (evc_cons rfl evc_nil))) (fun h37 => ?_) (fun h37 => ?_))
    all_goals (first | refine ops_op rfl rfl (runs_none rfl) (does_notp rfl rfl) ?_ | refine ops_op rfl rfl (runs_none rfl) (does_not rfl rfl) ?_)
    all_goals refine ops_op rfl rfl (runs_none rfl) (mv_s (.inl rfl) rfl) ?_
    all_goals (first | refine ops_op rfl rfl (runs_y rfl rfl rfl) (does_fieldAddr_ptr rfl tf30_2 (by decide) rfl) ?_ | refine ops_op rfl rfl (runs_y rfl rfl rfl) (does_fieldAddr_ref rfl tf30_2 (by decide) rfl) ?_ | refine ops_skip rfl rfl (runs_nf rfl rfl rfl) ?_ | refine ops_skip rfl rfl (runs_nu rfl rfl rfl) ?_)
    all_goals (first | refine ops_op rfl rfl (runs_y rfl rfl rfl) (does_load_ref rfl ta22 rfl) ?_ | refine ops_op rfl rfl (runs_y rfl rfl rfl) (does_load_ptr rfl ta22 rfl rfl rfl rfl rfl) ?_ | refine ops_skip rfl rfl (runs_nf rfl rfl rfl) ?_ | refine ops_skip rfl rfl (runs_nu rfl rfl rfl) ?_)
    all_goals (first | refine ops_op rfl rfl (runs_y rfl rfl rfl) (mv_s (.inl rfl) rfl) ?_ | refine ops_skip rfl rfl (runs_nf rfl rfl rfl) ?_ | refine ops_skip rfl rfl (runs_nu rfl rfl rfl) ?_)
    all_goals (first | refine ops_opP rfl rfl (runs_y rfl rfl rfl) (does_call rfl rfl (fine_pf _ _) (evc_cons rfl (evc_cons rfl evc_nil))) (fun h43 => ?_) (fun h43 => ?_) | refine ops_opB rfl rfl (runs_y rfl rfl rfl) (does_call rfl rfl (fine_pf _ _) (evc_cons rfl (evc_cons rfl evc_nil))) (fun h43 => ?_) (fun h43 => ?_) | refine ops_skip rfl rfl (runs_nf rfl rfl rfl) ?_ | refine ops_skip rfl rfl (runs_nu rfl rfl rfl) ?_)
    all_goals (first | refine ops_op rfl rfl (runs_y rfl rfl rfl) (does_notp rfl rfl) ?_ | refine ops_op rfl rfl (runs_y rfl rfl rfl) (does_not rfl rfl) ?_ | refine ops_skip rfl rfl (runs_nf rfl rfl rfl) ?_ | refine ops_skip rfl rfl (runs_nu rfl rfl rfl) ?_)
    all_goals (first | refine ops_op rfl rfl (runs_none rfl) (pickT_s rfl rfl rfl) ?_ | refine ops_op rfl rfl (runs_none rfl) (pickF_s rfl rfl rfl) ?_ | refine ops_op rfl rfl (runs_none rfl) (does_pickT rfl rfl rfl) ?_ | refine ops_op rfl rfl (runs_none rfl) (does_pickF rfl rfl rfl) ?_)
    all_goals refine ops_op rfl rfl (runs_none rfl) (mv_s (.inl rfl) rfl) ?_
    all_goals (first | refine ops_op rfl rfl (runs_y rfl rfl rfl) (does_load_refw rfl ta26 ti26 rfl rfl) ?_ | refine ops_op rfl rfl (runs_y rfl rfl rfl) (does_load_whole rfl ta26 ti26 rfl rfl rfl rfl rfl) ?_ | refine ops_op rfl rfl (runs_y rfl rfl rfl) (does_load_refs rfl ta26 ti26 rfl (Nat.le_of_ble_eq_true rfl)) ?_ | refine ops_op rfl rfl (runs_y rfl rfl rfl) (does_load_ptrs rfl ta26 ti26 rfl rfl rfl rfl (Nat.le_of_ble_eq_true rfl)) ?_ | refine ops_skip rfl rfl (runs_nf rfl rfl rfl) ?_ | refine ops_skip rfl rfl (runs_nu rfl rfl rfl) ?_)
    all_goals (first | refine ops_op rfl rfl (runs_y rfl rfl rfl) (does_fieldAddr_ptr rfl tf30_2 (by decide) rfl) ?_ | refine ops_op rfl rfl (runs_y rfl rfl rfl) (does_fieldAddr_ref rfl tf30_2 (by decide) rfl) ?_ | refine ops_skip rfl rfl (runs_nf rfl rfl rfl) ?_ | refine ops_skip rfl rfl (runs_nu rfl rfl rfl) ?_)
    all_goals (first | refine ops_op rfl rfl (runs_y rfl rfl rfl) (does_load_ref rfl ta22 rfl) ?_ | refine ops_op rfl rfl (runs_y rfl rfl rfl) (does_load_ptr rfl ta22 rfl rfl rfl rfl rfl) ?_ | refine ops_skip rfl rfl (runs_nf rfl rfl rfl) ?_ | refine ops_skip rfl rfl (runs_nu rfl rfl rfl) ?_)
    all_goals (first | refine ops_opP rfl rfl (runs_y rfl rfl rfl) (does_call rfl rfl ((signed_pf p s.y (by have := (fineB_iff.1 h43).1; omega))) (evc_cons rfl (evc_cons rfl evc_nil))) (fun h50 => ?_) (fun h50 => ?_) | refine ops_opB rfl rfl (runs_y rfl rfl rfl) (does_call rfl rfl ((signed_pf p s.y (by have := (fineB_iff.1 h43).1; omega))) (evc_cons rfl (evc_cons rfl evc_nil))) (fun h50 => ?_) (fun h50 => ?_) | refine ops_skip rfl rfl (runs_nf rfl rfl rfl) ?_ | refine ops_skip rfl rfl (runs_nu rfl rfl rfl) ?_)
    all_goals (first | refine ops_op rfl rfl (runs_y rfl rfl rfl) (does_notp rfl rfl) ?_ | refine ops_op rfl rfl (runs_y rfl rfl rfl) (does_not rfl rfl) ?_ | refine ops_skip rfl rfl (runs_nf rfl rfl rfl) ?_ | refine ops_skip rfl rfl (runs_nu rfl rfl rfl) ?_)
    all_goals (first | refine ops_op rfl rfl (runs_none rfl) (pickT_s rfl rfl rfl) ?_ | refine ops_op rfl rfl (runs_none rfl) (pickF_s rfl rfl rfl) ?_ | refine ops_op rfl rfl (runs_none rfl) (does_pickT rfl rfl rfl) ?_ | refine ops_op rfl rfl (runs_none rfl) (does_pickF rfl rfl rfl) ?_)
    all_goals refine ops_op rfl rfl (runs_none rfl) (mv_s (.inl rfl) rfl) ?_
    all_goals (first | refine ops_op rfl rfl (runs_y rfl rfl rfl) (does_fieldAddr_ptr rfl tf30_3 (by decide) rfl) ?_ | refine ops_op rfl rfl (runs_y rfl rfl rfl) (does_fieldAddr_ref rfl tf30_3 (by decide) rfl) ?_ | refine ops_skip rfl rfl (runs_nf rfl rfl rfl) ?_ | refine ops_skip rfl rfl (runs_nu rfl rfl rfl) ?_)
    all_goals (first | refine ops_op rfl rfl (runs_y rfl rfl rfl) (does_load_ref rfl ta22 rfl) ?_ | refine ops_op rfl rfl (runs_y rfl rfl rfl) (does_load_ptr rfl ta22 rfl rfl rfl rfl rfl) ?_ | refine ops_skip rfl rfl (runs_nf rfl rfl rfl) ?_ | refine ops_skip rfl rfl (runs_nu rfl rfl rfl) ?_)
    all_goals (first | refine ops_op rfl rfl (runs_y rfl rfl rfl) (does_len_map rfl ts22 rfl) ?_ | refine ops_op rfl rfl (runs_y rfl rfl rfl) (does_len_sl rfl ts22 rfl) ?_ | refine ops_op rfl rfl (runs_y rfl rfl rfl) (does_len_own rfl ts22 rfl) ?_ | refine ops_op rfl rfl (runs_y rfl rfl rfl) (does_len_s rfl ts22 rfl) ?_ | refine ops_op rfl rfl (runs_y rfl rfl rfl) (does_len_emp rfl ts22 rfl) ?_ | refine ops_skip rfl rfl (runs_nf rfl rfl rfl) ?_ | refine ops_skip rfl rfl (runs_nu rfl rfl rfl) ?_)
    all_goals (first | refine ops_opP rfl rfl (runs_y rfl rfl rfl) (does_gtr rfl rfl rfl) (fun h57 => ?_) (fun h57 => ?_) | refine ops_opB rfl rfl (runs_y rfl rfl rfl) (does_gtr rfl rfl rfl) (fun h57 => ?_) (fun h57 => ?_) | refine ops_skip rfl rfl (runs_nf rfl rfl rfl) ?_ | refine ops_skip rfl rfl (runs_nu rfl rfl rfl) ?_)
    all_goals (first | refine ops_op rfl rfl (runs_none rfl) (pickT_s rfl rfl rfl) ?_ | refine ops_op rfl rfl (runs_none rfl) (pickF_s rfl rfl rfl) ?_ | refine ops_op rfl rfl (runs_none rfl) (does_pickT rfl rfl rfl) ?_ | refine ops_op rfl rfl (runs_none rfl) (does_pickF rfl rfl rfl) ?_)
    all_goals refine ops_nil ?_
    all_goals (repeat (first | refine aw_seq ?_ | refine ath_n ?_ | refine aw_skip ?_ | refine abl_n ?_ | refine aw_block ?_))
    all_goals (first | refine aw_true rfl ?_ | refine aw_false rfl ?_)
    all_goals (repeat (first | refine aw_seq ?_ | refine ath_n ?_ | refine aw_skip ?_ | refine abl_n ?_ | refine aw_block ?_))
    all_goals first
      | skip
        refine aw_region ?_
        refine ops_op rfl rfl (runs_none rfl) (mv_s (.inr rfl) rfl) ?_
        refine ops_nil ?_
        repeat (first | refine aw_seq ?_ | refine ath_n ?_ | refine aw_skip ?_ | refine abl_n ?_ | refine aw_block ?_)
        (refine aw_ret ?_; repeat (first | refine ath_r ?_ | refine abl_r ?_))
        exact post1 (.inr rfl) rfl (congrArg eB (by
          rw [← hR]
          refine decP_f ?_
          rintro ⟨g1, g2, g3, g4, g5, g6, g7, g8, g9⟩
          first | omega | exact Bool.noConfusion (g1.symm.trans h37) | exact Bool.noConfusion (g2.symm.trans h43) | exact Bool.noConfusion (g3.symm.trans h50)))
      | skip
    refine aw_region ?_
    first | refine ops_op rfl rfl (runs_none rfl) (does_load_refw rfl ta26 ti26 rfl rfl) ?_ | refine ops_op rfl rfl (runs_none rfl) (does_load_whole rfl ta26 ti26 rfl rfl rfl rfl rfl) ?_ | refine ops_op rfl rfl (runs_none rfl) (does_load_refs rfl ta26 ti26 rfl (Nat.le_of_ble_eq_true rfl)) ?_ | refine ops_op rfl rfl (runs_none rfl) (does_load_ptrs rfl ta26 ti26 rfl rfl rfl rfl (Nat.le_of_ble_eq_true rfl)) ?_
    first | refine ops_op rfl rfl (runs_none rfl) (does_fieldAddr_ptr rfl tf30_2 (by decide) rfl) ?_ | refine ops_op rfl rfl (runs_none rfl) (does_fieldAddr_ref rfl tf30_2 (by decide) rfl) ?_
    first | refine ops_op rfl rfl (runs_none rfl) (does_load_ref rfl ta22 rfl) ?_ | refine ops_op rfl rfl (runs_none rfl) (does_load_ptr rfl ta22 rfl rfl rfl rfl rfl) ?_
    first | refine ops_op rfl rfl (runs_none rfl) (does_fieldAddr_ptr rfl tf26_0 (by decide) rfl) ?_ | refine ops_op rfl rfl (runs_none rfl) (does_fieldAddr_ref rfl tf26_0 (by decide) rfl) ?_
    first | refine ops_op rfl rfl (runs_none rfl) (does_load_ref rfl ta22 rfl) ?_ | refine ops_op rfl rfl (runs_none rfl) (does_load_ptr rfl ta22 rfl rfl rfl rfl rfl) ?_
    refine ops_op rfl rfl (runs_none rfl) (does_call rfl rfl (hu) (evc_cons rfl (evc_cons rfl (evc_cons rfl evc_nil)))) ?_
    first | refine ops_op rfl rfl (runs_none rfl) (mv_tup (.inl rfl) rfl) ?_ | refine ops_op rfl rfl (runs_none rfl) (mv_s (.inl rfl) rfl) ?_
    refine ops_op rfl rfl (runs_none rfl) (does_extract rfl rfl rfl) ?_
    refine ops_op rfl rfl (runs_none rfl) (does_extract rfl rfl rfl) ?_
    refine ops_op rfl rfl (runs_none rfl) (mv_s (.inr rfl) rfl) ?_
    refine ops_op rfl rfl (runs_none rfl) (mv_s (.inr rfl) rfl) ?_
    refine ops_nil ?_
    repeat (first | refine aw_seq ?_ | refine ath_n ?_ | refine aw_skip ?_ | refine abl_n ?_ | refine aw_block ?_)
    refine aw_region ?_
    first | refine ops_op rfl rfl (runs_none rfl) (does_fieldAddr_ptr rfl tf26_0 (by decide) rfl) ?_ | refine ops_op rfl rfl (runs_none rfl) (does_fieldAddr_ref rfl tf26_0 (by decide) rfl) ?_
    first | refine ops_op rfl rfl (runs_none rfl) (does_load_ref rfl ta22 rfl) ?_ | refine ops_op rfl rfl (runs_none rfl) (does_load_ptr rfl ta22 rfl rfl rfl rfl rfl) ?_
    first | refine ops_op rfl rfl (runs_none rfl) (does_fieldAddr_ptr rfl tf30_1 (by decide) rfl) ?_ | refine ops_op rfl rfl (runs_none rfl) (does_fieldAddr_ref rfl tf30_1 (by decide) rfl) ?_
    first | refine ops_op rfl rfl (runs_none rfl) (does_load_ref rfl ta22 rfl) ?_ | refine ops_op rfl rfl (runs_none rfl) (does_load_ptr rfl ta22 rfl rfl rfl rfl rfl) ?_
    refine ops_op rfl rfl (runs_none rfl) (does_call rfl rfl (hdx) (evc_cons rfl (evc_cons rfl evc_nil))) ?_
    first | refine ops_op rfl rfl (runs_none rfl) (mv_tup (.inl rfl) rfl) ?_ | refine ops_op rfl rfl (runs_none rfl) (mv_s (.inl rfl) rfl) ?_
    refine ops_op rfl rfl (runs_none rfl) (does_extract rfl rfl rfl) ?_
    refine ops_op rfl rfl (runs_none rfl) (does_extract rfl rfl rfl) ?_
    refine ops_op rfl rfl (runs_none rfl) (does_alloc rfl ti28 rfl rfl) ?_
    refine ops_eff rfl (runs_none rfl) (does_store rfl ti28 rfl rfl rfl rfl rfl rfl (by decide) (by decide)) ?_
    refine ops_op rfl rfl (runs_none rfl) (mv_s (.inr rfl) rfl) ?_
    refine ops_nil ?_
    repeat (first | refine aw_seq ?_ | refine ath_n ?_ | refine aw_skip ?_ | refine abl_n ?_ | refine aw_block ?_)
    refine aw_region ?_
    first | refine ops_op rfl rfl (runs_none rfl) (does_fieldAddr_ptr rfl tf26_3 (by decide) rfl) ?_ | refine ops_op rfl rfl (runs_none rfl) (does_fieldAddr_ref rfl tf26_3 (by decide) rfl) ?_
    first | refine ops_op rfl rfl (runs_none rfl) (does_load_ref rfl ta22 rfl) ?_ | refine ops_op rfl rfl (runs_none rfl) (does_load_ptr rfl ta22 rfl rfl rfl rfl rfl) ?_
    first | refine ops_op rfl rfl (runs_none rfl) (does_fieldAddr_ptr rfl tf30_2 (by decide) rfl) ?_ | refine ops_op rfl rfl (runs_none rfl) (does_fieldAddr_ref rfl tf30_2 (by decide) rfl) ?_
    first | refine ops_op rfl rfl (runs_none rfl) (does_load_ref rfl ta22 rfl) ?_ | refine ops_op rfl rfl (runs_none rfl) (does_load_ptr rfl ta22 rfl rfl rfl rfl rfl) ?_
    refine ops_op rfl rfl (runs_none rfl) (does_call rfl rfl (hdy) (evc_cons rfl (evc_cons rfl evc_nil))) ?_
    first | refine ops_op rfl rfl (runs_none rfl) (mv_tup (.inl rfl) rfl) ?_ | refine ops_op rfl rfl (runs_none rfl) (mv_s (.inl rfl) rfl) ?_
    refine ops_op rfl rfl (runs_none rfl) (does_extract rfl rfl rfl) ?_
    refine ops_op rfl rfl (runs_none rfl) (does_extract rfl rfl rfl) ?_
    refine ops_op rfl rfl (runs_none rfl) (does_alloc rfl ti28 rfl rfl) ?_
    refine ops_eff rfl (runs_none rfl) (does_store rfl ti28 rfl rfl rfl rfl rfl rfl (by decide) (by decide)) ?_
    refine ops_op rfl rfl (runs_none rfl) (mv_s (.inr rfl) rfl) ?_
    refine ops_nil ?_
    repeat (first | refine aw_seq ?_ | refine ath_n ?_ | refine aw_skip ?_ | refine abl_n ?_ | refine aw_block ?_)
    cases b
    rotate_left 1
    · have he := ht rfl
      subst he
      all_goals refine aw_region ?_
      all_goals refine ops_op rfl rfl (runs_none rfl) (mv_s (.inl rfl) rfl) ?_
      all_goals refine ops_op rfl rfl (runs_none rfl) (mv_s (.inl rfl) rfl) ?_
      all_goals (first | refine ops_op rfl rfl (runs_y rfl rfl rfl) (mv_s (.inl rfl) rfl) ?_ | refine ops_skip rfl rfl (runs_nt rfl rfl rfl) ?_ | refine ops_skip rfl rfl (runs_nu rfl rfl rfl) ?_)
      all_goals (first | refine ops_opP rfl rfl (runs_y rfl rfl rfl) (does_eql rfl rfl rfl) (fun h87 => ?_) (fun h87 => ?_) | refine ops_opB rfl rfl (runs_y rfl rfl rfl) (does_eql rfl rfl rfl) (fun h87 => ?_) (fun h87 => ?_) | refine ops_skip rfl rfl (runs_nt rfl rfl rfl) ?_ | refine ops_skip rfl rfl (runs_nu rfl rfl rfl) ?_)
      all_goals (first | refine ops_op rfl rfl (runs_none rfl) (pickT_s rfl rfl rfl) ?_ | refine ops_op rfl rfl (runs_none rfl) (pickF_s rfl rfl rfl) ?_ | refine ops_op rfl rfl (runs_none rfl) (does_pickT rfl rfl rfl) ?_ | refine ops_op rfl rfl (runs_none rfl) (does_pickF rfl rfl rfl) ?_)
      all_goals refine ops_op rfl rfl (runs_none rfl) (mv_s (.inl rfl) rfl) ?_
      all_goals (first | refine ops_op rfl rfl (runs_y rfl rfl rfl) (mv_s (.inl rfl) rfl) ?_ | refine ops_skip rfl rfl (runs_nt rfl rfl rfl) ?_ | refine ops_skip rfl rfl (runs_nu rfl rfl rfl) ?_)
      all_goals (first | refine ops_opP rfl rfl (runs_y rfl rfl rfl) (does_eql rfl rfl rfl) (fun h91 => ?_) (fun h91 => ?_) | refine ops_opB rfl rfl (runs_y rfl rfl rfl) (does_eql rfl rfl rfl) (fun h91 => ?_) (fun h91 => ?_) | refine ops_skip rfl rfl (runs_nt rfl rfl rfl) ?_ | refine ops_skip rfl rfl (runs_nu rfl rfl rfl) ?_)
      all_goals (first | refine ops_op rfl rfl (runs_none rfl) (pickT_s rfl rfl rfl) ?_ | refine ops_op rfl rfl (runs_none rfl) (pickF_s rfl rfl rfl) ?_ | refine ops_op rfl rfl (runs_none rfl) (does_pickT rfl rfl rfl) ?_ | refine ops_op rfl rfl (runs_none rfl) (does_pickF rfl rfl rfl) ?_)
      all_goals refine ops_op rfl rfl (runs_none rfl) (mv_s (.inl rfl) rfl) ?_
      all_goals (first | refine ops_op rfl rfl (runs_y rfl rfl rfl) (mv_s (.inl rfl) rfl) ?_ | refine ops_skip rfl rfl (runs_nt rfl rfl rfl) ?_ | refine ops_skip rfl rfl (runs_nu rfl rfl rfl) ?_)
      all_goals (first | refine ops_opP rfl rfl (runs_y rfl rfl rfl) (does_eql rfl rfl rfl) (fun h95 => ?_) (fun h95 => ?_) | refine ops_opB rfl rfl (runs_y rfl rfl rfl) (does_eql rfl rfl rfl) (fun h95 => ?_) (fun h95 => ?_) | refine ops_skip rfl rfl (runs_nt rfl rfl rfl) ?_ | refine ops_skip rfl rfl (runs_nu rfl rfl rfl) ?_)
      all_goals (first | refine ops_op rfl rfl (runs_none rfl) (pickT_s rfl rfl rfl) ?_ | refine ops_op rfl rfl (runs_none rfl) (pickF_s rfl rfl rfl) ?_ | refine ops_op rfl rfl (runs_none rfl) (does_pickT rfl rfl rfl) ?_ | refine ops_op rfl rfl (runs_none rfl) (does_pickF rfl rfl rfl) ?_)
      all_goals refine ops_op rfl rfl (runs_none rfl) (mv_s (.inl rfl) rfl) ?_
      all_goals (first | refine ops_op rfl rfl (runs_y rfl rfl rfl) (does_load_refw rfl ta28 ti28 rfl rfl) ?_ | refine ops_op rfl rfl (runs_y rfl rfl rfl) (does_load_whole rfl ta28 ti28 rfl rfl rfl rfl rfl) ?_ | refine ops_op rfl rfl (runs_y rfl rfl rfl) (does_load_refs rfl ta28 ti28 rfl (Nat.le_of_ble_eq_true rfl)) ?_ | refine ops_op rfl rfl (runs_y rfl rfl rfl) (does_load_ptrs rfl ta28 ti28 rfl rfl rfl rfl (Nat.le_of_ble_eq_true rfl)) ?_ | refine ops_skip rfl rfl (runs_nt rfl rfl rfl) ?_ | refine ops_skip rfl rfl (runs_nu rfl rfl rfl) ?_)
      all_goals (first | refine ops_op rfl rfl (runs_y rfl rfl rfl) (does_load_refw rfl ta28 ti28 rfl rfl) ?_ | refine ops_op rfl rfl (runs_y rfl rfl rfl) (does_load_whole rfl ta28 ti28 rfl rfl rfl rfl rfl) ?_ | refine ops_op rfl rfl (runs_y rfl rfl rfl) (does_load_refs rfl ta28 ti28 rfl (Nat.le_of_ble_eq_true rfl)) ?_ | refine ops_op rfl rfl (runs_y rfl rfl rfl) (does_load_ptrs rfl ta28 ti28 rfl rfl rfl rfl (Nat.le_of_ble_eq_true rfl)) ?_ | refine ops_skip rfl rfl (runs_nt rfl rfl rfl) ?_ | refine ops_skip rfl rfl (runs_nu rfl rfl rfl) ?_)
      all_goals (first | refine ops_opP rfl rfl (runs_y rfl rfl rfl) (does_eqa rfl rfl rfl te28 rfl rfl rfl) (fun h100 => ?_) (fun h100 => ?_) | refine ops_opB rfl rfl (runs_y rfl rfl rfl) (does_eqa rfl rfl rfl te28 rfl rfl rfl) (fun h100 => ?_) (fun h100 => ?_) | refine ops_skip rfl rfl (runs_nt rfl rfl rfl) ?_ | refine ops_skip rfl rfl (runs_nu rfl rfl rfl) ?_)
      all_goals (first | refine ops_op rfl rfl (runs_none rfl) (pickT_s rfl rfl rfl) ?_ | refine ops_op rfl rfl (runs_none rfl) (pickF_s rfl rfl rfl) ?_ | refine ops_op rfl rfl (runs_none rfl) (does_pickT rfl rfl rfl) ?_ | refine ops_op rfl rfl (runs_none rfl) (does_pickF rfl rfl rfl) ?_)
      all_goals refine ops_op rfl rfl (runs_none rfl) (mv_s (.inl rfl) rfl) ?_
      all_goals (first | refine ops_op rfl rfl (runs_y rfl rfl rfl) (does_fieldAddr_ptr rfl tf30_4 (by decide) rfl) ?_ | refine ops_op rfl rfl (runs_y rfl rfl rfl) (does_fieldAddr_ref rfl tf30_4 (by decide) rfl) ?_ | refine ops_skip rfl rfl (runs_nt rfl rfl rfl) ?_ | refine ops_skip rfl rfl (runs_nu rfl rfl rfl) ?_)
      all_goals (first | refine ops_op rfl rfl (runs_y rfl rfl rfl) (does_load_refw rfl ta28 ti28 rfl rfl) ?_ | refine ops_op rfl rfl (runs_y rfl rfl rfl) (does_load_whole rfl ta28 ti28 rfl rfl rfl rfl rfl) ?_ | refine ops_op rfl rfl (runs_y rfl rfl rfl) (does_load_refs rfl ta28 ti28 rfl (Nat.le_of_ble_eq_true rfl)) ?_ | refine ops_op rfl rfl (runs_y rfl rfl rfl) (does_load_ptrs rfl ta28 ti28 rfl rfl rfl rfl (Nat.le_of_ble_eq_true rfl)) ?_ | refine ops_skip rfl rfl (runs_nt rfl rfl rfl) ?_ | refine ops_skip rfl rfl (runs_nu rfl rfl rfl) ?_)
      all_goals (first | refine ops_op rfl rfl (runs_y rfl rfl rfl) (does_load_refw rfl ta28 ti28 rfl rfl) ?_ | refine ops_op rfl rfl (runs_y rfl rfl rfl) (does_load_whole rfl ta28 ti28 rfl rfl rfl rfl rfl) ?_ | refine ops_op rfl rfl (runs_y rfl rfl rfl) (does_load_refs rfl ta28 ti28 rfl (Nat.le_of_ble_eq_true rfl)) ?_ | refine ops_op rfl rfl (runs_y rfl rfl rfl) (does_load_ptrs rfl ta28 ti28 rfl rfl rfl rfl (Nat.le_of_ble_eq_true rfl)) ?_ | refine ops_skip rfl rfl (runs_nt rfl rfl rfl) ?_ | refine ops_skip rfl rfl (runs_nu rfl rfl rfl) ?_)
      all_goals (first | refine ops_opP rfl rfl (runs_y rfl rfl rfl) (does_eqa rfl rfl rfl te28 rfl rfl rfl) (fun h106 => ?_) (fun h106 => ?_) | refine ops_opB rfl rfl (runs_y rfl rfl rfl) (does_eqa rfl rfl rfl te28 rfl rfl rfl) (fun h106 => ?_) (fun h106 => ?_) | refine ops_skip rfl rfl (runs_nt rfl rfl rfl) ?_ | refine ops_skip rfl rfl (runs_nu rfl rfl rfl) ?_)
      all_goals (first | refine ops_op rfl rfl (runs_none rfl) (pickT_s rfl rfl rfl) ?_ | refine ops_op rfl rfl (runs_none rfl) (pickF_s rfl rfl rfl) ?_ | refine ops_op rfl rfl (runs_none rfl) (does_pickT rfl rfl rfl) ?_ | refine ops_op rfl rfl (runs_none rfl) (does_pickF rfl rfl rfl) ?_)
      all_goals refine ops_op rfl rfl (runs_none rfl) (mv_s (.inr rfl) rfl) ?_
      all_goals refine ops_nil ?_
      all_goals (repeat (first | refine aw_seq ?_ | refine ath_n ?_ | refine aw_skip ?_ | refine abl_n ?_ | refine aw_block ?_))
      all_goals (refine aw_ret ?_; repeat (first | refine ath_r ?_ | refine abl_r ?_))
      all_goals exact post1 (.inr rfl) rfl (congrArg eB (by
        rw [← hR]
        first
        | exact decP_t ⟨h37, h43, h50, by omega, rfl, h91, h95, @fr_eqT dx.n dx.d dy.n dy.d h100, @fr_eqT s.v.n s.v.d dx.n dx.d h106⟩
        | refine decP_f ?_
          rintro ⟨g1, g2, g3, g4, g5, g6, g7, g8, g9⟩
          first | omega | exact @fr_eqF dx.n dx.d dy.n dy.d h100 g8 | exact @fr_eqF s.v.n s.v.d dx.n dx.d h106 g9))
    · skip
      all_goals refine aw_region ?_
      all_goals refine ops_op rfl rfl (runs_none rfl) (mv_s (.inl rfl) rfl) ?_
      all_goals refine ops_op rfl rfl (runs_none rfl) (mv_s (.inl rfl) rfl) ?_
      all_goals (first | refine ops_op rfl rfl (runs_y rfl rfl rfl) (mv_s (.inl rfl) rfl) ?_ | refine ops_skip rfl rfl (runs_nt rfl rfl rfl) ?_ | refine ops_skip rfl rfl (runs_nu rfl rfl rfl) ?_)
      all_goals (first | refine ops_opP rfl rfl (runs_y rfl rfl rfl) (does_eql rfl rfl rfl) (fun h87 => ?_) (fun h87 => ?_) | refine ops_opB rfl rfl (runs_y rfl rfl rfl) (does_eql rfl rfl rfl) (fun h87 => ?_) (fun h87 => ?_) | refine ops_skip rfl rfl (runs_nt rfl rfl rfl) ?_ | refine ops_skip rfl rfl (runs_nu rfl rfl rfl) ?_)
      all_goals (first | refine ops_op rfl rfl (runs_none rfl) (pickT_s rfl rfl rfl) ?_ | refine ops_op rfl rfl (runs_none rfl) (pickF_s rfl rfl rfl) ?_ | refine ops_op rfl rfl (runs_none rfl) (does_pickT rfl rfl rfl) ?_ | refine ops_op rfl rfl (runs_none rfl) (does_pickF rfl rfl rfl) ?_)
      all_goals refine ops_op rfl rfl (runs_none rfl) (mv_s (.inl rfl) rfl) ?_
      all_goals (first | refine ops_op rfl rfl (runs_y rfl rfl rfl) (mv_s (.inl rfl) rfl) ?_ | refine ops_skip rfl rfl (runs_nt rfl rfl rfl) ?_ | refine ops_skip rfl rfl (runs_nu rfl rfl rfl) ?_)
      all_goals (first | refine ops_opP rfl rfl (runs_y rfl rfl rfl) (does_eql rfl rfl rfl) (fun h91 => ?_) (fun h91 => ?_) | refine ops_opB rfl rfl (runs_y rfl rfl rfl) (does_eql rfl rfl rfl) (fun h91 => ?_) (fun h91 => ?_) | refine ops_skip rfl rfl (runs_nt rfl rfl rfl) ?_ | refine ops_skip rfl rfl (runs_nu rfl rfl rfl) ?_)
      all_goals (first | refine ops_op rfl rfl (runs_none rfl) (pickT_s rfl rfl rfl) ?_ | refine ops_op rfl rfl (runs_none rfl) (pickF_s rfl rfl rfl) ?_ | refine ops_op rfl rfl (runs_none rfl) (does_pickT rfl rfl rfl) ?_ | refine ops_op rfl rfl (runs_none rfl) (does_pickF rfl rfl rfl) ?_)
      all_goals refine ops_op rfl rfl (runs_none rfl) (mv_s (.inl rfl) rfl) ?_
      all_goals (first | refine ops_op rfl rfl (runs_y rfl rfl rfl) (mv_s (.inl rfl) rfl) ?_ | refine ops_skip rfl rfl (runs_nt rfl rfl rfl) ?_ | refine ops_skip rfl rfl (runs_nu rfl rfl rfl) ?_)
      all_goals (first | refine ops_opP rfl rfl (runs_y rfl rfl rfl) (does_eql rfl rfl rfl) (fun h95 => ?_) (fun h95 => ?_) | refine ops_opB rfl rfl (runs_y rfl rfl rfl) (does_eql rfl rfl rfl) (fun h95 => ?_) (fun h95 => ?_) | refine ops_skip rfl rfl (runs_nt rfl rfl rfl) ?_ | refine ops_skip rfl rfl (runs_nu rfl rfl rfl) ?_)
      all_goals (first | refine ops_op rfl rfl (runs_none rfl) (pickT_s rfl rfl rfl) ?_ | refine ops_op rfl rfl (runs_none rfl) (pickF_s rfl rfl rfl) ?_ | refine ops_op rfl rfl (runs_none rfl) (does_pickT rfl rfl rfl) ?_ | refine ops_op rfl rfl (runs_none rfl) (does_pickF rfl rfl rfl) ?_)
      all_goals refine ops_op rfl rfl (runs_none rfl) (mv_s (.inl rfl) rfl) ?_
      all_goals (first | refine ops_op rfl rfl (runs_y rfl rfl rfl) (does_load_refw rfl ta28 ti28 rfl rfl) ?_ | refine ops_op rfl rfl (runs_y rfl rfl rfl) (does_load_whole rfl ta28 ti28 rfl rfl rfl rfl rfl) ?_ | refine ops_op rfl rfl (runs_y rfl rfl rfl) (does_load_refs rfl ta28 ti28 rfl (Nat.le_of_ble_eq_true rfl)) ?_ | refine ops_op rfl rfl (runs_y rfl rfl rfl) (does_load_ptrs rfl ta28 ti28 rfl rfl rfl rfl (Nat.le_of_ble_eq_true rfl)) ?_ | refine ops_skip rfl rfl (runs_nt rfl rfl rfl) ?_ | refine ops_skip rfl rfl (runs_nu rfl rfl rfl) ?_)
      all_goals (first | refine ops_op rfl rfl (runs_y rfl rfl rfl) (does_load_refw rfl ta28 ti28 rfl rfl) ?_ | refine ops_op rfl rfl (runs_y rfl rfl rfl) (does_load_whole rfl ta28 ti28 rfl rfl rfl rfl rfl) ?_ | refine ops_op rfl rfl (runs_y rfl rfl rfl) (does_load_refs rfl ta28 ti28 rfl (Nat.le_of_ble_eq_true rfl)) ?_ | refine ops_op rfl rfl (runs_y rfl rfl rfl) (does_load_ptrs rfl ta28 ti28 rfl rfl rfl rfl (Nat.le_of_ble_eq_true rfl)) ?_ | refine ops_skip rfl rfl (runs_nt rfl rfl rfl) ?_ | refine ops_skip rfl rfl (runs_nu rfl rfl rfl) ?_)
      all_goals (first | refine ops_opP rfl rfl (runs_y rfl rfl rfl) (does_eqa rfl rfl rfl te28 rfl rfl rfl) (fun h100 => ?_) (fun h100 => ?_) | refine ops_opB rfl rfl (runs_y rfl rfl rfl) (does_eqa rfl rfl rfl te28 rfl rfl rfl) (fun h100 => ?_) (fun h100 => ?_) | refine ops_skip rfl rfl (runs_nt rfl rfl rfl) ?_ | refine ops_skip rfl rfl (runs_nu rfl rfl rfl) ?_)
      all_goals (first | refine ops_op rfl rfl (runs_none rfl) (pickT_s rfl rfl rfl) ?_ | refine ops_op rfl rfl (runs_none rfl) (pickF_s rfl rfl rfl) ?_ | refine ops_op rfl rfl (runs_none rfl) (does_pickT rfl rfl rfl) ?_ | refine ops_op rfl rfl (runs_none rfl) (does_pickF rfl rfl rfl) ?_)
      all_goals refine ops_op rfl rfl (runs_none rfl) (mv_s (.inl rfl) rfl) ?_
      all_goals (first | refine ops_op rfl rfl (runs_y rfl rfl rfl) (does_fieldAddr_ptr rfl tf30_4 (by decide) rfl) ?_ | refine ops_op rfl rfl (runs_y rfl rfl rfl) (does_fieldAddr_ref rfl tf30_4 (by decide) rfl) ?_ | refine ops_skip rfl rfl (runs_nt rfl rfl rfl) ?_ | refine ops_skip rfl rfl (runs_nu rfl rfl rfl) ?_)
      all_goals (first | refine ops_op rfl rfl (runs_y rfl rfl rfl) (does_load_refw rfl ta28 ti28 rfl rfl) ?_ | refine ops_op rfl rfl (runs_y rfl rfl rfl) (does_load_whole rfl ta28 ti28 rfl rfl rfl rfl rfl) ?_ | refine ops_op rfl rfl (runs_y rfl rfl rfl) (does_load_refs rfl ta28 ti28 rfl (Nat.le_of_ble_eq_true rfl)) ?_ | refine ops_op rfl rfl (runs_y rfl rfl rfl) (does_load_ptrs rfl ta28 ti28 rfl rfl rfl rfl (Nat.le_of_ble_eq_true rfl)) ?_ | refine ops_skip rfl rfl (runs_nt rfl rfl rfl) ?_ | refine ops_skip rfl rfl (runs_nu rfl rfl rfl) ?_)
      all_goals (first | refine ops_op rfl rfl (runs_y rfl rfl rfl) (does_load_refw rfl ta28 ti28 rfl rfl) ?_ | refine ops_op rfl rfl (runs_y rfl rfl rfl) (does_load_whole rfl ta28 ti28 rfl rfl rfl rfl rfl) ?_ | refine ops_op rfl rfl (runs_y rfl rfl rfl) (does_load_refs rfl ta28 ti28 rfl (Nat.le_of_ble_eq_true rfl)) ?_ | refine ops_op rfl rfl (runs_y rfl rfl rfl) (does_load_ptrs rfl ta28 ti28 rfl rfl rfl rfl (Nat.le_of_ble_eq_true rfl)) ?_ | refine ops_skip rfl rfl (runs_nt rfl rfl rfl) ?_ | refine ops_skip rfl rfl (runs_nu rfl rfl rfl) ?_)
      all_goals (first | refine ops_opP rfl rfl (runs_y rfl rfl rfl) (does_eqa rfl rfl rfl te28 rfl rfl rfl) (fun h106 => ?_) (fun h106 => ?_) | refine ops_opB rfl rfl (runs_y rfl rfl rfl) (does_eqa rfl rfl rfl te28 rfl rfl rfl) (fun h106 => ?_) (fun h106 => ?_) | refine ops_skip rfl rfl (runs_nt rfl rfl rfl) ?_ | refine ops_skip rfl rfl (runs_nu rfl rfl rfl) ?_)
      all_goals (first | refine ops_op rfl rfl (runs_none rfl) (pickT_s rfl rfl rfl) ?_ | refine ops_op rfl rfl (runs_none rfl) (pickF_s rfl rfl rfl) ?_ | refine ops_op rfl rfl (runs_none rfl) (does_pickT rfl rfl rfl) ?_ | refine ops_op rfl rfl (runs_none rfl) (does_pickF rfl rfl rfl) ?_)
      all_goals refine ops_op rfl rfl (runs_none rfl) (mv_s (.inr rfl) rfl) ?_
      all_goals refine ops_nil ?_
      all_goals (repeat (first | refine aw_seq ?_ | refine ath_n ?_ | refine aw_skip ?_ | refine abl_n ?_ | refine aw_block ?_))
      all_goals (refine aw_ret ?_; repeat (first | refine ath_r ?_ | refine abl_r ?_))
      all_goals exact post1 (.inr rfl) rfl (congrArg eB (by
        rw [← hR]
        exact decP_f (fun g => Bool.noConfusion g.2.2.2.2.1)))
  · rw [if_neg h33] at hR
    all_goals refine aw_region ?_
    all_goals (first | refine ops_opP rfl rfl (runs_none rfl) (does_eql rfl rfl rfl) (fun h109 => ?_) (fun h109 => ?_) | refine ops_opB rfl rfl (runs_none rfl) (does_eql rfl rfl rfl) (fun h109 => ?_) (fun h109 => ?_))
    all_goals refine ops_op rfl rfl (runs_none rfl) (mv_s (.inr rfl) rfl) ?_
    all_goals refine ops_nil ?_
    all_goals (repeat (first | refine aw_seq ?_ | refine ath_n ?_ | refine aw_skip ?_ | refine abl_n ?_ | refine aw_block ?_))
    all_goals (first | refine aw_true rfl ?_ | refine aw_false rfl ?_)
    all_goals (repeat (first | refine aw_seq ?_ | refine ath_n ?_ | refine aw_skip ?_ | refine abl_n ?_ | refine aw_block ?_))
    · rw [if_pos h109] at hR
      have hz := zeros_pf (P := P) p.c.length q4
      have hu : Pure P 26 [eP p, eL eF s.y, eL eF (zerosL p.c.length)] (.tup [eB (undR p s.y (zerosL p.c.length)).1, eI (undR p s.y (zerosL p.c.length)).2]) := under_pf (P := P) p s.y (zerosL p.c.length) h22 (zerosL_len _)
      have ht := @undR_t p s.y (zerosL p.c.length)
      have hdy := fDot_pf (P := P) p.b s.y
      generalize (undR p s.y (zerosL p.c.length)).1 = b at hu ht hR
      generalize (undR p s.y (zerosL p.c.length)).2 = e at hu ht
      generalize dotE p.b s.y = dy at hdy hR
      all_goals refine aw_region ?_
      all_goals (first | refine ops_op rfl rfl (runs_none rfl) (does_fieldAddr_ptr rfl tf30_1 (by decide) rfl) ?_ | refine ops_op rfl rfl (runs_none rfl) (does_fieldAddr_ref rfl tf30_1 (by decide) rfl) ?_)
      all_goals (first | refine ops_op rfl rfl (runs_none rfl) (does_load_ref rfl ta22 rfl) ?_ | refine ops_op rfl rfl (runs_none rfl) (does_load_ptr rfl ta22 rfl rfl rfl rfl rfl) ?_)
      all_goals (first | refine ops_op rfl rfl (runs_none rfl) (does_len_map rfl ts22 rfl) ?_ | refine ops_op rfl rfl (runs_none rfl) (does_len_sl rfl ts22 rfl) ?_ | refine ops_op rfl rfl (runs_none rfl) (does_len_own rfl ts22 rfl) ?_ | refine ops_op rfl rfl (runs_none rfl) (does_len_s rfl ts22 rfl) ?_ | refine ops_op rfl rfl (runs_none rfl) (does_len_emp rfl ts22 rfl) ?_)
      all_goals (first | refine ops_opP rfl rfl (runs_none rfl) (does_gtr rfl rfl rfl) (fun h113 => ?_) (fun h113 => ?_) | refine ops_opB rfl rfl (runs_none rfl) (does_gtr rfl rfl rfl) (fun h113 => ?_) (fun h113 => ?_))
      all_goals refine ops_op rfl rfl (runs_none rfl) (mv_s (.inl rfl) rfl) ?_
      all_goals (first | refine ops_op rfl rfl (runs_y rfl rfl rfl) (does_fieldAddr_ptr rfl tf30_3 (by decide) rfl) ?_ | refine ops_op rfl rfl (runs_y rfl rfl rfl) (does_fieldAddr_ref rfl tf30_3 (by decide) rfl) ?_ | refine ops_skip rfl rfl (runs_nf rfl rfl rfl) ?_ | refine ops_skip rfl rfl (runs_nu rfl rfl rfl) ?_)
      all_goals (first | refine ops_op rfl rfl (runs_y rfl rfl rfl) (does_load_ref rfl ta22 rfl) ?_ | refine ops_op rfl rfl (runs_y rfl rfl rfl) (does_load_ptr rfl ta22 rfl rfl rfl rfl rfl) ?_ | refine ops_skip rfl rfl (runs_nf rfl rfl rfl) ?_ | refine ops_skip rfl rfl (runs_nu rfl rfl rfl) ?_)
      all_goals (first | refine ops_op rfl rfl (runs_y rfl rfl rfl) (does_len_map rfl ts22 rfl) ?_ | refine ops_op rfl rfl (runs_y rfl rfl rfl) (does_len_sl rfl ts22 rfl) ?_ | refine ops_op rfl rfl (runs_y rfl rfl rfl) (does_len_own rfl ts22 rfl) ?_ | refine ops_op rfl rfl (runs_y rfl rfl rfl) (does_len_s rfl ts22 rfl) ?_ | refine ops_op rfl rfl (runs_y rfl rfl rfl) (does_len_emp rfl ts22 rfl) ?_ | refine ops_skip rfl rfl (runs_nf rfl rfl rfl) ?_ | refine ops_skip rfl rfl (runs_nu rfl rfl rfl) ?_)
      all_goals (first | refine ops_opP rfl rfl (runs_y rfl rfl rfl) (does_gtr rfl rfl rfl) (fun h118 => ?_) (fun h118 => ?_) | refine ops_opB rfl rfl (runs_y rfl rfl rfl) (does_gtr rfl rfl rfl) (fun h118 => ?_) (fun h118 => ?_) | refine ops_skip rfl rfl (runs_nf rfl rfl rfl) ?_ | refine ops_skip rfl rfl (runs_nu rfl rfl rfl) ?_)
      all_goals (first | refine ops_op rfl rfl (runs_none rfl) (pickT_s rfl rfl rfl) ?_ | refine ops_op rfl rfl (runs_none rfl) (pickF_s rfl rfl rfl) ?_ | refine ops_op rfl rfl (runs_none rfl) (does_pickT rfl rfl rfl) ?_ | refine ops_op rfl rfl (runs_none rfl) (does_pickF rfl rfl rfl) ?_)
      all_goals refine ops_op rfl rfl (runs_none rfl) (mv_s (.inl rfl) rfl) ?_
      all_goals (first | refine ops_op rfl rfl (runs_y rfl rfl rfl) (does_fieldAddr_ptr rfl tf30_4 (by decide) rfl) ?_ | refine ops_op rfl rfl (runs_y rfl rfl rfl) (does_fieldAddr_ref rfl tf30_4 (by decide) rfl) ?_ | refine ops_skip rfl rfl (runs_nf rfl rfl rfl) ?_ | refine ops_skip rfl rfl (runs_nu rfl rfl rfl) ?_)
      all_goals (first | refine ops_op rfl rfl (runs_y rfl rfl rfl) (does_load_refw rfl ta28 ti28 rfl rfl) ?_ | refine ops_op rfl rfl (runs_y rfl rfl rfl) (does_load_whole rfl ta28 ti28 rfl rfl rfl rfl rfl) ?_ | refine ops_op rfl rfl (runs_y rfl rfl rfl) (does_load_refs rfl ta28 ti28 rfl (Nat.le_of_ble_eq_true rfl)) ?_ | refine ops_op rfl rfl (runs_y rfl rfl rfl) (does_load_ptrs rfl ta28 ti28 rfl rfl rfl rfl (Nat.le_of_ble_eq_true rfl)) ?_ | refine ops_skip rfl rfl (runs_nf rfl rfl rfl) ?_ | refine ops_skip rfl rfl (runs_nu rfl rfl rfl) ?_)
      all_goals (first | refine ops_op rfl rfl (runs_y rfl rfl rfl) (does_build rfl ti28 tp28 rfl rfl) ?_ | refine ops_skip rfl rfl (runs_nf rfl rfl rfl) ?_ | refine ops_skip rfl rfl (runs_nu rfl rfl rfl) ?_)
      all_goals (first | refine ops_opP rfl rfl (runs_y rfl rfl rfl) (does_nea rfl rfl rfl te28 rfl rfl rfl) (fun h124 => ?_) (fun h124 => ?_) | refine ops_opB rfl rfl (runs_y rfl rfl rfl) (does_nea rfl rfl rfl te28 rfl rfl rfl) (fun h124 => ?_) (fun h124 => ?_) | refine ops_skip rfl rfl (runs_nf rfl rfl rfl) ?_ | refine ops_skip rfl rfl (runs_nu rfl rfl rfl) ?_)
      all_goals (first | refine ops_op rfl rfl (runs_none rfl) (pickT_s rfl rfl rfl) ?_ | refine ops_op rfl rfl (runs_none rfl) (pickF_s rfl rfl rfl) ?_ | refine ops_op rfl rfl (runs_none rfl) (does_pickT rfl rfl rfl) ?_ | refine ops_op rfl rfl (runs_none rfl) (does_pickF rfl rfl rfl) ?_)
      all_goals refine ops_op rfl rfl (runs_none rfl) (mv_s (.inl rfl) rfl) ?_
      all_goals (first | refine ops_op rfl rfl (runs_y rfl rfl rfl) (does_fieldAddr_ptr rfl tf30_2 (by decide) rfl) ?_ | refine ops_op rfl rfl (runs_y rfl rfl rfl) (does_fieldAddr_ref rfl tf30_2 (by decide) rfl) ?_ | refine ops_skip rfl rfl (runs_nf rfl rfl rfl) ?_ | refine ops_skip rfl rfl (runs_nu rfl rfl rfl) ?_)
      all_goals (first | refine ops_op rfl rfl (runs_y rfl rfl rfl) (does_load_ref rfl ta22 rfl) ?_ | refine ops_op rfl rfl (runs_y rfl rfl rfl) (does_load_ptr rfl ta22 rfl rfl rfl rfl rfl) ?_ | refine ops_skip rfl rfl (runs_nf rfl rfl rfl) ?_ | refine ops_skip rfl rfl (runs_nu rfl rfl rfl) ?_)
      all_goals (first | refine ops_op rfl rfl (runs_y rfl rfl rfl) (mv_s (.inl rfl) rfl) ?_ | refine ops_skip rfl rfl (runs_nf rfl rfl rfl) ?_ | refine ops_skip rfl rfl (runs_nu rfl rfl rfl) ?_)
      all_goals (first | refine ops_opP rfl rfl (runs_y rfl rfl rfl) (does_call rfl rfl (fine_pf _ _) (evc_cons rfl (evc_cons rfl evc_nil))) (fun h130 => ?_) (fun h130 => ?_) | refine ops_opB rfl rfl (runs_y rfl rfl rfl) (does_call rfl rfl (fine_pf _ _) (evc_cons rfl (evc_cons rfl evc_nil))) (fun h130 => ?_) (fun h130 => ?_) | refine ops_skip rfl rfl (runs_nf rfl rfl rfl) ?_ | refine ops_skip rfl rfl (runs_nu rfl rfl rfl) ?_)
      all_goals (first | refine ops_op rfl rfl (runs_y rfl rfl rfl) (does_notp rfl rfl) ?_ | refine ops_op rfl rfl (runs_y rfl rfl rfl) (does_not rfl rfl) ?_ | refine ops_skip rfl rfl (runs_nf rfl rfl rfl) ?_ | refine ops_skip rfl rfl (runs_nu rfl rfl rfl) ?_)
      all_goals (first | refine ops_op rfl rfl (runs_none rfl) (pickT_s rfl rfl rfl) ?_ | refine ops_op rfl rfl (runs_none rfl) (pickF_s rfl rfl rfl) ?_ | refine ops_op rfl rfl (runs_none rfl) (does_pickT rfl rfl rfl) ?_ | refine ops_op rfl rfl (runs_none rfl) (does_pickF rfl rfl rfl) ?_)
      all_goals refine ops_op rfl rfl (runs_none rfl) (mv_s (.inl rfl) rfl) ?_
      all_goals (first | refine ops_op rfl rfl (runs_y rfl rfl rfl) (does_load_refw rfl ta26 ti26 rfl rfl) ?_ | refine ops_op rfl rfl (runs_y rfl rfl rfl) (does_load_whole rfl ta26 ti26 rfl rfl rfl rfl rfl) ?_ | refine ops_op rfl rfl (runs_y rfl rfl rfl) (does_load_refs rfl ta26 ti26 rfl (Nat.le_of_ble_eq_true rfl)) ?_ | refine ops_op rfl rfl (runs_y rfl rfl rfl) (does_load_ptrs rfl ta26 ti26 rfl rfl rfl rfl (Nat.le_of_ble_eq_true rfl)) ?_ | refine ops_skip rfl rfl (runs_nf rfl rfl rfl) ?_ | refine ops_skip rfl rfl (runs_nu rfl rfl rfl) ?_)
      all_goals (first | refine ops_op rfl rfl (runs_y rfl rfl rfl) (does_fieldAddr_ptr rfl tf30_2 (by decide) rfl) ?_ | refine ops_op rfl rfl (runs_y rfl rfl rfl) (does_fieldAddr_ref rfl tf30_2 (by decide) rfl) ?_ | refine ops_skip rfl rfl (runs_nf rfl rfl rfl) ?_ | refine ops_skip rfl rfl (runs_nu rfl rfl rfl) ?_)
      all_goals (first | refine ops_op rfl rfl (runs_y rfl rfl rfl) (does_load_ref rfl ta22 rfl) ?_ | refine ops_op rfl rfl (runs_y rfl rfl rfl) (does_load_ptr rfl ta22 rfl rfl rfl rfl rfl) ?_ | refine ops_skip rfl rfl (runs_nf rfl rfl rfl) ?_ | refine ops_skip rfl rfl (runs_nu rfl rfl rfl) ?_)
      all_goals (first | refine ops_opP rfl rfl (runs_y rfl rfl rfl) (does_call rfl rfl ((signed_pf p s.y (by have := (fineB_iff.1 h130).1; omega))) (evc_cons rfl (evc_cons rfl evc_nil))) (fun h137 => ?_) (fun h137 => ?_) | refine ops_opB rfl rfl (runs_y rfl rfl rfl) (does_call rfl rfl ((signed_pf p s.y (by have := (fineB_iff.1 h130).1; omega))) (evc_cons rfl (evc_cons rfl evc_nil))) (fun h137 => ?_) (fun h137 => ?_) | refine ops_skip rfl rfl (runs_nf rfl rfl rfl) ?_ | refine ops_skip rfl rfl (runs_nu rfl rfl rfl) ?_)
      all_goals (first | refine ops_op rfl rfl (runs_y rfl rfl rfl) (does_notp rfl rfl) ?_ | refine ops_op rfl rfl (runs_y rfl rfl rfl) (does_not rfl rfl) ?_ | refine ops_skip rfl rfl (runs_nf rfl rfl rfl) ?_ | refine ops_skip rfl rfl (runs_nu rfl rfl rfl) ?_)
      all_goals (first | refine ops_op rfl rfl (runs_none rfl) (pickT_s rfl rfl rfl) ?_ | refine ops_op rfl rfl (runs_none rfl) (pickF_s rfl rfl rfl) ?_ | refine ops_op rfl rfl (runs_none rfl) (does_pickT rfl rfl rfl) ?_ | refine ops_op rfl rfl (runs_none rfl) (does_pickF rfl rfl rfl) ?_)
      all_goals refine ops_nil ?_
      all_goals (repeat (first | refine aw_seq ?_ | refine ath_n ?_ | refine aw_skip ?_ | refine abl_n ?_ | refine aw_block ?_))
      all_goals (first | refine aw_true rfl ?_ | refine aw_false rfl ?_)
      all_goals (repeat (first | refine aw_seq ?_ | refine ath_n ?_ | refine aw_skip ?_ | refine abl_n ?_ | refine aw_block ?_))
      all_goals first
        | skip
          refine aw_region ?_
          refine ops_op rfl rfl (runs_none rfl) (mv_s (.inr rfl) rfl) ?_
          refine ops_nil ?_
          repeat (first | refine aw_seq ?_ | refine ath_n ?_ | refine aw_skip ?_ | refine abl_n ?_ | refine aw_block ?_)
          (refine aw_ret ?_; repeat (first | refine ath_r ?_ | refine abl_r ?_))
          exact post1 (.inr rfl) rfl (congrArg eB (by
            rw [← hR]
            refine decP_f ?_
            rintro ⟨g1, g2, g3, g4, g5, g6, g7, g8⟩
            first | omega | exact @fr_neT s.v.n s.v.d 0 0 h124 g3 | exact Bool.noConfusion (g4.symm.trans h130) | exact Bool.noConfusion (g5.symm.trans h137)))
        | skip
      refine aw_draw hmix ?_
      refine adraw_quiet (by kernel_rfl) ?_
      first | refine qx_op rfl rfl (runs_none rfl) (does_load_refw rfl ta26 ti26 rfl rfl) ?_ | refine qx_op rfl rfl (runs_none rfl) (does_load_whole rfl ta26 ti26 rfl rfl rfl rfl rfl) ?_ | refine qx_op rfl rfl (runs_none rfl) (does_load_refs rfl ta26 ti26 rfl (Nat.le_of_ble_eq_true rfl)) ?_ | refine qx_op rfl rfl (runs_none rfl) (does_load_ptrs rfl ta26 ti26 rfl rfl rfl rfl (Nat.le_of_ble_eq_true rfl)) ?_
      first | refine qx_op rfl rfl (runs_none rfl) (does_fieldAddr_ptr rfl tf30_2 (by decide) rfl) ?_ | refine qx_op rfl rfl (runs_none rfl) (does_fieldAddr_ref rfl tf30_2 (by decide) rfl) ?_
      first | refine qx_op rfl rfl (runs_none rfl) (does_load_ref rfl ta22 rfl) ?_ | refine qx_op rfl rfl (runs_none rfl) (does_load_ptr rfl ta22 rfl rfl rfl rfl rfl) ?_
      refine qx_op rfl rfl (runs_none rfl) (mv_s (.inl rfl) rfl) ?_
      refine qx_op rfl rfl (runs_none rfl) (does_call rfl rfl (hz) (evc_cons rfl evc_nil)) ?_
      refine qx_op rfl rfl (runs_none rfl) (does_call rfl rfl (hu) (evc_cons rfl (evc_cons rfl (evc_cons rfl evc_nil)))) ?_
      first | refine qx_op rfl rfl (runs_none rfl) (mv_tup (.inl rfl) rfl) ?_ | refine qx_op rfl rfl (runs_none rfl) (mv_s (.inl rfl) rfl) ?_
      refine qx_op rfl rfl (runs_none rfl) (does_extract rfl rfl rfl) ?_
      refine qx_op rfl rfl (runs_none rfl) (does_extract rfl rfl rfl) ?_
      refine qx_op rfl rfl (runs_none rfl) (mv_s (.inr rfl) rfl) ?_
      refine qx_op rfl rfl (runs_none rfl) (mv_s (.inr rfl) rfl) ?_
      refine qx_nil ?_
      repeat (first | refine aw_seq ?_ | refine ath_n ?_ | refine aw_skip ?_ | refine abl_n ?_ | refine aw_block ?_)
      refine aw_region ?_
      first | refine ops_op rfl rfl (runs_none rfl) (does_fieldAddr_ptr rfl tf26_3 (by decide) rfl) ?_ | refine ops_op rfl rfl (runs_none rfl) (does_fieldAddr_ref rfl tf26_3 (by decide) rfl) ?_
      first | refine ops_op rfl rfl (runs_none rfl) (does_load_ref rfl ta22 rfl) ?_ | refine ops_op rfl rfl (runs_none rfl) (does_load_ptr rfl ta22 rfl rfl rfl rfl rfl) ?_
      first | refine ops_op rfl rfl (runs_none rfl) (does_fieldAddr_ptr rfl tf30_2 (by decide) rfl) ?_ | refine ops_op rfl rfl (runs_none rfl) (does_fieldAddr_ref rfl tf30_2 (by decide) rfl) ?_
      first | refine ops_op rfl rfl (runs_none rfl) (does_load_ref rfl ta22 rfl) ?_ | refine ops_op rfl rfl (runs_none rfl) (does_load_ptr rfl ta22 rfl rfl rfl rfl rfl) ?_
      refine ops_op rfl rfl (runs_none rfl) (does_call rfl rfl (hdy) (evc_cons rfl (evc_cons rfl evc_nil))) ?_
      first | refine ops_op rfl rfl (runs_none rfl) (mv_tup (.inl rfl) rfl) ?_ | refine ops_op rfl rfl (runs_none rfl) (mv_s (.inl rfl) rfl) ?_
      refine ops_op rfl rfl (runs_none rfl) (does_extract rfl rfl rfl) ?_
      refine ops_op rfl rfl (runs_none rfl) (does_extract rfl rfl rfl) ?_
      refine ops_op rfl rfl (runs_none rfl) (does_alloc rfl ti28 rfl rfl) ?_
      refine ops_eff rfl (runs_none rfl) (does_store rfl ti28 rfl rfl rfl rfl rfl rfl (by decide) (by decide)) ?_
      refine ops_op rfl rfl (runs_none rfl) (mv_s (.inr rfl) rfl) ?_
      refine ops_nil ?_
      repeat (first | refine aw_seq ?_ | refine ath_n ?_ | refine aw_skip ?_ | refine abl_n ?_ | refine aw_block ?_)
      cases b
      rotate_left 1
      · have he := ht rfl
        subst he
        all_goals refine aw_region ?_
        all_goals refine ops_op rfl rfl (runs_none rfl) (mv_s (.inl rfl) rfl) ?_
        all_goals refine ops_op rfl rfl (runs_none rfl) (mv_s (.inl rfl) rfl) ?_
        all_goals (first | refine ops_op rfl rfl (runs_y rfl rfl rfl) (mv_s (.inl rfl) rfl) ?_ | refine ops_skip rfl rfl (runs_nt rfl rfl rfl) ?_ | refine ops_skip rfl rfl (runs_nu rfl rfl rfl) ?_)
        all_goals (first | refine ops_opP rfl rfl (runs_y rfl rfl rfl) (does_eql rfl rfl rfl) (fun h160 => ?_) (fun h160 => ?_) | refine ops_opB rfl rfl (runs_y rfl rfl rfl) (does_eql rfl rfl rfl) (fun h160 => ?_) (fun h160 => ?_) | refine ops_skip rfl rfl (runs_nt rfl rfl rfl) ?_ | refine ops_skip rfl rfl (runs_nu rfl rfl rfl) ?_)
        all_goals (first | refine ops_op rfl rfl (runs_none rfl) (pickT_s rfl rfl rfl) ?_ | refine ops_op rfl rfl (runs_none rfl) (pickF_s rfl rfl rfl) ?_ | refine ops_op rfl rfl (runs_none rfl) (does_pickT rfl rfl rfl) ?_ | refine ops_op rfl rfl (runs_none rfl) (does_pickF rfl rfl rfl) ?_)
        all_goals refine ops_op rfl rfl (runs_none rfl) (mv_s (.inl rfl) rfl) ?_
        all_goals (first | refine ops_op rfl rfl (runs_y rfl rfl rfl) (mv_s (.inl rfl) rfl) ?_ | refine ops_skip rfl rfl (runs_nt rfl rfl rfl) ?_ | refine ops_skip rfl rfl (runs_nu rfl rfl rfl) ?_)
        all_goals (first | refine ops_opP rfl rfl (runs_y rfl rfl rfl) (does_eql rfl rfl rfl) (fun h164 => ?_) (fun h164 => ?_) | refine ops_opB rfl rfl (runs_y rfl rfl rfl) (does_eql rfl rfl rfl) (fun h164 => ?_) (fun h164 => ?_) | refine ops_skip rfl rfl (runs_nt rfl rfl rfl) ?_ | refine ops_skip rfl rfl (runs_nu rfl rfl rfl) ?_)
        all_goals (first | refine ops_op rfl rfl (runs_none rfl) (pickT_s rfl rfl rfl) ?_ | refine ops_op rfl rfl (runs_none rfl) (pickF_s rfl rfl rfl) ?_ | refine ops_op rfl rfl (runs_none rfl) (does_pickT rfl rfl rfl) ?_ | refine ops_op rfl rfl (runs_none rfl) (does_pickF rfl rfl rfl) ?_)
        all_goals refine ops_op rfl rfl (runs_none rfl) (mv_s (.inl rfl) rfl) ?_
        all_goals (first | refine ops_op rfl rfl (runs_y rfl rfl rfl) (does_fieldAddr_ptr rfl tf28_0 (by decide) rfl) ?_ | refine ops_op rfl rfl (runs_y rfl rfl rfl) (does_fieldAddr_ref rfl tf28_0 (by decide) rfl) ?_ | refine ops_skip rfl rfl (runs_nt rfl rfl rfl) ?_ | refine ops_skip rfl rfl (runs_nu rfl rfl rfl) ?_)
        all_goals (first | refine ops_op rfl rfl (runs_y rfl rfl rfl) (does_load_ref rfl ta3 rfl) ?_ | refine ops_op rfl rfl (runs_y rfl rfl rfl) (does_load_ptr rfl ta3 rfl rfl rfl rfl rfl) ?_ | refine ops_skip rfl rfl (runs_nt rfl rfl rfl) ?_ | refine ops_skip rfl rfl (runs_nu rfl rfl rfl) ?_)
        all_goals (first | refine ops_opP rfl rfl (runs_y rfl rfl rfl) (does_gtr rfl rfl rfl) (fun h169 => ?_) (fun h169 => ?_) | refine ops_opB rfl rfl (runs_y rfl rfl rfl) (does_gtr rfl rfl rfl) (fun h169 => ?_) (fun h169 => ?_) | refine ops_skip rfl rfl (runs_nt rfl rfl rfl) ?_ | refine ops_skip rfl rfl (runs_nu rfl rfl rfl) ?_)
        all_goals (first | refine ops_op rfl rfl (runs_none rfl) (pickT_s rfl rfl rfl) ?_ | refine ops_op rfl rfl (runs_none rfl) (pickF_s rfl rfl rfl) ?_ | refine ops_op rfl rfl (runs_none rfl) (does_pickT rfl rfl rfl) ?_ | refine ops_op rfl rfl (runs_none rfl) (does_pickF rfl rfl rfl) ?_)
        all_goals refine ops_op rfl rfl (runs_none rfl) (mv_s (.inr rfl) rfl) ?_
        all_goals refine ops_nil ?_
        all_goals (repeat (first | refine aw_seq ?_ | refine ath_n ?_ | refine aw_skip ?_ | refine abl_n ?_ | refine aw_block ?_))
        all_goals (refine aw_ret ?_; repeat (first | refine ath_r ?_ | refine abl_r ?_))
        all_goals exact post1 (.inr rfl) rfl (congrArg eB (by
          rw [← hR]
          first
          | exact decP_t ⟨by omega, by omega, @fr_neF s.v.n s.v.d 0 0 h124, h130, h137, rfl, h164, h169⟩
          | refine decP_f ?_
            rintro ⟨g1, g2, g3, g4, g5, g6, g7, g8⟩
            omega))
      · skip
        all_goals refine aw_region ?_
        all_goals refine ops_op rfl rfl (runs_none rfl) (mv_s (.inl rfl) rfl) ?_
        all_goals refine ops_op rfl rfl (runs_none rfl) (mv_s (.inl rfl) rfl) ?_
        all_goals (first | refine ops_op rfl rfl (runs_y rfl rfl rfl) (mv_s (.inl rfl) rfl) ?_ | refine ops_skip rfl rfl (runs_nt rfl rfl rfl) ?_ | refine ops_skip rfl rfl (runs_nu rfl rfl rfl) ?_)
        all_goals (first | refine ops_opP rfl rfl (runs_y rfl rfl rfl) (does_eql rfl rfl rfl) (fun h160 => ?_) (fun h160 => ?_) | refine ops_opB rfl rfl (runs_y rfl rfl rfl) (does_eql rfl rfl rfl) (fun h160 => ?_) (fun h160 => ?_) | refine ops_skip rfl rfl (runs_nt rfl rfl rfl) ?_ | refine ops_skip rfl rfl (runs_nu rfl rfl rfl) ?_)
        all_goals (first | refine ops_op rfl rfl (runs_none rfl) (pickT_s rfl rfl rfl) ?_ | refine ops_op rfl rfl (runs_none rfl) (pickF_s rfl rfl rfl) ?_ | refine ops_op rfl rfl (runs_none rfl) (does_pickT rfl rfl rfl) ?_ | refine ops_op rfl rfl (runs_none rfl) (does_pickF rfl rfl rfl) ?_)
        all_goals refine ops_op rfl rfl (runs_none rfl) (mv_s (.inl rfl) rfl) ?_
        all_goals (first | refine ops_op rfl rfl (runs_y rfl rfl rfl) (mv_s (.inl rfl) rfl) ?_ | refine ops_skip rfl rfl (runs_nt rfl rfl rfl) ?_ | refine ops_skip rfl rfl (runs_nu rfl rfl rfl) ?_)
        all_goals (first | refine ops_opP rfl rfl (runs_y rfl rfl rfl) (does_eql rfl rfl rfl) (fun h164 => ?_) (fun h164 => ?_) | refine ops_opB rfl rfl (runs_y rfl rfl rfl) (does_eql rfl rfl rfl) (fun h164 => ?_) (fun h164 => ?_) | refine ops_skip rfl rfl (runs_nt rfl rfl rfl) ?_ | refine ops_skip rfl rfl (runs_nu rfl rfl rfl) ?_)
        all_goals (first | refine ops_op rfl rfl (runs_none rfl) (pickT_s rfl rfl rfl) ?_ | refine ops_op rfl rfl (runs_none rfl) (pickF_s rfl rfl rfl) ?_ | refine ops_op rfl rfl (runs_none rfl) (does_pickT rfl rfl rfl) ?_ | refine ops_op rfl rfl (runs_none rfl) (does_pickF rfl rfl rfl) ?_)
        all_goals refine ops_op rfl rfl (runs_none rfl) (mv_s (.inl rfl) rfl) ?_
        all_goals (first | refine ops_op rfl rfl (runs_y rfl rfl rfl) (does_fieldAddr_ptr rfl tf28_0 (by decide) rfl) ?_ | refine ops_op rfl rfl (runs_y rfl rfl rfl) (does_fieldAddr_ref rfl tf28_0 (by decide) rfl) ?_ | refine ops_skip rfl rfl (runs_nt rfl rfl rfl) ?_ | refine ops_skip rfl rfl (runs_nu rfl rfl rfl) ?_)
        all_goals (first | refine ops_op rfl rfl (runs_y rfl rfl rfl) (does_load_ref rfl ta3 rfl) ?_ | refine ops_op rfl rfl (runs_y rfl rfl rfl) (does_load_ptr rfl ta3 rfl rfl rfl rfl rfl) ?_ | refine ops_skip rfl rfl (runs_nt rfl rfl rfl) ?_ | refine ops_skip rfl rfl (runs_nu rfl rfl rfl) ?_)
        all_goals (first | refine ops_opP rfl rfl (runs_y rfl rfl rfl) (does_gtr rfl rfl rfl) (fun h169 => ?_) (fun h169 => ?_) | refine ops_opB rfl rfl (runs_y rfl rfl rfl) (does_gtr rfl rfl rfl) (fun h169 => ?_) (fun h169 => ?_) | refine ops_skip rfl rfl (runs_nt rfl rfl rfl) ?_ | refine ops_skip rfl rfl (runs_nu rfl rfl rfl) ?_)
        all_goals (first | refine ops_op rfl rfl (runs_none rfl) (pickT_s rfl rfl rfl) ?_ | refine ops_op rfl rfl (runs_none rfl) (pickF_s rfl rfl rfl) ?_ | refine ops_op rfl rfl (runs_none rfl) (does_pickT rfl rfl rfl) ?_ | refine ops_op rfl rfl (runs_none rfl) (does_pickF rfl rfl rfl) ?_)
        all_goals refine ops_op rfl rfl (runs_none rfl) (mv_s (.inr rfl) rfl) ?_
        all_goals refine ops_nil ?_
        all_goals (repeat (first | refine aw_seq ?_ | refine ath_n ?_ | refine aw_skip ?_ | refine abl_n ?_ | refine aw_block ?_))
        all_goals (refine aw_ret ?_; repeat (first | refine ath_r ?_ | refine abl_r ?_))
        all_goals exact post1 (.inr rfl) rfl (congrArg eB (by
          rw [← hR]
          exact decP_f (fun g => Bool.noConfusion g.2.2.2.2.2.1)))
    · rw [if_neg h109] at hR
      all_goals refine aw_region ?_
      all_goals (first | refine ops_opP rfl rfl (runs_none rfl) (does_eql rfl rfl rfl) (fun h172 => ?_) (fun h172 => ?_) | refine ops_opB rfl rfl (runs_none rfl) (does_eql rfl rfl rfl) (fun h172 => ?_) (fun h172 => ?_))
      all_goals refine ops_op rfl rfl (runs_none rfl) (mv_s (.inr rfl) rfl) ?_
      all_goals refine ops_nil ?_
      all_goals (repeat (first | refine aw_seq ?_ | refine ath_n ?_ | refine aw_skip ?_ | refine abl_n ?_ | refine aw_block ?_))
      all_goals (first | refine aw_true rfl ?_ | refine aw_false rfl ?_)
      all_goals (repeat (first | refine aw_seq ?_ | refine ath_n ?_ | refine aw_skip ?_ | refine abl_n ?_ | refine aw_block ?_))
      · rw [if_pos h172] at hR
        have hs1 := solution_pf (P := P) p s.x h22
        have hz := zeros_pf (P := P) p.a.length q3
        have hu : Pure P 29 [eP p, eL eF s.ray, eL eF (zerosL p.a.length)] (.tup [eB (metE p s.ray (zerosL p.a.length)).1, eI (metE p s.ray (zerosL p.a.length)).2]) := met_pf (P := P) p s.ray (zerosL p.a.length) q1 (zerosL_len _) q3
        have hdy := fDot_pf (P := P) p.c s.ray
        generalize metE p s.ray (zerosL p.a.length) = r at hu hR
        generalize dotE p.c s.ray = dy at hdy hR
        obtain ⟨b, e⟩ := r
        replace hu : Pure P 29 [eP p, eL eF s.ray, eL eF (zerosL p.a.length)] (.tup [eB b, eI e]) := hu
        all_goals refine aw_region ?_
        all_goals (first | refine ops_op rfl rfl (runs_none rfl) (does_fieldAddr_ptr rfl tf30_2 (by decide) rfl) ?_ | refine ops_op rfl rfl (runs_none rfl) (does_fieldAddr_ref rfl tf30_2 (by decide) rfl) ?_)
        all_goals (first | refine ops_op rfl rfl (runs_none rfl) (does_load_ref rfl ta22 rfl) ?_ | refine ops_op rfl rfl (runs_none rfl) (does_load_ptr rfl ta22 rfl rfl rfl rfl rfl) ?_)
        all_goals (first | refine ops_op rfl rfl (runs_none rfl) (does_len_map rfl ts22 rfl) ?_ | refine ops_op rfl rfl (runs_none rfl) (does_len_sl rfl ts22 rfl) ?_ | refine ops_op rfl rfl (runs_none rfl) (does_len_own rfl ts22 rfl) ?_ | refine ops_op rfl rfl (runs_none rfl) (does_len_s rfl ts22 rfl) ?_ | refine ops_op rfl rfl (runs_none rfl) (does_len_emp rfl ts22 rfl) ?_)
        all_goals (first | refine ops_opP rfl rfl (runs_none rfl) (does_gtr rfl rfl rfl) (fun h176 => ?_) (fun h176 => ?_) | refine ops_opB rfl rfl (runs_none rfl) (does_gtr rfl rfl rfl) (fun h176 => ?_) (fun h176 => ?_))
        all_goals refine ops_op rfl rfl (runs_none rfl) (mv_s (.inl rfl) rfl) ?_
        all_goals (first | refine ops_op rfl rfl (runs_y rfl rfl rfl) (does_fieldAddr_ptr rfl tf30_4 (by decide) rfl) ?_ | refine ops_op rfl rfl (runs_y rfl rfl rfl) (does_fieldAddr_ref rfl tf30_4 (by decide) rfl) ?_ | refine ops_skip rfl rfl (runs_nf rfl rfl rfl) ?_ | refine ops_skip rfl rfl (runs_nu rfl rfl rfl) ?_)
        all_goals (first | refine ops_op rfl rfl (runs_y rfl rfl rfl) (does_load_refw rfl ta28 ti28 rfl rfl) ?_ | refine ops_op rfl rfl (runs_y rfl rfl rfl) (does_load_whole rfl ta28 ti28 rfl rfl rfl rfl rfl) ?_ | refine ops_op rfl rfl (runs_y rfl rfl rfl) (does_load_refs rfl ta28 ti28 rfl (Nat.le_of_ble_eq_true rfl)) ?_ | refine ops_op rfl rfl (runs_y rfl rfl rfl) (does_load_ptrs rfl ta28 ti28 rfl rfl rfl rfl (Nat.le_of_ble_eq_true rfl)) ?_ | refine ops_skip rfl rfl (runs_nf rfl rfl rfl) ?_ | refine ops_skip rfl rfl (runs_nu rfl rfl rfl) ?_)
        all_goals (first | refine ops_op rfl rfl (runs_y rfl rfl rfl) (does_build rfl ti28 tp28 rfl rfl) ?_ | refine ops_skip rfl rfl (runs_nf rfl rfl rfl) ?_ | refine ops_skip rfl rfl (runs_nu rfl rfl rfl) ?_)
        all_goals (first | refine ops_opP rfl rfl (runs_y rfl rfl rfl) (does_nea rfl rfl rfl te28 rfl rfl rfl) (fun h181 => ?_) (fun h181 => ?_) | refine ops_opB rfl rfl (runs_y rfl rfl rfl) (does_nea rfl rfl rfl te28 rfl rfl rfl) (fun h181 => ?_) (fun h181 => ?_) | refine ops_skip rfl rfl (runs_nf rfl rfl rfl) ?_ | refine ops_skip rfl rfl (runs_nu rfl rfl rfl) ?_)
        all_goals (first | refine ops_op rfl rfl (runs_none rfl) (pickT_s rfl rfl rfl) ?_ | refine ops_op rfl rfl (runs_none rfl) (pickF_s rfl rfl rfl) ?_ | refine ops_op rfl rfl (runs_none rfl) (does_pickT rfl rfl rfl) ?_ | refine ops_op rfl rfl (runs_none rfl) (does_pickF rfl rfl rfl) ?_)
        all_goals refine ops_op rfl rfl (runs_none rfl) (mv_s (.inl rfl) rfl) ?_
        all_goals (first | refine ops_op rfl rfl (runs_y rfl rfl rfl) (does_load_refw rfl ta26 ti26 rfl rfl) ?_ | refine ops_op rfl rfl (runs_y rfl rfl rfl) (does_load_whole rfl ta26 ti26 rfl rfl rfl rfl rfl) ?_ | refine ops_op rfl rfl (runs_y rfl rfl rfl) (does_load_refs rfl ta26 ti26 rfl (Nat.le_of_ble_eq_true rfl)) ?_ | refine ops_op rfl rfl (runs_y rfl rfl rfl) (does_load_ptrs rfl ta26 ti26 rfl rfl rfl rfl (Nat.le_of_ble_eq_true rfl)) ?_ | refine ops_skip rfl rfl (runs_nf rfl rfl rfl) ?_ | refine ops_skip rfl rfl (runs_nu rfl rfl rfl) ?_)
        all_goals (first | refine ops_op rfl rfl (runs_y rfl rfl rfl) (does_fieldAddr_ptr rfl tf30_1 (by decide) rfl) ?_ | refine ops_op rfl rfl (runs_y rfl rfl rfl) (does_fieldAddr_ref rfl tf30_1 (by decide) rfl) ?_ | refine ops_skip rfl rfl (runs_nf rfl rfl rfl) ?_ | refine ops_skip rfl rfl (runs_nu rfl rfl rfl) ?_)
        all_goals (first | refine ops_op rfl rfl (runs_y rfl rfl rfl) (does_load_ref rfl ta22 rfl) ?_ | refine ops_op rfl rfl (runs_y rfl rfl rfl) (does_load_ptr rfl ta22 rfl rfl rfl rfl rfl) ?_ | refine ops_skip rfl rfl (runs_nf rfl rfl rfl) ?_ | refine ops_skip rfl rfl (runs_nu rfl rfl rfl) ?_)
        all_goals (first | refine ops_opP rfl rfl (runs_y rfl rfl rfl) (does_call rfl rfl (hs1) (evc_cons rfl (evc_cons rfl evc_nil))) (fun h187 => ?_) (fun h187 => ?_) | refine ops_opB rfl rfl (runs_y rfl rfl rfl) (does_call rfl rfl (hs1) (evc_cons rfl (evc_cons rfl evc_nil))) (fun h187 => ?_) (fun h187 => ?_) | refine ops_skip rfl rfl (runs_nf rfl rfl rfl) ?_ | refine ops_skip rfl rfl (runs_nu rfl rfl rfl) ?_)
        all_goals (first | refine ops_op rfl rfl (runs_y rfl rfl rfl) (does_notp rfl rfl) ?_ | refine ops_op rfl rfl (runs_y rfl rfl rfl) (does_not rfl rfl) ?_ | refine ops_skip rfl rfl (runs_nf rfl rfl rfl) ?_ | refine ops_skip rfl rfl (runs_nu rfl rfl rfl) ?_)
        all_goals (first | refine ops_op rfl rfl (runs_none rfl) (pickT_s rfl rfl rfl) ?_ | refine ops_op rfl rfl (runs_none rfl) (pickF_s rfl rfl rfl) ?_ | refine ops_op rfl rfl (runs_none rfl) (does_pickT rfl rfl rfl) ?_ | refine ops_op rfl rfl (runs_none rfl) (does_pickF rfl rfl rfl) ?_)
        all_goals refine ops_op rfl rfl (runs_none rfl) (mv_s (.inl rfl) rfl) ?_
        all_goals (first | refine ops_op rfl rfl (runs_y rfl rfl rfl) (does_fieldAddr_ptr rfl tf30_3 (by decide) rfl) ?_ | refine ops_op rfl rfl (runs_y rfl rfl rfl) (does_fieldAddr_ref rfl tf30_3 (by decide) rfl) ?_ | refine ops_skip rfl rfl (runs_nf rfl rfl rfl) ?_ | refine ops_skip rfl rfl (runs_nu rfl rfl rfl) ?_)
        all_goals (first | refine ops_op rfl rfl (runs_y rfl rfl rfl) (does_load_ref rfl ta22 rfl) ?_ | refine ops_op rfl rfl (runs_y rfl rfl rfl) (does_load_ptr rfl ta22 rfl rfl rfl rfl rfl) ?_ | refine ops_skip rfl rfl (runs_nf rfl rfl rfl) ?_ | refine ops_skip rfl rfl (runs_nu rfl rfl rfl) ?_)
        all_goals (first | refine ops_op rfl rfl (runs_y rfl rfl rfl) (mv_s (.inl rfl) rfl) ?_ | refine ops_skip rfl rfl (runs_nf rfl rfl rfl) ?_ | refine ops_skip rfl rfl (runs_nu rfl rfl rfl) ?_)
        all_goals (first | refine ops_opP rfl rfl (runs_y rfl rfl rfl) (does_call rfl rfl (fine_pf _ _) (evc_cons rfl (evc_cons rfl evc_nil))) (fun h194 => ?_) (fun h194 => ?_) | refine ops_opB rfl rfl (runs_y rfl rfl rfl) (does_call rfl rfl (fine_pf _ _) (evc_cons rfl (evc_cons rfl evc_nil))) (fun h194 => ?_) (fun h194 => ?_) | refine ops_skip rfl rfl (runs_nf rfl rfl rfl) ?_ | refine ops_skip rfl rfl (runs_nu rfl rfl rfl) ?_)
        all_goals (first | refine ops_op rfl rfl (runs_y rfl rfl rfl) (does_notp rfl rfl) ?_ | refine ops_op rfl rfl (runs_y rfl rfl rfl) (does_not rfl rfl) ?_ | refine ops_skip rfl rfl (runs_nf rfl rfl rfl) ?_ | refine ops_skip rfl rfl (runs_nu rfl rfl rfl) ?_)
        all_goals (first | refine ops_op rfl rfl (runs_none rfl) (pickT_s rfl rfl rfl) ?_ | refine ops_op rfl rfl (runs_none rfl) (pickF_s rfl rfl rfl) ?_ | refine ops_op rfl rfl (runs_none rfl) (does_pickT rfl rfl rfl) ?_ | refine ops_op rfl rfl (runs_none rfl) (does_pickF rfl rfl rfl) ?_)
        all_goals refine ops_nil ?_
        all_goals (repeat (first | refine aw_seq ?_ | refine ath_n ?_ | refine aw_skip ?_ | refine abl_n ?_ | refine aw_block ?_))
        all_goals (first | refine aw_true rfl ?_ | refine aw_false rfl ?_)
        all_goals (repeat (first | refine aw_seq ?_ | refine ath_n ?_ | refine aw_skip ?_ | refine abl_n ?_ | refine aw_block ?_))
        all_goals first
          | skip
            refine aw_region ?_
            refine ops_op rfl rfl (runs_none rfl) (mv_s (.inr rfl) rfl) ?_
            refine ops_nil ?_
            repeat (first | refine aw_seq ?_ | refine ath_n ?_ | refine aw_skip ?_ | refine abl_n ?_ | refine aw_block ?_)
            (refine aw_ret ?_; repeat (first | refine ath_r ?_ | refine abl_r ?_))
            exact post1 (.inr rfl) rfl (congrArg eB (by
              rw [← hR]
              refine decP_f ?_
              rintro ⟨g1, g2, g3, g4, g5, g6, g7, g8⟩
              first | omega | exact @fr_neT s.v.n s.v.d 0 0 h181 g2 | exact Bool.noConfusion (g3.symm.trans h187) | exact Bool.noConfusion (g4.symm.trans h194)))
          | skip
        refine aw_draw hmix ?_
        refine adraw_quiet (by kernel_rfl) ?_
        first | refine qx_op rfl rfl (runs_none rfl) (does_load_refw rfl ta26 ti26 rfl rfl) ?_ | refine qx_op rfl rfl (runs_none rfl) (does_load_whole rfl ta26 ti26 rfl rfl rfl rfl rfl) ?_ | refine qx_op rfl rfl (runs_none rfl) (does_load_refs rfl ta26 ti26 rfl (Nat.le_of_ble_eq_true rfl)) ?_ | refine qx_op rfl rfl (runs_none rfl) (does_load_ptrs rfl ta26 ti26 rfl rfl rfl rfl (Nat.le_of_ble_eq_true rfl)) ?_
        first | refine qx_op rfl rfl (runs_none rfl) (does_fieldAddr_ptr rfl tf30_3 (by decide) rfl) ?_ | refine qx_op rfl rfl (runs_none rfl) (does_fieldAddr_ref rfl tf30_3 (by decide) rfl) ?_
        first | refine qx_op rfl rfl (runs_none rfl) (does_load_ref rfl ta22 rfl) ?_ | refine qx_op rfl rfl (runs_none rfl) (does_load_ptr rfl ta22 rfl rfl rfl rfl rfl) ?_
        refine qx_op rfl rfl (runs_none rfl) (mv_s (.inl rfl) rfl) ?_
        refine qx_op rfl rfl (runs_none rfl) (does_call rfl rfl (hz) (evc_cons rfl evc_nil)) ?_
        refine qx_op rfl rfl (runs_none rfl) (does_call rfl rfl (hu) (evc_cons rfl (evc_cons rfl (evc_cons rfl evc_nil)))) ?_
        first | refine qx_op rfl rfl (runs_none rfl) (mv_tup (.inl rfl) rfl) ?_ | refine qx_op rfl rfl (runs_none rfl) (mv_s (.inl rfl) rfl) ?_
        refine qx_op rfl rfl (runs_none rfl) (does_extract rfl rfl rfl) ?_
        refine qx_op rfl rfl (runs_none rfl) (does_extract rfl rfl rfl) ?_
        refine qx_op rfl rfl (runs_none rfl) (mv_s (.inr rfl) rfl) ?_
        refine qx_op rfl rfl (runs_none rfl) (mv_s (.inr rfl) rfl) ?_
        refine qx_nil ?_
        repeat (first | refine aw_seq ?_ | refine ath_n ?_ | refine aw_skip ?_ | refine abl_n ?_ | refine aw_block ?_)
        refine aw_region ?_
        first | refine ops_op rfl rfl (runs_none rfl) (does_fieldAddr_ptr rfl tf26_0 (by decide) rfl) ?_ | refine ops_op rfl rfl (runs_none rfl) (does_fieldAddr_ref rfl tf26_0 (by decide) rfl) ?_
        first | refine ops_op rfl rfl (runs_none rfl) (does_load_ref rfl ta22 rfl) ?_ | refine ops_op rfl rfl (runs_none rfl) (does_load_ptr rfl ta22 rfl rfl rfl rfl rfl) ?_
        first | refine ops_op rfl rfl (runs_none rfl) (does_fieldAddr_ptr rfl tf30_3 (by decide) rfl) ?_ | refine ops_op rfl rfl (runs_none rfl) (does_fieldAddr_ref rfl tf30_3 (by decide) rfl) ?_
        first | refine ops_op rfl rfl (runs_none rfl) (does_load_ref rfl ta22 rfl) ?_ | refine ops_op rfl rfl (runs_none rfl) (does_load_ptr rfl ta22 rfl rfl rfl rfl rfl) ?_
        refine ops_op rfl rfl (runs_none rfl) (does_call rfl rfl (hdy) (evc_cons rfl (evc_cons rfl evc_nil))) ?_
        first | refine ops_op rfl rfl (runs_none rfl) (mv_tup (.inl rfl) rfl) ?_ | refine ops_op rfl rfl (runs_none rfl) (mv_s (.inl rfl) rfl) ?_
        refine ops_op rfl rfl (runs_none rfl) (does_extract rfl rfl rfl) ?_
        refine ops_op rfl rfl (runs_none rfl) (does_extract rfl rfl rfl) ?_
        refine ops_op rfl rfl (runs_none rfl) (does_alloc rfl ti28 rfl rfl) ?_
        refine ops_eff rfl (runs_none rfl) (does_store rfl ti28 rfl rfl rfl rfl rfl rfl (by decide) (by decide)) ?_
        refine ops_op rfl rfl (runs_none rfl) (mv_s (.inr rfl) rfl) ?_
        refine ops_nil ?_
        repeat (first | refine aw_seq ?_ | refine ath_n ?_ | refine aw_skip ?_ | refine abl_n ?_ | refine aw_block ?_)
        cases b
        rotate_left 1
        · skip
          all_goals refine aw_region ?_
          all_goals refine ops_op rfl rfl (runs_none rfl) (mv_s (.inl rfl) rfl) ?_
          all_goals refine ops_op rfl rfl (runs_none rfl) (mv_s (.inl rfl) rfl) ?_
          all_goals (first | refine ops_op rfl rfl (runs_y rfl rfl rfl) (mv_s (.inl rfl) rfl) ?_ | refine ops_skip rfl rfl (runs_nt rfl rfl rfl) ?_ | refine ops_skip rfl rfl (runs_nu rfl rfl rfl) ?_)
          all_goals (first | refine ops_opP rfl rfl (runs_y rfl rfl rfl) (does_eql rfl rfl rfl) (fun h217 => ?_) (fun h217 => ?_) | refine ops_opB rfl rfl (runs_y rfl rfl rfl) (does_eql rfl rfl rfl) (fun h217 => ?_) (fun h217 => ?_) | refine ops_skip rfl rfl (runs_nt rfl rfl rfl) ?_ | refine ops_skip rfl rfl (runs_nu rfl rfl rfl) ?_)
          all_goals (first | refine ops_op rfl rfl (runs_none rfl) (pickT_s rfl rfl rfl) ?_ | refine ops_op rfl rfl (runs_none rfl) (pickF_s rfl rfl rfl) ?_ | refine ops_op rfl rfl (runs_none rfl) (does_pickT rfl rfl rfl) ?_ | refine ops_op rfl rfl (runs_none rfl) (does_pickF rfl rfl rfl) ?_)
          all_goals refine ops_op rfl rfl (runs_none rfl) (mv_s (.inl rfl) rfl) ?_
          all_goals (first | refine ops_op rfl rfl (runs_y rfl rfl rfl) (mv_s (.inl rfl) rfl) ?_ | refine ops_skip rfl rfl (runs_nt rfl rfl rfl) ?_ | refine ops_skip rfl rfl (runs_nu rfl rfl rfl) ?_)
          all_goals (first | refine ops_opP rfl rfl (runs_y rfl rfl rfl) (does_eql rfl rfl rfl) (fun h221 => ?_) (fun h221 => ?_) | refine ops_opB rfl rfl (runs_y rfl rfl rfl) (does_eql rfl rfl rfl) (fun h221 => ?_) (fun h221 => ?_) | refine ops_skip rfl rfl (runs_nt rfl rfl rfl) ?_ | refine ops_skip rfl rfl (runs_nu rfl rfl rfl) ?_)
          all_goals (first | refine ops_op rfl rfl (runs_none rfl) (pickT_s rfl rfl rfl) ?_ | refine ops_op rfl rfl (runs_none rfl) (pickF_s rfl rfl rfl) ?_ | refine ops_op rfl rfl (runs_none rfl) (does_pickT rfl rfl rfl) ?_ | refine ops_op rfl rfl (runs_none rfl) (does_pickF rfl rfl rfl) ?_)
          all_goals refine ops_op rfl rfl (runs_none rfl) (mv_s (.inl rfl) rfl) ?_
          all_goals (first | refine ops_op rfl rfl (runs_y rfl rfl rfl) (does_fieldAddr_ptr rfl tf28_0 (by decide) rfl) ?_ | refine ops_op rfl rfl (runs_y rfl rfl rfl) (does_fieldAddr_ref rfl tf28_0 (by decide) rfl) ?_ | refine ops_skip rfl rfl (runs_nt rfl rfl rfl) ?_ | refine ops_skip rfl rfl (runs_nu rfl rfl rfl) ?_)
          all_goals (first | refine ops_op rfl rfl (runs_y rfl rfl rfl) (does_load_ref rfl ta3 rfl) ?_ | refine ops_op rfl rfl (runs_y rfl rfl rfl) (does_load_ptr rfl ta3 rfl rfl rfl rfl rfl) ?_ | refine ops_skip rfl rfl (runs_nt rfl rfl rfl) ?_ | refine ops_skip rfl rfl (runs_nu rfl rfl rfl) ?_)
          all_goals (first | refine ops_opP rfl rfl (runs_y rfl rfl rfl) (does_lss rfl rfl rfl) (fun h226 => ?_) (fun h226 => ?_) | refine ops_opB rfl rfl (runs_y rfl rfl rfl) (does_lss rfl rfl rfl) (fun h226 => ?_) (fun h226 => ?_) | refine ops_skip rfl rfl (runs_nt rfl rfl rfl) ?_ | refine ops_skip rfl rfl (runs_nu rfl rfl rfl) ?_)
          all_goals (first | refine ops_op rfl rfl (runs_none rfl) (pickT_s rfl rfl rfl) ?_ | refine ops_op rfl rfl (runs_none rfl) (pickF_s rfl rfl rfl) ?_ | refine ops_op rfl rfl (runs_none rfl) (does_pickT rfl rfl rfl) ?_ | refine ops_op rfl rfl (runs_none rfl) (does_pickF rfl rfl rfl) ?_)
          all_goals refine ops_op rfl rfl (runs_none rfl) (mv_s (.inr rfl) rfl) ?_
          all_goals refine ops_nil ?_
          all_goals (repeat (first | refine aw_seq ?_ | refine ath_n ?_ | refine aw_skip ?_ | refine abl_n ?_ | refine aw_block ?_))
          all_goals (refine aw_ret ?_; repeat (first | refine ath_r ?_ | refine abl_r ?_))
          all_goals exact post1 (.inr rfl) rfl (congrArg eB (by
            rw [← hR]
            first
            | exact decP_t ⟨by omega, @fr_neF s.v.n s.v.d 0 0 h181, h187, h194, rfl, h217, h221, h226⟩
            | refine decP_f ?_
              rintro ⟨g1, g2, g3, g4, g5, g6, g7, g8⟩
              dsimp only at g6
              omega))
        · skip
          all_goals refine aw_region ?_
          all_goals refine ops_op rfl rfl (runs_none rfl) (mv_s (.inl rfl) rfl) ?_
          all_goals refine ops_op rfl rfl (runs_none rfl) (mv_s (.inl rfl) rfl) ?_
          all_goals (first | refine ops_op rfl rfl (runs_y rfl rfl rfl) (mv_s (.inl rfl) rfl) ?_ | refine ops_skip rfl rfl (runs_nt rfl rfl rfl) ?_ | refine ops_skip rfl rfl (runs_nu rfl rfl rfl) ?_)
          all_goals (first | refine ops_opP rfl rfl (runs_y rfl rfl rfl) (does_eql rfl rfl rfl) (fun h217 => ?_) (fun h217 => ?_) | refine ops_opB rfl rfl (runs_y rfl rfl rfl) (does_eql rfl rfl rfl) (fun h217 => ?_) (fun h217 => ?_) | refine ops_skip rfl rfl (runs_nt rfl rfl rfl) ?_ | refine ops_skip rfl rfl (runs_nu rfl rfl rfl) ?_)
          all_goals (first | refine ops_op rfl rfl (runs_none rfl) (pickT_s rfl rfl rfl) ?_ | refine ops_op rfl rfl (runs_none rfl) (pickF_s rfl rfl rfl) ?_ | refine ops_op rfl rfl (runs_none rfl) (does_pickT rfl rfl rfl) ?_ | refine ops_op rfl rfl (runs_none rfl) (does_pickF rfl rfl rfl) ?_)
          all_goals refine ops_op rfl rfl (runs_none rfl) (mv_s (.inl rfl) rfl) ?_
          all_goals (first | refine ops_op rfl rfl (runs_y rfl rfl rfl) (mv_s (.inl rfl) rfl) ?_ | refine ops_skip rfl rfl (runs_nt rfl rfl rfl) ?_ | refine ops_skip rfl rfl (runs_nu rfl rfl rfl) ?_)
          all_goals (first | refine ops_opP rfl rfl (runs_y rfl rfl rfl) (does_eql rfl rfl rfl) (fun h221 => ?_) (fun h221 => ?_) | refine ops_opB rfl rfl (runs_y rfl rfl rfl) (does_eql rfl rfl rfl) (fun h221 => ?_) (fun h221 => ?_) | refine ops_skip rfl rfl (runs_nt rfl rfl rfl) ?_ | refine ops_skip rfl rfl (runs_nu rfl rfl rfl) ?_)
          all_goals (first | refine ops_op rfl rfl (runs_none rfl) (pickT_s rfl rfl rfl) ?_ | refine ops_op rfl rfl (runs_none rfl) (pickF_s rfl rfl rfl) ?_ | refine ops_op rfl rfl (runs_none rfl) (does_pickT rfl rfl rfl) ?_ | refine ops_op rfl rfl (runs_none rfl) (does_pickF rfl rfl rfl) ?_)
          all_goals refine ops_op rfl rfl (runs_none rfl) (mv_s (.inl rfl) rfl) ?_
          all_goals (first | refine ops_op rfl rfl (runs_y rfl rfl rfl) (does_fieldAddr_ptr rfl tf28_0 (by decide) rfl) ?_ | refine ops_op rfl rfl (runs_y rfl rfl rfl) (does_fieldAddr_ref rfl tf28_0 (by decide) rfl) ?_ | refine ops_skip rfl rfl (runs_nt rfl rfl rfl) ?_ | refine ops_skip rfl rfl (runs_nu rfl rfl rfl) ?_)
          all_goals (first | refine ops_op rfl rfl (runs_y rfl rfl rfl) (does_load_ref rfl ta3 rfl) ?_ | refine ops_op rfl rfl (runs_y rfl rfl rfl) (does_load_ptr rfl ta3 rfl rfl rfl rfl rfl) ?_ | refine ops_skip rfl rfl (runs_nt rfl rfl rfl) ?_ | refine ops_skip rfl rfl (runs_nu rfl rfl rfl) ?_)
          all_goals (first | refine ops_opP rfl rfl (runs_y rfl rfl rfl) (does_lss rfl rfl rfl) (fun h226 => ?_) (fun h226 => ?_) | refine ops_opB rfl rfl (runs_y rfl rfl rfl) (does_lss rfl rfl rfl) (fun h226 => ?_) (fun h226 => ?_) | refine ops_skip rfl rfl (runs_nt rfl rfl rfl) ?_ | refine ops_skip rfl rfl (runs_nu rfl rfl rfl) ?_)
          all_goals (first | refine ops_op rfl rfl (runs_none rfl) (pickT_s rfl rfl rfl) ?_ | refine ops_op rfl rfl (runs_none rfl) (pickF_s rfl rfl rfl) ?_ | refine ops_op rfl rfl (runs_none rfl) (does_pickT rfl rfl rfl) ?_ | refine ops_op rfl rfl (runs_none rfl) (does_pickF rfl rfl rfl) ?_)
          all_goals refine ops_op rfl rfl (runs_none rfl) (mv_s (.inr rfl) rfl) ?_
          all_goals refine ops_nil ?_
          all_goals (repeat (first | refine aw_seq ?_ | refine ath_n ?_ | refine aw_skip ?_ | refine abl_n ?_ | refine aw_block ?_))
          all_goals (refine aw_ret ?_; repeat (first | refine ath_r ?_ | refine abl_r ?_))
          all_goals exact post1 (.inr rfl) rfl (congrArg eB (by
            rw [← hR]
            exact decP_f (fun g => Bool.noConfusion g.2.2.2.2.1)))
      · rw [if_neg h172] at hR
        refine aw_region ?_
        refine ops_op rfl rfl (runs_none rfl) (mv_s (.inr rfl) rfl) ?_
        refine ops_nil ?_
        repeat (first | refine aw_seq ?_ | refine ath_n ?_ | refine aw_skip ?_ | refine abl_n ?_ | refine aw_block ?_)
        (refine aw_ret ?_; repeat (first | refine ath_r ?_ | refine abl_r ?_))
        exact post1 (.inr rfl) rfl (congrArg eB hR)
end Go.Proofs.Ytcpnffjnagbkoaa.Aw
end
