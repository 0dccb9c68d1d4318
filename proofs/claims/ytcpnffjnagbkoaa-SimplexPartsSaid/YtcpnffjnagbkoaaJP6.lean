/-
  Texts joined: SxA, EvA. Conditions: none.
-/
import Derived.Test.YtcpnffjnagbkoaaJP5
import Derived.Test.YtcpnffjnagbkoaaJP4
section
namespace Go.Proofs.Ytcpnffjnagbkoaa.Aw
set_option linter.unusedSimpArgs false
set_option linter.unusedVariables false
open Go.RowKit Go.Proofs
variable {P : Program} [IsP P]

def eFs (l : List Fr) : AV := eL eF l
theorem lo_Fs (l : List Fr) : Lo 0 (eL eF l) := lo_map lo_F
theorem fine1_pf (a : Fr) : Pure P 46 [eF a] (eB (!a.okB)) := by
  refine aw_fn (by rw [IsP.eq (P := P)]; exact Try.func46) rfl rfl rfl rfl rfl (by repeat' (first | exact Lo.s _ | exact Lo.emp | exact Lo.any | exact lo_nil | exact lo_nilE | refine lo_cons ?_ ?_ | refine lo_consE ?_ ?_ | refine lo_map ?_ | refine lo_mapE ?_ | refine Lo.cells ?_ | refine Lo.agg _ ?_ | refine Lo.ref _ ?_ | refine Lo.tup _ ?_ | refine Lo.fn _ _ ?_ | refine Lo.sl _ ?_ | intro _)) (by repeat' (first | exact Lo.s _ | exact Lo.emp | exact Lo.any | exact lo_nil | exact lo_nilE | refine lo_cons ?_ ?_ | refine lo_consE ?_ ?_ | refine lo_map ?_ | refine lo_mapE ?_ | refine Lo.cells ?_ | refine Lo.agg _ ?_ | refine Lo.ref _ ?_ | refine Lo.tup _ ?_ | refine Lo.fn _ _ ?_ | refine Lo.sl _ ?_ | intro _)) (by simp only [argF]; rfl) ?_
  repeat (first | refine aw_seq ?_ | refine ath_n ?_ | refine aw_skip ?_ | refine abl_n ?_ | refine aw_block ?_)
  refine aw_region ?_
  refine ops_op rfl rfl (runs_none rfl) (does_box rfl rfl rfl rfl) ?_
  refine aops_weak (wk_froz (id := 0) rfl) (aops_weak (wk_ref (d := 1) rfl rfl rfl) ?_)
  refine ops_op rfl rfl (runs_none rfl) (mv_s (.inr rfl) rfl) ?_
  refine ops_nil ?_
  repeat (first | refine aw_seq ?_ | refine ath_n ?_ | refine aw_skip ?_ | refine abl_n ?_ | refine aw_block ?_)
  refine aw_region ?_
  first | refine ops_op rfl rfl (runs_none rfl) (does_load_refw rfl ta28 ti28 rfl rfl) ?_ | refine ops_op rfl rfl (runs_none rfl) (does_load_whole rfl ta28 ti28 rfl rfl rfl rfl rfl) ?_ | refine ops_op rfl rfl (runs_none rfl) (does_load_refs rfl ta28 ti28 rfl (Nat.le_of_ble_eq_true rfl)) ?_ | refine ops_op rfl rfl (runs_none rfl) (does_load_ptrs rfl ta28 ti28 rfl rfl rfl rfl (Nat.le_of_ble_eq_true rfl)) ?_
  refine ops_op rfl rfl (runs_none rfl) (does_call rfl rfl (fValid_pf _) (evc_cons rfl evc_nil)) ?_
  first | refine ops_op rfl rfl (runs_none rfl) (does_notp rfl rfl) ?_ | refine ops_op rfl rfl (runs_none rfl) (does_not rfl rfl) ?_
  refine ops_op rfl rfl (runs_none rfl) (mv_s (.inr rfl) rfl) ?_
  refine ops_nil ?_
  repeat (first | refine aw_seq ?_ | refine ath_n ?_ | refine aw_skip ?_ | refine abl_n ?_ | refine aw_block ?_)
  (refine aw_ret ?_; repeat (first | refine ath_r ?_ | refine abl_r ?_))
  exact post1 (.inr rfl) rfl (congrArg eB (by simp [Fr.okB]))
def fineB (l : List Fr) (n : Int) : Bool := decide ((l.length : Int) = n) && l.all Fr.okB
theorem all_okB (l : List Fr) : l.all Fr.okB = !l.any (fun a => !a.okB) := by simp [List.all_eq_not_any_not]
theorem fine_pf (l : List Fr) (n : Int) : Pure P 24 [eL eF l, eI n] (eB (fineB l n)) := by
  have hc := containsFF_pf (P := P) 46 [] (fun a => !a.okB) l lo_F (.fn _ _ (by simp)) (fun a _ => fine1_pf a)
  refine aw_fn (by rw [IsP.eq (P := P)]; exact Try.func24) rfl rfl rfl rfl rfl (by repeat' (first | exact Lo.s _ | exact Lo.emp | exact Lo.any | exact lo_nil | exact lo_nilE | refine lo_cons ?_ ?_ | refine lo_consE ?_ ?_ | refine lo_map ?_ | refine lo_mapE ?_ | refine Lo.cells ?_ | refine Lo.agg _ ?_ | refine Lo.ref _ ?_ | refine Lo.tup _ ?_ | refine Lo.fn _ _ ?_ | refine Lo.sl _ ?_ | intro _)) (by repeat' (first | exact Lo.s _ | exact Lo.emp | exact Lo.any | exact lo_nil | exact lo_nilE | refine lo_cons ?_ ?_ | refine lo_consE ?_ ?_ | refine lo_map ?_ | refine lo_mapE ?_ | refine Lo.cells ?_ | refine Lo.agg _ ?_ | refine Lo.ref _ ?_ | refine Lo.tup _ ?_ | refine Lo.fn _ _ ?_ | refine Lo.sl _ ?_ | intro _)) (by simp only [argF]; rfl) ?_
  repeat (first | refine aw_seq ?_ | refine ath_n ?_ | refine aw_skip ?_ | refine abl_n ?_ | refine aw_block ?_)
  refine aw_region ?_
  refine ops_op rfl rfl (runs_none rfl) (mv_s (.inr rfl) rfl) ?_
  refine ops_nil ?_
  repeat (first | refine aw_seq ?_ | refine ath_n ?_ | refine aw_skip ?_ | refine abl_n ?_ | refine aw_block ?_)
  all_goals refine aw_region ?_
  all_goals (first | refine ops_op rfl rfl (runs_none rfl) (mv_own (.inl rfl) rfl) ?_ | refine ops_op rfl rfl (runs_none rfl) (mv_sl (.inl rfl) rfl) ?_ | refine ops_op rfl rfl (runs_none rfl) (mv_s (.inl rfl) rfl) ?_ | refine ops_op rfl rfl (runs_none rfl) (mv_emp (.inl rfl) rfl) ?_)
  all_goals (first | refine ops_op rfl rfl (runs_none rfl) (does_len_map rfl ts22 rfl) ?_ | refine ops_op rfl rfl (runs_none rfl) (does_len_sl rfl ts22 rfl) ?_ | refine ops_op rfl rfl (runs_none rfl) (does_len_own rfl ts22 rfl) ?_ | refine ops_op rfl rfl (runs_none rfl) (does_len_s rfl ts22 rfl) ?_ | refine ops_op rfl rfl (runs_none rfl) (does_len_emp rfl ts22 rfl) ?_)
  all_goals refine ops_op rfl rfl (runs_none rfl) (mv_s (.inl rfl) rfl) ?_
  all_goals (first | refine ops_opP rfl rfl (runs_none rfl) (does_eql rfl rfl rfl) (fun h8 => ?_) (fun h8 => ?_) | refine ops_opB rfl rfl (runs_none rfl) (does_eql rfl rfl rfl) (fun h8 => ?_) (fun h8 => ?_))
  all_goals refine ops_op rfl rfl (runs_none rfl) (mv_s (.inl rfl) rfl) ?_
  all_goals (first | refine ops_op rfl rfl (runs_y rfl rfl rfl) (mv_own (.inl rfl) rfl) ?_ | refine ops_op rfl rfl (runs_y rfl rfl rfl) (mv_sl (.inl rfl) rfl) ?_ | refine ops_op rfl rfl (runs_y rfl rfl rfl) (mv_s (.inl rfl) rfl) ?_ | refine ops_op rfl rfl (runs_y rfl rfl rfl) (mv_emp (.inl rfl) rfl) ?_ | refine ops_skip rfl rfl (runs_nt rfl rfl rfl) ?_ | refine ops_skip rfl rfl (runs_nu rfl rfl rfl) ?_)
  all_goals (first | refine ops_opP rfl rfl (runs_y rfl rfl rfl) (does_call rfl rfl (hc) (evc_cons rfl (evc_cons rfl evc_nil))) (fun h11 => ?_) (fun h11 => ?_) | refine ops_opB rfl rfl (runs_y rfl rfl rfl) (does_call rfl rfl (hc) (evc_cons rfl (evc_cons rfl evc_nil))) (fun h11 => ?_) (fun h11 => ?_) | refine ops_skip rfl rfl (runs_nt rfl rfl rfl) ?_ | refine ops_skip rfl rfl (runs_nu rfl rfl rfl) ?_)
  all_goals (first | refine ops_op rfl rfl (runs_y rfl rfl rfl) (does_notp rfl rfl) ?_ | refine ops_op rfl rfl (runs_y rfl rfl rfl) (does_not rfl rfl) ?_ | refine ops_skip rfl rfl (runs_nt rfl rfl rfl) ?_ | refine ops_skip rfl rfl (runs_nu rfl rfl rfl) ?_)
  all_goals (first | refine ops_op rfl rfl (runs_none rfl) (pickT_s rfl rfl rfl) ?_ | refine ops_op rfl rfl (runs_none rfl) (pickF_s rfl rfl rfl) ?_ | refine ops_op rfl rfl (runs_none rfl) (does_pickT rfl rfl rfl) ?_ | refine ops_op rfl rfl (runs_none rfl) (does_pickF rfl rfl rfl) ?_)
  all_goals refine ops_op rfl rfl (runs_none rfl) (mv_s (.inr rfl) rfl) ?_
  all_goals refine ops_nil ?_
  all_goals (repeat (first | refine aw_seq ?_ | refine ath_n ?_ | refine aw_skip ?_ | refine abl_n ?_ | refine aw_block ?_))
  all_goals (refine aw_ret ?_; repeat (first | refine ath_r ?_ | refine abl_r ?_))
  all_goals exact post1 (.inr rfl) rfl (congrArg eB (by simp_all [fineB]))
theorem rValidAll_pf (l : List Fr) : Pure P 30 [eL eF l] (eB (l.all Fr.okB)) := by
  refine aw_fn (by rw [IsP.eq (P := P)]; exact Try.func30) rfl rfl rfl rfl rfl (by repeat' (first | exact Lo.s _ | exact Lo.emp | exact Lo.any | exact lo_nil | exact lo_nilE | refine lo_cons ?_ ?_ | refine lo_consE ?_ ?_ | refine lo_map ?_ | refine lo_mapE ?_ | refine Lo.cells ?_ | refine Lo.agg _ ?_ | refine Lo.ref _ ?_ | refine Lo.tup _ ?_ | refine Lo.fn _ _ ?_ | refine Lo.sl _ ?_ | intro _)) (by repeat' (first | exact Lo.s _ | exact Lo.emp | exact Lo.any | exact lo_nil | exact lo_nilE | refine lo_cons ?_ ?_ | refine lo_consE ?_ ?_ | refine lo_map ?_ | refine lo_mapE ?_ | refine Lo.cells ?_ | refine Lo.agg _ ?_ | refine Lo.ref _ ?_ | refine Lo.tup _ ?_ | refine Lo.fn _ _ ?_ | refine Lo.sl _ ?_ | intro _)) (by simp only [argF]; rfl) ?_
  repeat (first | refine aw_seq ?_ | refine ath_n ?_ | refine aw_skip ?_ | refine abl_n ?_ | refine aw_block ?_)
  refine aw_bdm (d := 0) rfl (fun hmx => ?_)
  unfold maxLen at hmx
  refine aw_region ?_
  refine ops_op rfl rfl (runs_none rfl) (mv_s (.inr rfl) rfl) ?_
  refine ops_nil ?_
  repeat (first | refine aw_seq ?_ | refine ath_n ?_ | refine aw_skip ?_ | refine abl_n ?_ | refine aw_block ?_)
  refine aw_region ?_
  refine ops_op rfl rfl (runs_none rfl) (mv_s (.inr rfl) rfl) ?_
  refine ops_nil ?_
  repeat (first | refine aw_seq ?_ | refine ath_n ?_ | refine aw_skip ?_ | refine abl_n ?_ | refine aw_block ?_)
  refine aw_loops (S := Nat) (fun k => [(0, eL eF l), (3, eI k)]) (fun _ => []) (fun k => k ≤ l.length ∧ ∀ j, j < k → (gti l j).okB = true) (fun k => l.length - k) 0 (wk_sub _ ⟨rfl, rfl, trivial⟩) ⟨by omega, fun j hj => by omega⟩ (fun k hk => ?_)
  repeat (first | refine aw_seq ?_ | refine ath_n ?_ | refine aw_skip ?_ | refine abl_n ?_ | refine aw_block ?_)
  all_goals refine aw_region ?_
  all_goals refine ops_op rfl rfl (runs_none rfl) (mv_s (.inl rfl) rfl) ?_
  all_goals (first | refine ops_op rfl rfl (runs_none rfl) (mv_own (.inl rfl) rfl) ?_ | refine ops_op rfl rfl (runs_none rfl) (mv_sl (.inl rfl) rfl) ?_ | refine ops_op rfl rfl (runs_none rfl) (mv_s (.inl rfl) rfl) ?_ | refine ops_op rfl rfl (runs_none rfl) (mv_emp (.inl rfl) rfl) ?_)
  all_goals (first | refine ops_op rfl rfl (runs_none rfl) (does_len_map rfl ts22 rfl) ?_ | refine ops_op rfl rfl (runs_none rfl) (does_len_sl rfl ts22 rfl) ?_ | refine ops_op rfl rfl (runs_none rfl) (does_len_own rfl ts22 rfl) ?_ | refine ops_op rfl rfl (runs_none rfl) (does_len_s rfl ts22 rfl) ?_ | refine ops_op rfl rfl (runs_none rfl) (does_len_emp rfl ts22 rfl) ?_)
  all_goals (first | refine ops_opP rfl rfl (runs_none rfl) (does_lss rfl rfl rfl) (fun h7 => ?_) (fun h7 => ?_) | refine ops_opB rfl rfl (runs_none rfl) (does_lss rfl rfl rfl) (fun h7 => ?_) (fun h7 => ?_))
  all_goals refine ops_nil ?_
  all_goals (repeat (first | refine aw_seq ?_ | refine ath_n ?_ | refine aw_skip ?_ | refine abl_n ?_ | refine aw_block ?_))
  all_goals (first | refine aw_true rfl ?_ | refine aw_false rfl ?_)
  all_goals (repeat (first | refine aw_seq ?_ | refine ath_n ?_ | refine aw_skip ?_ | refine abl_n ?_ | refine aw_block ?_))
  · have hlt : k < l.length := by omega
    all_goals refine aw_region ?_
    all_goals (first | refine ops_op rfl rfl (runs_none rfl) (mv_own (.inl rfl) rfl) ?_ | refine ops_op rfl rfl (runs_none rfl) (mv_sl (.inl rfl) rfl) ?_ | refine ops_op rfl rfl (runs_none rfl) (mv_s (.inl rfl) rfl) ?_ | refine ops_op rfl rfl (runs_none rfl) (mv_emp (.inl rfl) rfl) ?_)
    all_goals refine ops_op rfl rfl (runs_none rfl) (mv_s (.inl rfl) rfl) ?_
    all_goals (first | refine ops_op rfl rfl (runs_none rfl) (does_index_sl rfl ts22 ti28 rfl rfl rfl (ix_map (by omega)) rfl) ?_ | refine ops_op rfl rfl (runs_none rfl) (does_index_own rfl ts22 ti28 rfl rfl rfl (by omega)) ?_)
    all_goals (first | refine ops_op rfl rfl (runs_none rfl) (does_load_refw rfl ta28 ti28 rfl rfl) ?_ | refine ops_op rfl rfl (runs_none rfl) (does_load_whole rfl ta28 ti28 rfl rfl rfl rfl rfl) ?_ | refine ops_op rfl rfl (runs_none rfl) (does_load_refs rfl ta28 ti28 rfl (Nat.le_of_ble_eq_true rfl)) ?_ | refine ops_op rfl rfl (runs_none rfl) (does_load_ptrs rfl ta28 ti28 rfl rfl rfl rfl (Nat.le_of_ble_eq_true rfl)) ?_)
    all_goals (first | refine ops_opP rfl rfl (runs_none rfl) (does_call rfl rfl (rValid_pf _) (evc_cons rfl evc_nil)) (fun h14 => ?_) (fun h14 => ?_) | refine ops_opB rfl rfl (runs_none rfl) (does_call rfl rfl (rValid_pf _) (evc_cons rfl evc_nil)) (fun h14 => ?_) (fun h14 => ?_))
    all_goals (first | refine ops_op rfl rfl (runs_none rfl) (does_notp rfl rfl) ?_ | refine ops_op rfl rfl (runs_none rfl) (does_not rfl rfl) ?_)
    all_goals refine ops_nil ?_
    all_goals (repeat (first | refine aw_seq ?_ | refine ath_n ?_ | refine aw_skip ?_ | refine abl_n ?_ | refine aw_block ?_))
    all_goals (first | refine aw_true rfl ?_ | refine aw_false rfl ?_)
    all_goals (repeat (first | refine aw_seq ?_ | refine ath_n ?_ | refine aw_skip ?_ | refine abl_n ?_ | refine aw_block ?_))
    · skip
      refine aw_region ?_
      refine ops_op rfl rfl (runs_none rfl) (mv_s (.inl rfl) rfl) ?_
      refine ops_op rfl rfl (runs_none rfl) (does_add rfl rfl rfl (IntWalk.i64_in _ (by omega))) ?_
      refine ops_op rfl rfl (runs_none rfl) (mv_s (.inr rfl) rfl) ?_
      refine ops_nil ?_
      repeat (first | refine aw_seq ?_ | refine ath_n ?_ | refine aw_skip ?_ | refine abl_n ?_ | refine aw_block ?_)
      refine ⟨k + 1, ⟨by omega, fun j hj => ?_⟩, by omega, wk_sub _ ⟨rfl, rfl, trivial⟩⟩
      by_cases e : j = k
      · subst e; exact Fr.okB_of h14
      · exact hk.2 j (by omega)
    · skip
      refine aw_region ?_
      refine ops_op rfl rfl (runs_none rfl) (mv_s (.inr rfl) rfl) ?_
      refine ops_nil ?_
      repeat (first | refine aw_seq ?_ | refine ath_n ?_ | refine aw_skip ?_ | refine abl_n ?_ | refine aw_block ?_)
      (refine aw_ret ?_; repeat (first | refine ath_r ?_ | refine abl_r ?_))
      refine post1 (.inr rfl) rfl (congrArg eB ?_)
      symm
      rw [List.all_eq_false]
      exact ⟨gti l k, gti_mem hlt, by rw [Fr.okB_not h14]; simp⟩
  · (refine aw_exit ?_; repeat (first | refine ath_x ?_ | refine abl_hit ?_ | refine abl_miss rfl ?_ | refine abl_n ?_ | refine ath_n ?_ | refine aw_seq ?_ | refine aw_skip ?_ | refine aw_block ?_))
    refine aw_region ?_
    refine ops_op rfl rfl (runs_none rfl) (mv_s (.inr rfl) rfl) ?_
    refine ops_nil ?_
    repeat (first | refine aw_seq ?_ | refine ath_n ?_ | refine aw_skip ?_ | refine abl_n ?_ | refine aw_block ?_)
    (refine aw_ret ?_; repeat (first | refine ath_r ?_ | refine abl_r ?_))
    refine post1 (.inr rfl) rfl (congrArg eB ?_)
    symm
    rw [List.all_eq_true]
    intro a ha
    obtain ⟨j, hj, rfl⟩ := List.mem_iff_getElem.1 ha
    have h1 := hk.2 j (by omega)
    have h2 := gti_get hj
    rw [List.getElem?_eq_getElem hj] at h2
    rw [Option.some.inj h2]; exact h1

/-! ## programs -/
structure LP where
  c : List Fr
  a : List (List Fr)
  rel : List Int
  b : List Fr
def eP (p : LP) : AV := .agg [eL eF p.c, eL (eL eF) p.a, eL eI p.rel, eL eF p.b]
def relB (r : Int) : Bool := decide (r = 1 ∨ r = 2 ∨ r = 3)
def rowB (p : LP) (k : Nat) : Bool := fineB (gti p.a k) p.c.length && relB (gti p.rel k)
def headB (p : LP) : Bool := decide (1 ≤ p.c.length) && decide (p.c.length ≤ 12) && decide (1 ≤ p.a.length) && decide (p.a.length ≤ 12) && decide (p.rel.length = p.a.length) && fineB p.c p.c.length && fineB p.b p.a.length
def validP (p : LP) : Bool := headB p && (List.range p.a.length).all (rowB p)
theorem validP_t {p : LP} (h : headB p = true) (h2 : ∀ j, j < p.a.length → rowB p j = true) : validP p = true := by
  unfold validP
  rw [h, Bool.true_and, List.all_eq_true]
  intro j hj
  exact h2 j (by simpa using hj)
theorem validP_f {p : LP} {k : Nat} (hk : k < p.a.length) (h : rowB p k = false) : validP p = false := by
  unfold validP
  rw [Bool.and_eq_false_iff]
  right
  rw [List.all_eq_false]
  exact ⟨k, by simpa using hk, by rw [h]; simp⟩
theorem validP_h {p : LP} (h : headB p = false) : validP p = false := by unfold validP; rw [h]; rfl
theorem headB_iff {p : LP} : headB p = true ↔ 1 ≤ p.c.length ∧ p.c.length ≤ 12 ∧ 1 ≤ p.a.length ∧ p.a.length ≤ 12 ∧ p.rel.length = p.a.length ∧ p.c.all Fr.okB = true ∧ p.b.length = p.a.length ∧ p.b.all Fr.okB = true := by
  simp only [headB, fineB, Bool.and_eq_true, decide_eq_true_eq]
  constructor
  · rintro ⟨⟨⟨⟨⟨⟨h1, h2⟩, h3⟩, h4⟩, h5⟩, ⟨_, h6⟩⟩, ⟨h7, h8⟩⟩
    exact ⟨h1, h2, h3, h4, h5, h6, by omega, h8⟩
  · rintro ⟨h1, h2, h3, h4, h5, h6, h7, h8⟩
    exact ⟨⟨⟨⟨⟨⟨h1, h2⟩, h3⟩, h4⟩, h5⟩, ⟨trivial, h6⟩⟩, ⟨by omega, h8⟩⟩
theorem fineB_iff {l : List Fr} {n : Int} : fineB l n = true ↔ (l.length : Int) = n ∧ l.all Fr.okB = true := by simp only [fineB, Bool.and_eq_true, decide_eq_true_eq]
theorem fineB_f {l : List Fr} {n : Int} (h : fineB l n = false) : ¬ ((l.length : Int) = n ∧ l.all Fr.okB = true) := by rw [← fineB_iff, h]; simp
theorem headB_f {p : LP} (h : ¬ (1 ≤ p.c.length ∧ p.c.length ≤ 12 ∧ 1 ≤ p.a.length ∧ p.a.length ≤ 12 ∧ p.rel.length = p.a.length ∧ p.c.all Fr.okB = true ∧ p.b.length = p.a.length ∧ p.b.all Fr.okB = true)) : headB p = false := by
  rw [← headB_iff] at h; simpa using h
set_option maxHeartbeats 1000000 in
theorem sValid_pf (p : LP) : Pure P 15 [eP p] (eB (validP p)) := by
  refine aw_fn (by rw [IsP.eq (P := P)]; exact Try.func15) rfl rfl rfl rfl rfl (by repeat' (first | exact Lo.s _ | exact Lo.emp | exact Lo.any | exact lo_nil | exact lo_nilE | refine lo_cons ?_ ?_ | refine lo_consE ?_ ?_ | refine lo_map ?_ | refine lo_mapE ?_ | refine Lo.cells ?_ | refine Lo.agg _ ?_ | refine Lo.ref _ ?_ | refine Lo.tup _ ?_ | refine Lo.fn _ _ ?_ | refine Lo.sl _ ?_ | intro _)) (by repeat' (first | exact Lo.s _ | exact Lo.emp | exact Lo.any | exact lo_nil | exact lo_nilE | refine lo_cons ?_ ?_ | refine lo_consE ?_ ?_ | refine lo_map ?_ | refine lo_mapE ?_ | refine Lo.cells ?_ | refine Lo.agg _ ?_ | refine Lo.ref _ ?_ | refine Lo.tup _ ?_ | refine Lo.fn _ _ ?_ | refine Lo.sl _ ?_ | intro _)) (by simp only [argF]; rfl) ?_
  repeat (first | refine aw_seq ?_ | refine ath_n ?_ | refine aw_skip ?_ | refine abl_n ?_ | refine aw_block ?_)
  refine aw_region ?_
  refine ops_op rfl rfl (runs_none rfl) (does_box rfl rfl rfl rfl) ?_
  refine aops_weak (wk_froz (id := 0) rfl) (aops_weak (wk_ref (d := 1) rfl rfl rfl) ?_)
  refine ops_op rfl rfl (runs_none rfl) (mv_s (.inr rfl) rfl) ?_
  refine ops_nil ?_
  repeat (first | refine aw_seq ?_ | refine ath_n ?_ | refine aw_skip ?_ | refine abl_n ?_ | refine aw_block ?_)
  refine aw_draw hmix ?_
  refine adraw_quiet (by kernel_rfl) ?_
  first | refine qx_op rfl rfl (runs_none rfl) (does_fieldAddr_ptr rfl tf26_0 (by decide) rfl) ?_ | refine qx_op rfl rfl (runs_none rfl) (does_fieldAddr_ref rfl tf26_0 (by decide) rfl) ?_
  first | refine qx_op rfl rfl (runs_none rfl) (does_load_ref rfl ta22 rfl) ?_ | refine qx_op rfl rfl (runs_none rfl) (does_load_ptr rfl ta22 rfl rfl rfl rfl rfl) ?_
  first | refine qx_op rfl rfl (runs_none rfl) (does_len_map rfl ts22 rfl) ?_ | refine qx_op rfl rfl (runs_none rfl) (does_len_sl rfl ts22 rfl) ?_ | refine qx_op rfl rfl (runs_none rfl) (does_len_own rfl ts22 rfl) ?_ | refine qx_op rfl rfl (runs_none rfl) (does_len_s rfl ts22 rfl) ?_ | refine qx_op rfl rfl (runs_none rfl) (does_len_emp rfl ts22 rfl) ?_
  first | refine qx_op rfl rfl (runs_none rfl) (does_fieldAddr_ptr rfl tf26_1 (by decide) rfl) ?_ | refine qx_op rfl rfl (runs_none rfl) (does_fieldAddr_ref rfl tf26_1 (by decide) rfl) ?_
  first | refine qx_op rfl rfl (runs_none rfl) (does_load_ref rfl ta23 rfl) ?_ | refine qx_op rfl rfl (runs_none rfl) (does_load_ptr rfl ta23 rfl rfl rfl rfl rfl) ?_
  first | refine qx_op rfl rfl (runs_none rfl) (does_len_map rfl ts23 rfl) ?_ | refine qx_op rfl rfl (runs_none rfl) (does_len_sl rfl ts23 rfl) ?_ | refine qx_op rfl rfl (runs_none rfl) (does_len_own rfl ts23 rfl) ?_ | refine qx_op rfl rfl (runs_none rfl) (does_len_s rfl ts23 rfl) ?_ | refine qx_op rfl rfl (runs_none rfl) (does_len_emp rfl ts23 rfl) ?_
  refine qx_op rfl rfl (runs_none rfl) (mv_s (.inr rfl) rfl) ?_
  refine qx_op rfl rfl (runs_none rfl) (mv_s (.inr rfl) rfl) ?_
  refine qx_nil ?_
  repeat (first | refine aw_seq ?_ | refine ath_n ?_ | refine aw_skip ?_ | refine abl_n ?_ | refine aw_block ?_)
  all_goals refine aw_region ?_
  all_goals refine ops_op rfl rfl (runs_none rfl) (mv_s (.inl rfl) rfl) ?_
  all_goals (first | refine ops_opP rfl rfl (runs_none rfl) (does_lss rfl rfl rfl) (fun h14 => ?_) (fun h14 => ?_) | refine ops_opB rfl rfl (runs_none rfl) (does_lss rfl rfl rfl) (fun h14 => ?_) (fun h14 => ?_))
  all_goals refine ops_op rfl rfl (runs_none rfl) (mv_s (.inl rfl) rfl) ?_
  all_goals (first | refine ops_op rfl rfl (runs_y rfl rfl rfl) (mv_s (.inl rfl) rfl) ?_ | refine ops_skip rfl rfl (runs_nf rfl rfl rfl) ?_ | refine ops_skip rfl rfl (runs_nu rfl rfl rfl) ?_)
  all_goals (first | refine ops_opP rfl rfl (runs_y rfl rfl rfl) (does_gtr rfl rfl rfl) (fun h17 => ?_) (fun h17 => ?_) | refine ops_opB rfl rfl (runs_y rfl rfl rfl) (does_gtr rfl rfl rfl) (fun h17 => ?_) (fun h17 => ?_) | refine ops_skip rfl rfl (runs_nf rfl rfl rfl) ?_ | refine ops_skip rfl rfl (runs_nu rfl rfl rfl) ?_)
  all_goals (first | refine ops_op rfl rfl (runs_none rfl) (pickT_s rfl rfl rfl) ?_ | refine ops_op rfl rfl (runs_none rfl) (pickF_s rfl rfl rfl) ?_ | refine ops_op rfl rfl (runs_none rfl) (does_pickT rfl rfl rfl) ?_ | refine ops_op rfl rfl (runs_none rfl) (does_pickF rfl rfl rfl) ?_)
  all_goals refine ops_op rfl rfl (runs_none rfl) (mv_s (.inl rfl) rfl) ?_
  all_goals (first | refine ops_op rfl rfl (runs_y rfl rfl rfl) (mv_s (.inl rfl) rfl) ?_ | refine ops_skip rfl rfl (runs_nf rfl rfl rfl) ?_ | refine ops_skip rfl rfl (runs_nu rfl rfl rfl) ?_)
  all_goals (first | refine ops_opP rfl rfl (runs_y rfl rfl rfl) (does_lss rfl rfl rfl) (fun h21 => ?_) (fun h21 => ?_) | refine ops_opB rfl rfl (runs_y rfl rfl rfl) (does_lss rfl rfl rfl) (fun h21 => ?_) (fun h21 => ?_) | refine ops_skip rfl rfl (runs_nf rfl rfl rfl) ?_ | refine ops_skip rfl rfl (runs_nu rfl rfl rfl) ?_)
  all_goals (first | refine ops_op rfl rfl (runs_none rfl) (pickT_s rfl rfl rfl) ?_ | refine ops_op rfl rfl (runs_none rfl) (pickF_s rfl rfl rfl) ?_ | refine ops_op rfl rfl (runs_none rfl) (does_pickT rfl rfl rfl) ?_ | refine ops_op rfl rfl (runs_none rfl) (does_pickF rfl rfl rfl) ?_)
  all_goals refine ops_op rfl rfl (runs_none rfl) (mv_s (.inl rfl) rfl) ?_
  all_goals (first | refine ops_op rfl rfl (runs_y rfl rfl rfl) (mv_s (.inl rfl) rfl) ?_ | refine ops_skip rfl rfl (runs_nf rfl rfl rfl) ?_ | refine ops_skip rfl rfl (runs_nu rfl rfl rfl) ?_)
  all_goals (first | refine ops_opP rfl rfl (runs_y rfl rfl rfl) (does_gtr rfl rfl rfl) (fun h25 => ?_) (fun h25 => ?_) | refine ops_opB rfl rfl (runs_y rfl rfl rfl) (does_gtr rfl rfl rfl) (fun h25 => ?_) (fun h25 => ?_) | refine ops_skip rfl rfl (runs_nf rfl rfl rfl) ?_ | refine ops_skip rfl rfl (runs_nu rfl rfl rfl) ?_)
  all_goals (first | refine ops_op rfl rfl (runs_none rfl) (pickT_s rfl rfl rfl) ?_ | refine ops_op rfl rfl (runs_none rfl) (pickF_s rfl rfl rfl) ?_ | refine ops_op rfl rfl (runs_none rfl) (does_pickT rfl rfl rfl) ?_ | refine ops_op rfl rfl (runs_none rfl) (does_pickF rfl rfl rfl) ?_)
  all_goals refine ops_op rfl rfl (runs_none rfl) (mv_s (.inl rfl) rfl) ?_
  all_goals (first | refine ops_op rfl rfl (runs_y rfl rfl rfl) (does_fieldAddr_ptr rfl tf26_2 (by decide) rfl) ?_ | refine ops_op rfl rfl (runs_y rfl rfl rfl) (does_fieldAddr_ref rfl tf26_2 (by decide) rfl) ?_ | refine ops_skip rfl rfl (runs_nf rfl rfl rfl) ?_ | refine ops_skip rfl rfl (runs_nu rfl rfl rfl) ?_)
  all_goals (first | refine ops_op rfl rfl (runs_y rfl rfl rfl) (does_load_ref rfl ta24 rfl) ?_ | refine ops_op rfl rfl (runs_y rfl rfl rfl) (does_load_ptr rfl ta24 rfl rfl rfl rfl rfl) ?_ | refine ops_skip rfl rfl (runs_nf rfl rfl rfl) ?_ | refine ops_skip rfl rfl (runs_nu rfl rfl rfl) ?_)
  all_goals (first | refine ops_op rfl rfl (runs_y rfl rfl rfl) (does_len_map rfl ts24 rfl) ?_ | refine ops_op rfl rfl (runs_y rfl rfl rfl) (does_len_sl rfl ts24 rfl) ?_ | refine ops_op rfl rfl (runs_y rfl rfl rfl) (does_len_own rfl ts24 rfl) ?_ | refine ops_op rfl rfl (runs_y rfl rfl rfl) (does_len_s rfl ts24 rfl) ?_ | refine ops_op rfl rfl (runs_y rfl rfl rfl) (does_len_emp rfl ts24 rfl) ?_ | refine ops_skip rfl rfl (runs_nf rfl rfl rfl) ?_ | refine ops_skip rfl rfl (runs_nu rfl rfl rfl) ?_)
  all_goals (first | refine ops_op rfl rfl (runs_y rfl rfl rfl) (mv_s (.inl rfl) rfl) ?_ | refine ops_skip rfl rfl (runs_nf rfl rfl rfl) ?_ | refine ops_skip rfl rfl (runs_nu rfl rfl rfl) ?_)
  all_goals (first | refine ops_opP rfl rfl (runs_y rfl rfl rfl) (does_neq rfl rfl rfl) (fun h32 => ?_) (fun h32 => ?_) | refine ops_opB rfl rfl (runs_y rfl rfl rfl) (does_neq rfl rfl rfl) (fun h32 => ?_) (fun h32 => ?_) | refine ops_skip rfl rfl (runs_nf rfl rfl rfl) ?_ | refine ops_skip rfl rfl (runs_nu rfl rfl rfl) ?_)
  all_goals (first | refine ops_op rfl rfl (runs_none rfl) (pickT_s rfl rfl rfl) ?_ | refine ops_op rfl rfl (runs_none rfl) (pickF_s rfl rfl rfl) ?_ | refine ops_op rfl rfl (runs_none rfl) (does_pickT rfl rfl rfl) ?_ | refine ops_op rfl rfl (runs_none rfl) (does_pickF rfl rfl rfl) ?_)
  all_goals refine ops_op rfl rfl (runs_none rfl) (mv_s (.inl rfl) rfl) ?_
  all_goals (first | refine ops_op rfl rfl (runs_y rfl rfl rfl) (does_fieldAddr_ptr rfl tf26_0 (by decide) rfl) ?_ | refine ops_op rfl rfl (runs_y rfl rfl rfl) (does_fieldAddr_ref rfl tf26_0 (by decide) rfl) ?_ | refine ops_skip rfl rfl (runs_nf rfl rfl rfl) ?_ | refine ops_skip rfl rfl (runs_nu rfl rfl rfl) ?_)
  all_goals (first | refine ops_op rfl rfl (runs_y rfl rfl rfl) (does_load_ref rfl ta22 rfl) ?_ | refine ops_op rfl rfl (runs_y rfl rfl rfl) (does_load_ptr rfl ta22 rfl rfl rfl rfl rfl) ?_ | refine ops_skip rfl rfl (runs_nf rfl rfl rfl) ?_ | refine ops_skip rfl rfl (runs_nu rfl rfl rfl) ?_)
  all_goals (first | refine ops_op rfl rfl (runs_y rfl rfl rfl) (mv_s (.inl rfl) rfl) ?_ | refine ops_skip rfl rfl (runs_nf rfl rfl rfl) ?_ | refine ops_skip rfl rfl (runs_nu rfl rfl rfl) ?_)
  all_goals (first | refine ops_opP rfl rfl (runs_y rfl rfl rfl) (does_call rfl rfl (fine_pf _ _) (evc_cons rfl (evc_cons rfl evc_nil))) (fun h38 => ?_) (fun h38 => ?_) | refine ops_opB rfl rfl (runs_y rfl rfl rfl) (does_call rfl rfl (fine_pf _ _) (evc_cons rfl (evc_cons rfl evc_nil))) (fun h38 => ?_) (fun h38 => ?_) | refine ops_skip rfl rfl (runs_nf rfl rfl rfl) ?_ | refine ops_skip rfl rfl (runs_nu rfl rfl rfl) ?_)
  all_goals (first | refine ops_op rfl rfl (runs_y rfl rfl rfl) (does_notp rfl rfl) ?_ | refine ops_op rfl rfl (runs_y rfl rfl rfl) (does_not rfl rfl) ?_ | refine ops_skip rfl rfl (runs_nf rfl rfl rfl) ?_ | refine ops_skip rfl rfl (runs_nu rfl rfl rfl) ?_)
  all_goals (first | refine ops_op rfl rfl (runs_none rfl) (pickT_s rfl rfl rfl) ?_ | refine ops_op rfl rfl (runs_none rfl) (pickF_s rfl rfl rfl) ?_ | refine ops_op rfl rfl (runs_none rfl) (does_pickT rfl rfl rfl) ?_ | refine ops_op rfl rfl (runs_none rfl) (does_pickF rfl rfl rfl) ?_)
  all_goals refine ops_op rfl rfl (runs_none rfl) (mv_s (.inl rfl) rfl) ?_
  all_goals (first | refine ops_op rfl rfl (runs_y rfl rfl rfl) (does_fieldAddr_ptr rfl tf26_3 (by decide) rfl) ?_ | refine ops_op rfl rfl (runs_y rfl rfl rfl) (does_fieldAddr_ref rfl tf26_3 (by decide) rfl) ?_ | refine ops_skip rfl rfl (runs_nf rfl rfl rfl) ?_ | refine ops_skip rfl rfl (runs_nu rfl rfl rfl) ?_)
  all_goals (first | refine ops_op rfl rfl (runs_y rfl rfl rfl) (does_load_ref rfl ta22 rfl) ?_ | refine ops_op rfl rfl (runs_y rfl rfl rfl) (does_load_ptr rfl ta22 rfl rfl rfl rfl rfl) ?_ | refine ops_skip rfl rfl (runs_nf rfl rfl rfl) ?_ | refine ops_skip rfl rfl (runs_nu rfl rfl rfl) ?_)
  all_goals (first | refine ops_op rfl rfl (runs_y rfl rfl rfl) (mv_s (.inl rfl) rfl) ?_ | refine ops_skip rfl rfl (runs_nf rfl rfl rfl) ?_ | refine ops_skip rfl rfl (runs_nu rfl rfl rfl) ?_)
  all_goals (first | refine ops_opP rfl rfl (runs_y rfl rfl rfl) (does_call rfl rfl (fine_pf _ _) (evc_cons rfl (evc_cons rfl evc_nil))) (fun h45 => ?_) (fun h45 => ?_) | refine ops_opB rfl rfl (runs_y rfl rfl rfl) (does_call rfl rfl (fine_pf _ _) (evc_cons rfl (evc_cons rfl evc_nil))) (fun h45 => ?_) (fun h45 => ?_) | refine ops_skip rfl rfl (runs_nf rfl rfl rfl) ?_ | refine ops_skip rfl rfl (runs_nu rfl rfl rfl) ?_)
  all_goals (first | refine ops_op rfl rfl (runs_y rfl rfl rfl) (does_notp rfl rfl) ?_ | refine ops_op rfl rfl (runs_y rfl rfl rfl) (does_not rfl rfl) ?_ | refine ops_skip rfl rfl (runs_nf rfl rfl rfl) ?_ | refine ops_skip rfl rfl (runs_nu rfl rfl rfl) ?_)
  all_goals (first | refine ops_op rfl rfl (runs_none rfl) (pickT_s rfl rfl rfl) ?_ | refine ops_op rfl rfl (runs_none rfl) (pickF_s rfl rfl rfl) ?_ | refine ops_op rfl rfl (runs_none rfl) (does_pickT rfl rfl rfl) ?_ | refine ops_op rfl rfl (runs_none rfl) (does_pickF rfl rfl rfl) ?_)
  all_goals refine ops_nil ?_
  all_goals (repeat (first | refine aw_seq ?_ | refine ath_n ?_ | refine aw_skip ?_ | refine abl_n ?_ | refine aw_block ?_))
  all_goals (first | refine aw_true rfl ?_ | refine aw_false rfl ?_)
  all_goals (repeat (first | refine aw_seq ?_ | refine ath_n ?_ | refine aw_skip ?_ | refine abl_n ?_ | refine aw_block ?_))
  rotate_left 5
  · have hh : headB p = true := headB_iff.2 ⟨by omega, by omega, by omega, by omega, by omega, (fineB_iff.1 h38).2, by have := (fineB_iff.1 h45).1; omega, (fineB_iff.1 h45).2⟩
    obtain ⟨q1, q2, q3, q4, q5, q6, q7, q8⟩ := headB_iff.1 hh
    refine aw_region ?_
    first | refine ops_op rfl rfl (runs_none rfl) (does_fieldAddr_ptr rfl tf26_1 (by decide) rfl) ?_ | refine ops_op rfl rfl (runs_none rfl) (does_fieldAddr_ref rfl tf26_1 (by decide) rfl) ?_
    first | refine ops_op rfl rfl (runs_none rfl) (does_load_ref rfl ta23 rfl) ?_ | refine ops_op rfl rfl (runs_none rfl) (does_load_ptr rfl ta23 rfl rfl rfl rfl rfl) ?_
    first | refine ops_op rfl rfl (runs_none rfl) (does_len_map rfl ts23 rfl) ?_ | refine ops_op rfl rfl (runs_none rfl) (does_len_sl rfl ts23 rfl) ?_ | refine ops_op rfl rfl (runs_none rfl) (does_len_own rfl ts23 rfl) ?_ | refine ops_op rfl rfl (runs_none rfl) (does_len_s rfl ts23 rfl) ?_ | refine ops_op rfl rfl (runs_none rfl) (does_len_emp rfl ts23 rfl) ?_
    refine ops_op rfl rfl (runs_none rfl) (mv_s (.inl rfl) rfl) ?_
    refine ops_nil ?_
    repeat (first | refine aw_seq ?_ | refine ath_n ?_ | refine aw_skip ?_ | refine abl_n ?_ | refine aw_block ?_)
    refine aw_loops (S := Nat) (fun k => [(1, .ref (eP p).cells), (3, eI p.c.length), (4, eI p.a.length), (49, eL (eL eF) p.a), (50, eI p.a.length), (51, eI k)]) (fun _ => []) (fun k => k ≤ p.a.length ∧ ∀ j, j < k → rowB p j = true) (fun k => p.a.length - k) 0 (wk_st [] (by decide) trivial ⟨.lo _ (by repeat' (first | exact Lo.s _ | exact Lo.emp | exact Lo.any | exact lo_nil | exact lo_nilE | refine lo_cons ?_ ?_ | refine lo_consE ?_ ?_ | refine lo_map ?_ | refine lo_mapE ?_ | refine Lo.cells ?_ | refine Lo.agg _ ?_ | refine Lo.ref _ ?_ | refine Lo.tup _ ?_ | refine Lo.fn _ _ ?_ | refine Lo.sl _ ?_ | intro _)), .lo _ (by repeat' (first | exact Lo.s _ | exact Lo.emp | exact Lo.any | exact lo_nil | exact lo_nilE | refine lo_cons ?_ ?_ | refine lo_consE ?_ ?_ | refine lo_map ?_ | refine lo_mapE ?_ | refine Lo.cells ?_ | refine Lo.agg _ ?_ | refine Lo.ref _ ?_ | refine Lo.tup _ ?_ | refine Lo.fn _ _ ?_ | refine Lo.sl _ ?_ | intro _)), .lo _ (by repeat' (first | exact Lo.s _ | exact Lo.emp | exact Lo.any | exact lo_nil | exact lo_nilE | refine lo_cons ?_ ?_ | refine lo_consE ?_ ?_ | refine lo_map ?_ | refine lo_mapE ?_ | refine Lo.cells ?_ | refine Lo.agg _ ?_ | refine Lo.ref _ ?_ | refine Lo.tup _ ?_ | refine Lo.fn _ _ ?_ | refine Lo.sl _ ?_ | intro _)), .lo _ (by repeat' (first | exact Lo.s _ | exact Lo.emp | exact Lo.any | exact lo_nil | exact lo_nilE | refine lo_cons ?_ ?_ | refine lo_consE ?_ ?_ | refine lo_map ?_ | refine lo_mapE ?_ | refine Lo.cells ?_ | refine Lo.agg _ ?_ | refine Lo.ref _ ?_ | refine Lo.tup _ ?_ | refine Lo.fn _ _ ?_ | refine Lo.sl _ ?_ | intro _)), .lo _ (by repeat' (first | exact Lo.s _ | exact Lo.emp | exact Lo.any | exact lo_nil | exact lo_nilE | refine lo_cons ?_ ?_ | refine lo_consE ?_ ?_ | refine lo_map ?_ | refine lo_mapE ?_ | refine Lo.cells ?_ | refine Lo.agg _ ?_ | refine Lo.ref _ ?_ | refine Lo.tup _ ?_ | refine Lo.fn _ _ ?_ | refine Lo.sl _ ?_ | intro _)), .lo _ (by repeat' (first | exact Lo.s _ | exact Lo.emp | exact Lo.any | exact lo_nil | exact lo_nilE | refine lo_cons ?_ ?_ | refine lo_consE ?_ ?_ | refine lo_map ?_ | refine lo_mapE ?_ | refine Lo.cells ?_ | refine Lo.agg _ ?_ | refine Lo.ref _ ?_ | refine Lo.tup _ ?_ | refine Lo.fn _ _ ?_ | refine Lo.sl _ ?_ | intro _)), trivial⟩) ⟨by omega, fun j hj => by omega⟩ (fun k hk => ?_)
    repeat (first | refine aw_seq ?_ | refine ath_n ?_ | refine aw_skip ?_ | refine abl_n ?_ | refine aw_block ?_)
    all_goals refine aw_region ?_
    all_goals (first | refine ops_opP rfl rfl (runs_none rfl) (does_lss rfl rfl rfl) (fun h52 => ?_) (fun h52 => ?_) | refine ops_opB rfl rfl (runs_none rfl) (does_lss rfl rfl rfl) (fun h52 => ?_) (fun h52 => ?_))
    all_goals refine ops_nil ?_
    all_goals (repeat (first | refine aw_seq ?_ | refine ath_n ?_ | refine aw_skip ?_ | refine abl_n ?_ | refine aw_block ?_))
    all_goals (first | refine aw_true rfl ?_ | refine aw_false rfl ?_)
    all_goals (repeat (first | refine aw_seq ?_ | refine ath_n ?_ | refine aw_skip ?_ | refine abl_n ?_ | refine aw_block ?_))
    · have hlt : k < p.a.length := by omega
      refine aw_region ?_
      refine ops_op rfl rfl (runs_none rfl) (mv_s (.inl rfl) rfl) ?_
      first | refine ops_op rfl rfl (runs_none rfl) (does_index_sl rfl ts23 ti22 rfl rfl rfl (ix_map (by omega)) rfl) ?_ | refine ops_op rfl rfl (runs_none rfl) (does_index_own rfl ts23 ti22 rfl rfl rfl (by omega)) ?_
      first | refine ops_op rfl rfl (runs_none rfl) (does_load_ref rfl ta22 rfl) ?_ | refine ops_op rfl rfl (runs_none rfl) (does_load_ptr rfl ta22 rfl rfl rfl rfl rfl) ?_
      refine ops_op rfl rfl (runs_none rfl) (mv_s (.inr rfl) rfl) ?_
      first | refine ops_op rfl rfl (runs_none rfl) (mv_own (.inr rfl) rfl) ?_ | refine ops_op rfl rfl (runs_none rfl) (mv_sl (.inr rfl) rfl) ?_ | refine ops_op rfl rfl (runs_none rfl) (mv_s (.inr rfl) rfl) ?_ | refine ops_op rfl rfl (runs_none rfl) (mv_emp (.inr rfl) rfl) ?_
      refine ops_nil ?_
      repeat (first | refine aw_seq ?_ | refine ath_n ?_ | refine aw_skip ?_ | refine abl_n ?_ | refine aw_block ?_)
      all_goals refine aw_region ?_
      all_goals (first | refine ops_op rfl rfl (runs_none rfl) (mv_own (.inl rfl) rfl) ?_ | refine ops_op rfl rfl (runs_none rfl) (mv_sl (.inl rfl) rfl) ?_ | refine ops_op rfl rfl (runs_none rfl) (mv_s (.inl rfl) rfl) ?_ | refine ops_op rfl rfl (runs_none rfl) (mv_emp (.inl rfl) rfl) ?_)
      all_goals refine ops_op rfl rfl (runs_none rfl) (mv_s (.inl rfl) rfl) ?_
      all_goals (first | refine ops_opP rfl rfl (runs_none rfl) (does_call rfl rfl (fine_pf _ _) (evc_cons rfl (evc_cons rfl evc_nil))) (fun h58 => ?_) (fun h58 => ?_) | refine ops_opB rfl rfl (runs_none rfl) (does_call rfl rfl (fine_pf _ _) (evc_cons rfl (evc_cons rfl evc_nil))) (fun h58 => ?_) (fun h58 => ?_))
      all_goals (first | refine ops_op rfl rfl (runs_none rfl) (does_notp rfl rfl) ?_ | refine ops_op rfl rfl (runs_none rfl) (does_not rfl rfl) ?_)
      all_goals refine ops_op rfl rfl (runs_none rfl) (mv_s (.inl rfl) rfl) ?_
      all_goals (first | refine ops_op rfl rfl (runs_y rfl rfl rfl) (does_fieldAddr_ptr rfl tf26_2 (by decide) rfl) ?_ | refine ops_op rfl rfl (runs_y rfl rfl rfl) (does_fieldAddr_ref rfl tf26_2 (by decide) rfl) ?_ | refine ops_skip rfl rfl (runs_nf rfl rfl rfl) ?_ | refine ops_skip rfl rfl (runs_nu rfl rfl rfl) ?_)
      all_goals (first | refine ops_op rfl rfl (runs_y rfl rfl rfl) (does_load_ref rfl ta24 rfl) ?_ | refine ops_op rfl rfl (runs_y rfl rfl rfl) (does_load_ptr rfl ta24 rfl rfl rfl rfl rfl) ?_ | refine ops_skip rfl rfl (runs_nf rfl rfl rfl) ?_ | refine ops_skip rfl rfl (runs_nu rfl rfl rfl) ?_)
      all_goals (first | refine ops_op rfl rfl (runs_y rfl rfl rfl) (mv_s (.inl rfl) rfl) ?_ | refine ops_skip rfl rfl (runs_nf rfl rfl rfl) ?_ | refine ops_skip rfl rfl (runs_nu rfl rfl rfl) ?_)
      all_goals (first | refine ops_op rfl rfl (runs_y rfl rfl rfl) (does_index_sl rfl ts24 ti3 rfl rfl rfl (ix_map (by omega)) rfl) ?_ | refine ops_op rfl rfl (runs_y rfl rfl rfl) (does_index_own rfl ts24 ti3 rfl rfl rfl (by omega)) ?_ | refine ops_skip rfl rfl (runs_nf rfl rfl rfl) ?_ | refine ops_skip rfl rfl (runs_nu rfl rfl rfl) ?_)
      all_goals (first | refine ops_op rfl rfl (runs_y rfl rfl rfl) (does_load_ref rfl ta3 rfl) ?_ | refine ops_op rfl rfl (runs_y rfl rfl rfl) (does_load_ptr rfl ta3 rfl rfl rfl rfl rfl) ?_ | refine ops_skip rfl rfl (runs_nf rfl rfl rfl) ?_ | refine ops_skip rfl rfl (runs_nu rfl rfl rfl) ?_)
      all_goals (first | refine ops_opP rfl rfl (runs_y rfl rfl rfl) (does_neq rfl rfl rfl) (fun h66 => ?_) (fun h66 => ?_) | refine ops_opB rfl rfl (runs_y rfl rfl rfl) (does_neq rfl rfl rfl) (fun h66 => ?_) (fun h66 => ?_) | refine ops_skip rfl rfl (runs_nf rfl rfl rfl) ?_ | refine ops_skip rfl rfl (runs_nu rfl rfl rfl) ?_)
      all_goals (first | refine ops_op rfl rfl (runs_y rfl rfl rfl) (mv_s (.inl rfl) rfl) ?_ | refine ops_skip rfl rfl (runs_nf rfl rfl rfl) ?_ | refine ops_skip rfl rfl (runs_nu rfl rfl rfl) ?_)
      all_goals (first | refine ops_op rfl rfl (runs_y rfl rfl rfl) (does_fieldAddr_ptr rfl tf26_2 (by decide) rfl) ?_ | refine ops_op rfl rfl (runs_y rfl rfl rfl) (does_fieldAddr_ref rfl tf26_2 (by decide) rfl) ?_ | refine ops_skip rfl rfl (runs_nt rfl rfl rfl) ?_ | refine ops_skip rfl rfl (runs_nu rfl rfl rfl) ?_)
      all_goals (first | refine ops_op rfl rfl (runs_y rfl rfl rfl) (does_load_ref rfl ta24 rfl) ?_ | refine ops_op rfl rfl (runs_y rfl rfl rfl) (does_load_ptr rfl ta24 rfl rfl rfl rfl rfl) ?_ | refine ops_skip rfl rfl (runs_nt rfl rfl rfl) ?_ | refine ops_skip rfl rfl (runs_nu rfl rfl rfl) ?_)
      all_goals (first | refine ops_op rfl rfl (runs_y rfl rfl rfl) (mv_s (.inl rfl) rfl) ?_ | refine ops_skip rfl rfl (runs_nt rfl rfl rfl) ?_ | refine ops_skip rfl rfl (runs_nu rfl rfl rfl) ?_)
      all_goals (first | refine ops_op rfl rfl (runs_y rfl rfl rfl) (does_index_sl rfl ts24 ti3 rfl rfl rfl (ix_map (by omega)) rfl) ?_ | refine ops_op rfl rfl (runs_y rfl rfl rfl) (does_index_own rfl ts24 ti3 rfl rfl rfl (by omega)) ?_ | refine ops_skip rfl rfl (runs_nt rfl rfl rfl) ?_ | refine ops_skip rfl rfl (runs_nu rfl rfl rfl) ?_)
      all_goals (first | refine ops_op rfl rfl (runs_y rfl rfl rfl) (does_load_ref rfl ta3 rfl) ?_ | refine ops_op rfl rfl (runs_y rfl rfl rfl) (does_load_ptr rfl ta3 rfl rfl rfl rfl rfl) ?_ | refine ops_skip rfl rfl (runs_nt rfl rfl rfl) ?_ | refine ops_skip rfl rfl (runs_nu rfl rfl rfl) ?_)
      all_goals (first | refine ops_opP rfl rfl (runs_y rfl rfl rfl) (does_neq rfl rfl rfl) (fun h73 => ?_) (fun h73 => ?_) | refine ops_opB rfl rfl (runs_y rfl rfl rfl) (does_neq rfl rfl rfl) (fun h73 => ?_) (fun h73 => ?_) | refine ops_skip rfl rfl (runs_nt rfl rfl rfl) ?_ | refine ops_skip rfl rfl (runs_nu rfl rfl rfl) ?_)
      all_goals (first | refine ops_op rfl rfl (runs_y rfl rfl rfl) (pickT_s rfl rfl rfl) ?_ | refine ops_op rfl rfl (runs_y rfl rfl rfl) (pickF_s rfl rfl rfl) ?_ | refine ops_op rfl rfl (runs_y rfl rfl rfl) (does_pickT rfl rfl rfl) ?_ | refine ops_op rfl rfl (runs_y rfl rfl rfl) (does_pickF rfl rfl rfl) ?_ | refine ops_skip rfl rfl (runs_nf rfl rfl rfl) ?_ | refine ops_skip rfl rfl (runs_nu rfl rfl rfl) ?_)
      all_goals (first | refine ops_op rfl rfl (runs_y rfl rfl rfl) (mv_s (.inl rfl) rfl) ?_ | refine ops_skip rfl rfl (runs_nf rfl rfl rfl) ?_ | refine ops_skip rfl rfl (runs_nu rfl rfl rfl) ?_)
      all_goals (first | refine ops_op rfl rfl (runs_y rfl rfl rfl) (does_fieldAddr_ptr rfl tf26_2 (by decide) rfl) ?_ | refine ops_op rfl rfl (runs_y rfl rfl rfl) (does_fieldAddr_ref rfl tf26_2 (by decide) rfl) ?_ | refine ops_skip rfl rfl (runs_nt rfl rfl rfl) ?_ | refine ops_skip rfl rfl (runs_nu rfl rfl rfl) ?_)
      all_goals (first | refine ops_op rfl rfl (runs_y rfl rfl rfl) (does_load_ref rfl ta24 rfl) ?_ | refine ops_op rfl rfl (runs_y rfl rfl rfl) (does_load_ptr rfl ta24 rfl rfl rfl rfl rfl) ?_ | refine ops_skip rfl rfl (runs_nt rfl rfl rfl) ?_ | refine ops_skip rfl rfl (runs_nu rfl rfl rfl) ?_)
      all_goals (first | refine ops_op rfl rfl (runs_y rfl rfl rfl) (mv_s (.inl rfl) rfl) ?_ | refine ops_skip rfl rfl (runs_nt rfl rfl rfl) ?_ | refine ops_skip rfl rfl (runs_nu rfl rfl rfl) ?_)
      all_goals (first | refine ops_op rfl rfl (runs_y rfl rfl rfl) (does_index_sl rfl ts24 ti3 rfl rfl rfl (ix_map (by omega)) rfl) ?_ | refine ops_op rfl rfl (runs_y rfl rfl rfl) (does_index_own rfl ts24 ti3 rfl rfl rfl (by omega)) ?_ | refine ops_skip rfl rfl (runs_nt rfl rfl rfl) ?_ | refine ops_skip rfl rfl (runs_nu rfl rfl rfl) ?_)
      all_goals (first | refine ops_op rfl rfl (runs_y rfl rfl rfl) (does_load_ref rfl ta3 rfl) ?_ | refine ops_op rfl rfl (runs_y rfl rfl rfl) (does_load_ptr rfl ta3 rfl rfl rfl rfl rfl) ?_ | refine ops_skip rfl rfl (runs_nt rfl rfl rfl) ?_ | refine ops_skip rfl rfl (runs_nu rfl rfl rfl) ?_)
      all_goals (first | refine ops_opP rfl rfl (runs_y rfl rfl rfl) (does_neq rfl rfl rfl) (fun h81 => ?_) (fun h81 => ?_) | refine ops_opB rfl rfl (runs_y rfl rfl rfl) (does_neq rfl rfl rfl) (fun h81 => ?_) (fun h81 => ?_) | refine ops_skip rfl rfl (runs_nt rfl rfl rfl) ?_ | refine ops_skip rfl rfl (runs_nu rfl rfl rfl) ?_)
      all_goals (first | refine ops_op rfl rfl (runs_y rfl rfl rfl) (pickT_s rfl rfl rfl) ?_ | refine ops_op rfl rfl (runs_y rfl rfl rfl) (pickF_s rfl rfl rfl) ?_ | refine ops_op rfl rfl (runs_y rfl rfl rfl) (does_pickT rfl rfl rfl) ?_ | refine ops_op rfl rfl (runs_y rfl rfl rfl) (does_pickF rfl rfl rfl) ?_ | refine ops_skip rfl rfl (runs_nf rfl rfl rfl) ?_ | refine ops_skip rfl rfl (runs_nu rfl rfl rfl) ?_)
      all_goals (first | refine ops_op rfl rfl (runs_none rfl) (pickT_s rfl rfl rfl) ?_ | refine ops_op rfl rfl (runs_none rfl) (pickF_s rfl rfl rfl) ?_ | refine ops_op rfl rfl (runs_none rfl) (does_pickT rfl rfl rfl) ?_ | refine ops_op rfl rfl (runs_none rfl) (does_pickF rfl rfl rfl) ?_)
      all_goals refine ops_nil ?_
      all_goals (repeat (first | refine aw_seq ?_ | refine ath_n ?_ | refine aw_skip ?_ | refine abl_n ?_ | refine aw_block ?_))
      all_goals (first | refine aw_true rfl ?_ | refine aw_false rfl ?_)
      all_goals (repeat (first | refine aw_seq ?_ | refine ath_n ?_ | refine aw_skip ?_ | refine abl_n ?_ | refine aw_block ?_))
      all_goals first
        | skip
          refine aw_region ?_
          refine ops_op rfl rfl (runs_none rfl) (mv_s (.inr rfl) rfl) ?_
          refine ops_nil ?_
          repeat (first | refine aw_seq ?_ | refine ath_n ?_ | refine aw_skip ?_ | refine abl_n ?_ | refine aw_block ?_)
          (refine aw_ret ?_; repeat (first | refine ath_r ?_ | refine abl_r ?_))
          exact post1 (.inr rfl) rfl (congrArg eB (validP_f hlt (by simp_all [rowB, relB])).symm)
        | skip
          refine aw_region ?_
          refine ops_op rfl rfl (runs_none rfl) (does_add rfl rfl rfl (IntWalk.i64_in _ (by omega))) ?_
          refine ops_op rfl rfl (runs_none rfl) (mv_s (.inl rfl) rfl) ?_
          refine ops_nil ?_
          repeat (first | refine aw_seq ?_ | refine ath_n ?_ | refine aw_skip ?_ | refine abl_n ?_ | refine aw_block ?_)
          have hrow : rowB p k = true := by unfold rowB relB; rw [h58, Bool.true_and, decide_eq_true_eq]; omega
          refine ⟨k + 1, ⟨by omega, fun j hj => ?_⟩, by omega, wk_sub _ ⟨rfl, rfl, rfl, rfl, rfl, rfl, trivial⟩⟩
          by_cases e : j = k
          · subst e; exact hrow
          · exact hk.2 j (by omega)
    · (refine aw_exit ?_; repeat (first | refine ath_x ?_ | refine abl_hit ?_ | refine abl_miss rfl ?_ | refine abl_n ?_ | refine ath_n ?_ | refine aw_seq ?_ | refine aw_skip ?_ | refine aw_block ?_))
      refine aw_region ?_
      refine ops_op rfl rfl (runs_none rfl) (mv_s (.inr rfl) rfl) ?_
      refine ops_nil ?_
      repeat (first | refine aw_seq ?_ | refine ath_n ?_ | refine aw_skip ?_ | refine abl_n ?_ | refine aw_block ?_)
      (refine aw_ret ?_; repeat (first | refine ath_r ?_ | refine abl_r ?_))
      exact post1 (.inr rfl) rfl (congrArg eB (validP_t hh (fun j hj => hk.2 j (by omega))).symm)
  all_goals (refine aw_region ?_)
  all_goals (refine ops_op rfl rfl (runs_none rfl) (mv_s (.inr rfl) rfl) ?_)
  all_goals (refine ops_nil ?_)
  all_goals (repeat (first | refine aw_seq ?_ | refine ath_n ?_ | refine aw_skip ?_ | refine abl_n ?_ | refine aw_block ?_))
  all_goals (refine aw_ret ?_; repeat (first | refine ath_r ?_ | refine abl_r ?_))
  all_goals refine post1 (.inr rfl) rfl (congrArg eB (validP_h (headB_f ?_)).symm)
  all_goals rintro ⟨q1, q2, q3, q4, q5, q6, q7, q8⟩
  all_goals first | omega | exact fineB_f h38 ⟨rfl, q6⟩ | exact fineB_f h45 ⟨by omega, q8⟩
set_option maxHeartbeats 1000000 in
theorem qValid_pf (p : LP) : Pure P 16 [eP p] (eB (validP p)) := by
  refine aw_fn (by rw [IsP.eq (P := P)]; exact Try.func16) rfl rfl rfl rfl rfl (by repeat' (first | exact Lo.s _ | exact Lo.emp | exact Lo.any | exact lo_nil | exact lo_nilE | refine lo_cons ?_ ?_ | refine lo_consE ?_ ?_ | refine lo_map ?_ | refine lo_mapE ?_ | refine Lo.cells ?_ | refine Lo.agg _ ?_ | refine Lo.ref _ ?_ | refine Lo.tup _ ?_ | refine Lo.fn _ _ ?_ | refine Lo.sl _ ?_ | intro _)) (by repeat' (first | exact Lo.s _ | exact Lo.emp | exact Lo.any | exact lo_nil | exact lo_nilE | refine lo_cons ?_ ?_ | refine lo_consE ?_ ?_ | refine lo_map ?_ | refine lo_mapE ?_ | refine Lo.cells ?_ | refine Lo.agg _ ?_ | refine Lo.ref _ ?_ | refine Lo.tup _ ?_ | refine Lo.fn _ _ ?_ | refine Lo.sl _ ?_ | intro _)) (by simp only [argF]; rfl) ?_
  repeat (first | refine aw_seq ?_ | refine ath_n ?_ | refine aw_skip ?_ | refine abl_n ?_ | refine aw_block ?_)
  refine aw_region ?_
  refine ops_op rfl rfl (runs_none rfl) (does_box rfl rfl rfl rfl) ?_
  refine aops_weak (wk_froz (id := 0) rfl) (aops_weak (wk_ref (d := 1) rfl rfl rfl) ?_)
  refine ops_op rfl rfl (runs_none rfl) (mv_s (.inr rfl) rfl) ?_
  refine ops_nil ?_
  repeat (first | refine aw_seq ?_ | refine ath_n ?_ | refine aw_skip ?_ | refine abl_n ?_ | refine aw_block ?_)
  refine aw_draw hmix ?_
  refine adraw_quiet (by kernel_rfl) ?_
  first | refine qx_op rfl rfl (runs_none rfl) (does_fieldAddr_ptr rfl tf26_0 (by decide) rfl) ?_ | refine qx_op rfl rfl (runs_none rfl) (does_fieldAddr_ref rfl tf26_0 (by decide) rfl) ?_
  first | refine qx_op rfl rfl (runs_none rfl) (does_load_ref rfl ta22 rfl) ?_ | refine qx_op rfl rfl (runs_none rfl) (does_load_ptr rfl ta22 rfl rfl rfl rfl rfl) ?_
  first | refine qx_op rfl rfl (runs_none rfl) (does_len_map rfl ts22 rfl) ?_ | refine qx_op rfl rfl (runs_none rfl) (does_len_sl rfl ts22 rfl) ?_ | refine qx_op rfl rfl (runs_none rfl) (does_len_own rfl ts22 rfl) ?_ | refine qx_op rfl rfl (runs_none rfl) (does_len_s rfl ts22 rfl) ?_ | refine qx_op rfl rfl (runs_none rfl) (does_len_emp rfl ts22 rfl) ?_
  first | refine qx_op rfl rfl (runs_none rfl) (does_fieldAddr_ptr rfl tf26_1 (by decide) rfl) ?_ | refine qx_op rfl rfl (runs_none rfl) (does_fieldAddr_ref rfl tf26_1 (by decide) rfl) ?_
  first | refine qx_op rfl rfl (runs_none rfl) (does_load_ref rfl ta23 rfl) ?_ | refine qx_op rfl rfl (runs_none rfl) (does_load_ptr rfl ta23 rfl rfl rfl rfl rfl) ?_
  first | refine qx_op rfl rfl (runs_none rfl) (does_len_map rfl ts23 rfl) ?_ | refine qx_op rfl rfl (runs_none rfl) (does_len_sl rfl ts23 rfl) ?_ | refine qx_op rfl rfl (runs_none rfl) (does_len_own rfl ts23 rfl) ?_ | refine qx_op rfl rfl (runs_none rfl) (does_len_s rfl ts23 rfl) ?_ | refine qx_op rfl rfl (runs_none rfl) (does_len_emp rfl ts23 rfl) ?_
  refine qx_op rfl rfl (runs_none rfl) (mv_s (.inr rfl) rfl) ?_
  refine qx_op rfl rfl (runs_none rfl) (mv_s (.inr rfl) rfl) ?_
  refine qx_nil ?_
  repeat (first | refine aw_seq ?_ | refine ath_n ?_ | refine aw_skip ?_ | refine abl_n ?_ | refine aw_block ?_)
  all_goals refine aw_region ?_
  all_goals refine ops_op rfl rfl (runs_none rfl) (mv_s (.inl rfl) rfl) ?_
  all_goals (first | refine ops_opP rfl rfl (runs_none rfl) (does_lss rfl rfl rfl) (fun h13 => ?_) (fun h13 => ?_) | refine ops_opB rfl rfl (runs_none rfl) (does_lss rfl rfl rfl) (fun h13 => ?_) (fun h13 => ?_))
  all_goals refine ops_op rfl rfl (runs_none rfl) (mv_s (.inl rfl) rfl) ?_
  all_goals (first | refine ops_op rfl rfl (runs_y rfl rfl rfl) (mv_s (.inl rfl) rfl) ?_ | refine ops_skip rfl rfl (runs_nf rfl rfl rfl) ?_ | refine ops_skip rfl rfl (runs_nu rfl rfl rfl) ?_)
  all_goals (first | refine ops_opP rfl rfl (runs_y rfl rfl rfl) (does_gtr rfl rfl rfl) (fun h16 => ?_) (fun h16 => ?_) | refine ops_opB rfl rfl (runs_y rfl rfl rfl) (does_gtr rfl rfl rfl) (fun h16 => ?_) (fun h16 => ?_) | refine ops_skip rfl rfl (runs_nf rfl rfl rfl) ?_ | refine ops_skip rfl rfl (runs_nu rfl rfl rfl) ?_)
  all_goals (first | refine ops_op rfl rfl (runs_none rfl) (pickT_s rfl rfl rfl) ?_ | refine ops_op rfl rfl (runs_none rfl) (pickF_s rfl rfl rfl) ?_ | refine ops_op rfl rfl (runs_none rfl) (does_pickT rfl rfl rfl) ?_ | refine ops_op rfl rfl (runs_none rfl) (does_pickF rfl rfl rfl) ?_)
  all_goals refine ops_op rfl rfl (runs_none rfl) (mv_s (.inl rfl) rfl) ?_
  all_goals (first | refine ops_op rfl rfl (runs_y rfl rfl rfl) (mv_s (.inl rfl) rfl) ?_ | refine ops_skip rfl rfl (runs_nf rfl rfl rfl) ?_ | refine ops_skip rfl rfl (runs_nu rfl rfl rfl) ?_)
  all_goals (first | refine ops_opP rfl rfl (runs_y rfl rfl rfl) (does_lss rfl rfl rfl) (fun h20 => ?_) (fun h20 => ?_) | refine ops_opB rfl rfl (runs_y rfl rfl rfl) (does_lss rfl rfl rfl) (fun h20 => ?_) (fun h20 => ?_) | refine ops_skip rfl rfl (runs_nf rfl rfl rfl) ?_ | refine ops_skip rfl rfl (runs_nu rfl rfl rfl) ?_)
  all_goals (first | refine ops_op rfl rfl (runs_none rfl) (pickT_s rfl rfl rfl) ?_ | refine ops_op rfl rfl (runs_none rfl) (pickF_s rfl rfl rfl) ?_ | refine ops_op rfl rfl (runs_none rfl) (does_pickT rfl rfl rfl) ?_ | refine ops_op rfl rfl (runs_none rfl) (does_pickF rfl rfl rfl) ?_)
  all_goals refine ops_op rfl rfl (runs_none rfl) (mv_s (.inl rfl) rfl) ?_
  all_goals (first | refine ops_op rfl rfl (runs_y rfl rfl rfl) (mv_s (.inl rfl) rfl) ?_ | refine ops_skip rfl rfl (runs_nf rfl rfl rfl) ?_ | refine ops_skip rfl rfl (runs_nu rfl rfl rfl) ?_)
  all_goals (first | refine ops_opP rfl rfl (runs_y rfl rfl rfl) (does_gtr rfl rfl rfl) (fun h24 => ?_) (fun h24 => ?_) | refine ops_opB rfl rfl (runs_y rfl rfl rfl) (does_gtr rfl rfl rfl) (fun h24 => ?_) (fun h24 => ?_) | refine ops_skip rfl rfl (runs_nf rfl rfl rfl) ?_ | refine ops_skip rfl rfl (runs_nu rfl rfl rfl) ?_)
  all_goals (first | refine ops_op rfl rfl (runs_none rfl) (pickT_s rfl rfl rfl) ?_ | refine ops_op rfl rfl (runs_none rfl) (pickF_s rfl rfl rfl) ?_ | refine ops_op rfl rfl (runs_none rfl) (does_pickT rfl rfl rfl) ?_ | refine ops_op rfl rfl (runs_none rfl) (does_pickF rfl rfl rfl) ?_)
  all_goals refine ops_op rfl rfl (runs_none rfl) (mv_s (.inl rfl) rfl) ?_
  all_goals (first | refine ops_op rfl rfl (runs_y rfl rfl rfl) (does_fieldAddr_ptr rfl tf26_2 (by decide) rfl) ?_ | refine ops_op rfl rfl (runs_y rfl rfl rfl) (does_fieldAddr_ref rfl tf26_2 (by decide) rfl) ?_ | refine ops_skip rfl rfl (runs_nf rfl rfl rfl) ?_ | refine ops_skip rfl rfl (runs_nu rfl rfl rfl) ?_)
  all_goals (first | refine ops_op rfl rfl (runs_y rfl rfl rfl) (does_load_ref rfl ta24 rfl) ?_ | refine ops_op rfl rfl (runs_y rfl rfl rfl) (does_load_ptr rfl ta24 rfl rfl rfl rfl rfl) ?_ | refine ops_skip rfl rfl (runs_nf rfl rfl rfl) ?_ | refine ops_skip rfl rfl (runs_nu rfl rfl rfl) ?_)
  all_goals (first | refine ops_op rfl rfl (runs_y rfl rfl rfl) (does_len_map rfl ts24 rfl) ?_ | refine ops_op rfl rfl (runs_y rfl rfl rfl) (does_len_sl rfl ts24 rfl) ?_ | refine ops_op rfl rfl (runs_y rfl rfl rfl) (does_len_own rfl ts24 rfl) ?_ | refine ops_op rfl rfl (runs_y rfl rfl rfl) (does_len_s rfl ts24 rfl) ?_ | refine ops_op rfl rfl (runs_y rfl rfl rfl) (does_len_emp rfl ts24 rfl) ?_ | refine ops_skip rfl rfl (runs_nf rfl rfl rfl) ?_ | refine ops_skip rfl rfl (runs_nu rfl rfl rfl) ?_)
  all_goals (first | refine ops_op rfl rfl (runs_y rfl rfl rfl) (mv_s (.inl rfl) rfl) ?_ | refine ops_skip rfl rfl (runs_nf rfl rfl rfl) ?_ | refine ops_skip rfl rfl (runs_nu rfl rfl rfl) ?_)
  all_goals (first | refine ops_opP rfl rfl (runs_y rfl rfl rfl) (does_neq rfl rfl rfl) (fun h31 => ?_) (fun h31 => ?_) | refine ops_opB rfl rfl (runs_y rfl rfl rfl) (does_neq rfl rfl rfl) (fun h31 => ?_) (fun h31 => ?_) | refine ops_skip rfl rfl (runs_nf rfl rfl rfl) ?_ | refine ops_skip rfl rfl (runs_nu rfl rfl rfl) ?_)
  all_goals (first | refine ops_op rfl rfl (runs_none rfl) (pickT_s rfl rfl rfl) ?_ | refine ops_op rfl rfl (runs_none rfl) (pickF_s rfl rfl rfl) ?_ | refine ops_op rfl rfl (runs_none rfl) (does_pickT rfl rfl rfl) ?_ | refine ops_op rfl rfl (runs_none rfl) (does_pickF rfl rfl rfl) ?_)
  all_goals refine ops_op rfl rfl (runs_none rfl) (mv_s (.inl rfl) rfl) ?_
  all_goals (first | refine ops_op rfl rfl (runs_y rfl rfl rfl) (does_fieldAddr_ptr rfl tf26_3 (by decide) rfl) ?_ | refine ops_op rfl rfl (runs_y rfl rfl rfl) (does_fieldAddr_ref rfl tf26_3 (by decide) rfl) ?_ | refine ops_skip rfl rfl (runs_nf rfl rfl rfl) ?_ | refine ops_skip rfl rfl (runs_nu rfl rfl rfl) ?_)
  all_goals (first | refine ops_op rfl rfl (runs_y rfl rfl rfl) (does_load_ref rfl ta22 rfl) ?_ | refine ops_op rfl rfl (runs_y rfl rfl rfl) (does_load_ptr rfl ta22 rfl rfl rfl rfl rfl) ?_ | refine ops_skip rfl rfl (runs_nf rfl rfl rfl) ?_ | refine ops_skip rfl rfl (runs_nu rfl rfl rfl) ?_)
  all_goals (first | refine ops_op rfl rfl (runs_y rfl rfl rfl) (does_len_map rfl ts22 rfl) ?_ | refine ops_op rfl rfl (runs_y rfl rfl rfl) (does_len_sl rfl ts22 rfl) ?_ | refine ops_op rfl rfl (runs_y rfl rfl rfl) (does_len_own rfl ts22 rfl) ?_ | refine ops_op rfl rfl (runs_y rfl rfl rfl) (does_len_s rfl ts22 rfl) ?_ | refine ops_op rfl rfl (runs_y rfl rfl rfl) (does_len_emp rfl ts22 rfl) ?_ | refine ops_skip rfl rfl (runs_nf rfl rfl rfl) ?_ | refine ops_skip rfl rfl (runs_nu rfl rfl rfl) ?_)
  all_goals (first | refine ops_op rfl rfl (runs_y rfl rfl rfl) (mv_s (.inl rfl) rfl) ?_ | refine ops_skip rfl rfl (runs_nf rfl rfl rfl) ?_ | refine ops_skip rfl rfl (runs_nu rfl rfl rfl) ?_)
  all_goals (first | refine ops_opP rfl rfl (runs_y rfl rfl rfl) (does_neq rfl rfl rfl) (fun h38 => ?_) (fun h38 => ?_) | refine ops_opB rfl rfl (runs_y rfl rfl rfl) (does_neq rfl rfl rfl) (fun h38 => ?_) (fun h38 => ?_) | refine ops_skip rfl rfl (runs_nf rfl rfl rfl) ?_ | refine ops_skip rfl rfl (runs_nu rfl rfl rfl) ?_)
  all_goals (first | refine ops_op rfl rfl (runs_none rfl) (pickT_s rfl rfl rfl) ?_ | refine ops_op rfl rfl (runs_none rfl) (pickF_s rfl rfl rfl) ?_ | refine ops_op rfl rfl (runs_none rfl) (does_pickT rfl rfl rfl) ?_ | refine ops_op rfl rfl (runs_none rfl) (does_pickF rfl rfl rfl) ?_)
  all_goals refine ops_op rfl rfl (runs_none rfl) (mv_s (.inl rfl) rfl) ?_
  all_goals (first | refine ops_op rfl rfl (runs_y rfl rfl rfl) (does_fieldAddr_ptr rfl tf26_0 (by decide) rfl) ?_ | refine ops_op rfl rfl (runs_y rfl rfl rfl) (does_fieldAddr_ref rfl tf26_0 (by decide) rfl) ?_ | refine ops_skip rfl rfl (runs_nf rfl rfl rfl) ?_ | refine ops_skip rfl rfl (runs_nu rfl rfl rfl) ?_)
  all_goals (first | refine ops_op rfl rfl (runs_y rfl rfl rfl) (does_load_ref rfl ta22 rfl) ?_ | refine ops_op rfl rfl (runs_y rfl rfl rfl) (does_load_ptr rfl ta22 rfl rfl rfl rfl rfl) ?_ | refine ops_skip rfl rfl (runs_nf rfl rfl rfl) ?_ | refine ops_skip rfl rfl (runs_nu rfl rfl rfl) ?_)
  all_goals (first | refine ops_opP rfl rfl (runs_y rfl rfl rfl) (does_call rfl rfl (rValidAll_pf _) (evc_cons rfl evc_nil)) (fun h43 => ?_) (fun h43 => ?_) | refine ops_opB rfl rfl (runs_y rfl rfl rfl) (does_call rfl rfl (rValidAll_pf _) (evc_cons rfl evc_nil)) (fun h43 => ?_) (fun h43 => ?_) | refine ops_skip rfl rfl (runs_nf rfl rfl rfl) ?_ | refine ops_skip rfl rfl (runs_nu rfl rfl rfl) ?_)
  all_goals (first | refine ops_op rfl rfl (runs_y rfl rfl rfl) (does_notp rfl rfl) ?_ | refine ops_op rfl rfl (runs_y rfl rfl rfl) (does_not rfl rfl) ?_ | refine ops_skip rfl rfl (runs_nf rfl rfl rfl) ?_ | refine ops_skip rfl rfl (runs_nu rfl rfl rfl) ?_)
  all_goals (first | refine ops_op rfl rfl (runs_none rfl) (pickT_s rfl rfl rfl) ?_ | refine ops_op rfl rfl (runs_none rfl) (pickF_s rfl rfl rfl) ?_ | refine ops_op rfl rfl (runs_none rfl) (does_pickT rfl rfl rfl) ?_ | refine ops_op rfl rfl (runs_none rfl) (does_pickF rfl rfl rfl) ?_)
  all_goals refine ops_op rfl rfl (runs_none rfl) (mv_s (.inl rfl) rfl) ?_
  all_goals (first | refine ops_op rfl rfl (runs_y rfl rfl rfl) (does_fieldAddr_ptr rfl tf26_3 (by decide) rfl) ?_ | refine ops_op rfl rfl (runs_y rfl rfl rfl) (does_fieldAddr_ref rfl tf26_3 (by decide) rfl) ?_ | refine ops_skip rfl rfl (runs_nf rfl rfl rfl) ?_ | refine ops_skip rfl rfl (runs_nu rfl rfl rfl) ?_)
  all_goals (first | refine ops_op rfl rfl (runs_y rfl rfl rfl) (does_load_ref rfl ta22 rfl) ?_ | refine ops_op rfl rfl (runs_y rfl rfl rfl) (does_load_ptr rfl ta22 rfl rfl rfl rfl rfl) ?_ | refine ops_skip rfl rfl (runs_nf rfl rfl rfl) ?_ | refine ops_skip rfl rfl (runs_nu rfl rfl rfl) ?_)
  all_goals (first | refine ops_opP rfl rfl (runs_y rfl rfl rfl) (does_call rfl rfl (rValidAll_pf _) (evc_cons rfl evc_nil)) (fun h49 => ?_) (fun h49 => ?_) | refine ops_opB rfl rfl (runs_y rfl rfl rfl) (does_call rfl rfl (rValidAll_pf _) (evc_cons rfl evc_nil)) (fun h49 => ?_) (fun h49 => ?_) | refine ops_skip rfl rfl (runs_nf rfl rfl rfl) ?_ | refine ops_skip rfl rfl (runs_nu rfl rfl rfl) ?_)
  all_goals (first | refine ops_op rfl rfl (runs_y rfl rfl rfl) (does_notp rfl rfl) ?_ | refine ops_op rfl rfl (runs_y rfl rfl rfl) (does_not rfl rfl) ?_ | refine ops_skip rfl rfl (runs_nf rfl rfl rfl) ?_ | refine ops_skip rfl rfl (runs_nu rfl rfl rfl) ?_)
  all_goals (first | refine ops_op rfl rfl (runs_none rfl) (pickT_s rfl rfl rfl) ?_ | refine ops_op rfl rfl (runs_none rfl) (pickF_s rfl rfl rfl) ?_ | refine ops_op rfl rfl (runs_none rfl) (does_pickT rfl rfl rfl) ?_ | refine ops_op rfl rfl (runs_none rfl) (does_pickF rfl rfl rfl) ?_)
  all_goals refine ops_nil ?_
  all_goals (repeat (first | refine aw_seq ?_ | refine ath_n ?_ | refine aw_skip ?_ | refine abl_n ?_ | refine aw_block ?_))
  all_goals (first | refine aw_true rfl ?_ | refine aw_false rfl ?_)
  all_goals (repeat (first | refine aw_seq ?_ | refine ath_n ?_ | refine aw_skip ?_ | refine abl_n ?_ | refine aw_block ?_))
  rotate_left 6
  · have hh : headB p = true := headB_iff.2 ⟨by omega, by omega, by omega, by omega, by omega, h43, by omega, h49⟩
    obtain ⟨q1, q2, q3, q4, q5, q6, q7, q8⟩ := headB_iff.1 hh
    refine aw_region ?_
    refine ops_op rfl rfl (runs_none rfl) (mv_s (.inr rfl) rfl) ?_
    refine ops_nil ?_
    repeat (first | refine aw_seq ?_ | refine ath_n ?_ | refine aw_skip ?_ | refine abl_n ?_ | refine aw_block ?_)
    refine aw_loops (S := Nat) (fun k => [(1, .ref (eP p).cells), (3, eI p.c.length), (4, eI p.a.length), (5, eI k)]) (fun _ => []) (fun k => k ≤ p.a.length ∧ ∀ j, j < k → rowB p j = true) (fun k => p.a.length - k) 0 (wk_st [] (by decide) trivial ⟨.lo _ (by repeat' (first | exact Lo.s _ | exact Lo.emp | exact Lo.any | exact lo_nil | exact lo_nilE | refine lo_cons ?_ ?_ | refine lo_consE ?_ ?_ | refine lo_map ?_ | refine lo_mapE ?_ | refine Lo.cells ?_ | refine Lo.agg _ ?_ | refine Lo.ref _ ?_ | refine Lo.tup _ ?_ | refine Lo.fn _ _ ?_ | refine Lo.sl _ ?_ | intro _)), .lo _ (by repeat' (first | exact Lo.s _ | exact Lo.emp | exact Lo.any | exact lo_nil | exact lo_nilE | refine lo_cons ?_ ?_ | refine lo_consE ?_ ?_ | refine lo_map ?_ | refine lo_mapE ?_ | refine Lo.cells ?_ | refine Lo.agg _ ?_ | refine Lo.ref _ ?_ | refine Lo.tup _ ?_ | refine Lo.fn _ _ ?_ | refine Lo.sl _ ?_ | intro _)), .lo _ (by repeat' (first | exact Lo.s _ | exact Lo.emp | exact Lo.any | exact lo_nil | exact lo_nilE | refine lo_cons ?_ ?_ | refine lo_consE ?_ ?_ | refine lo_map ?_ | refine lo_mapE ?_ | refine Lo.cells ?_ | refine Lo.agg _ ?_ | refine Lo.ref _ ?_ | refine Lo.tup _ ?_ | refine Lo.fn _ _ ?_ | refine Lo.sl _ ?_ | intro _)), .lo _ (by repeat' (first | exact Lo.s _ | exact Lo.emp | exact Lo.any | exact lo_nil | exact lo_nilE | refine lo_cons ?_ ?_ | refine lo_consE ?_ ?_ | refine lo_map ?_ | refine lo_mapE ?_ | refine Lo.cells ?_ | refine Lo.agg _ ?_ | refine Lo.ref _ ?_ | refine Lo.tup _ ?_ | refine Lo.fn _ _ ?_ | refine Lo.sl _ ?_ | intro _)), trivial⟩) ⟨by omega, fun j hj => by omega⟩ (fun k hk => ?_)
    repeat (first | refine aw_seq ?_ | refine ath_n ?_ | refine aw_skip ?_ | refine abl_n ?_ | refine aw_block ?_)
    all_goals refine aw_region ?_
    all_goals refine ops_op rfl rfl (runs_none rfl) (mv_s (.inl rfl) rfl) ?_
    all_goals refine ops_op rfl rfl (runs_none rfl) (mv_s (.inl rfl) rfl) ?_
    all_goals (first | refine ops_opP rfl rfl (runs_none rfl) (does_lss rfl rfl rfl) (fun h54 => ?_) (fun h54 => ?_) | refine ops_opB rfl rfl (runs_none rfl) (does_lss rfl rfl rfl) (fun h54 => ?_) (fun h54 => ?_))
    all_goals refine ops_nil ?_
    all_goals (repeat (first | refine aw_seq ?_ | refine ath_n ?_ | refine aw_skip ?_ | refine abl_n ?_ | refine aw_block ?_))
    all_goals (first | refine aw_true rfl ?_ | refine aw_false rfl ?_)
    all_goals (repeat (first | refine aw_seq ?_ | refine ath_n ?_ | refine aw_skip ?_ | refine abl_n ?_ | refine aw_block ?_))
    · have hlt : k < p.a.length := by omega
      all_goals refine aw_region ?_
      all_goals (first | refine ops_op rfl rfl (runs_none rfl) (does_fieldAddr_ptr rfl tf26_1 (by decide) rfl) ?_ | refine ops_op rfl rfl (runs_none rfl) (does_fieldAddr_ref rfl tf26_1 (by decide) rfl) ?_)
      all_goals (first | refine ops_op rfl rfl (runs_none rfl) (does_load_ref rfl ta23 rfl) ?_ | refine ops_op rfl rfl (runs_none rfl) (does_load_ptr rfl ta23 rfl rfl rfl rfl rfl) ?_)
      all_goals refine ops_op rfl rfl (runs_none rfl) (mv_s (.inl rfl) rfl) ?_
      all_goals (first | refine ops_op rfl rfl (runs_none rfl) (does_index_sl rfl ts23 ti22 rfl rfl rfl (ix_map (by omega)) rfl) ?_ | refine ops_op rfl rfl (runs_none rfl) (does_index_own rfl ts23 ti22 rfl rfl rfl (by omega)) ?_)
      all_goals (first | refine ops_op rfl rfl (runs_none rfl) (does_load_ref rfl ta22 rfl) ?_ | refine ops_op rfl rfl (runs_none rfl) (does_load_ptr rfl ta22 rfl rfl rfl rfl rfl) ?_)
      all_goals (first | refine ops_op rfl rfl (runs_none rfl) (does_len_map rfl ts22 rfl) ?_ | refine ops_op rfl rfl (runs_none rfl) (does_len_sl rfl ts22 rfl) ?_ | refine ops_op rfl rfl (runs_none rfl) (does_len_own rfl ts22 rfl) ?_ | refine ops_op rfl rfl (runs_none rfl) (does_len_s rfl ts22 rfl) ?_ | refine ops_op rfl rfl (runs_none rfl) (does_len_emp rfl ts22 rfl) ?_)
      all_goals refine ops_op rfl rfl (runs_none rfl) (mv_s (.inl rfl) rfl) ?_
      all_goals (first | refine ops_opP rfl rfl (runs_none rfl) (does_neq rfl rfl rfl) (fun h64 => ?_) (fun h64 => ?_) | refine ops_opB rfl rfl (runs_none rfl) (does_neq rfl rfl rfl) (fun h64 => ?_) (fun h64 => ?_))
      all_goals refine ops_op rfl rfl (runs_none rfl) (mv_s (.inl rfl) rfl) ?_
      all_goals (first | refine ops_op rfl rfl (runs_y rfl rfl rfl) (does_fieldAddr_ptr rfl tf26_1 (by decide) rfl) ?_ | refine ops_op rfl rfl (runs_y rfl rfl rfl) (does_fieldAddr_ref rfl tf26_1 (by decide) rfl) ?_ | refine ops_skip rfl rfl (runs_nf rfl rfl rfl) ?_ | refine ops_skip rfl rfl (runs_nu rfl rfl rfl) ?_)
      all_goals (first | refine ops_op rfl rfl (runs_y rfl rfl rfl) (does_load_ref rfl ta23 rfl) ?_ | refine ops_op rfl rfl (runs_y rfl rfl rfl) (does_load_ptr rfl ta23 rfl rfl rfl rfl rfl) ?_ | refine ops_skip rfl rfl (runs_nf rfl rfl rfl) ?_ | refine ops_skip rfl rfl (runs_nu rfl rfl rfl) ?_)
      all_goals (first | refine ops_op rfl rfl (runs_y rfl rfl rfl) (mv_s (.inl rfl) rfl) ?_ | refine ops_skip rfl rfl (runs_nf rfl rfl rfl) ?_ | refine ops_skip rfl rfl (runs_nu rfl rfl rfl) ?_)
      all_goals (first | refine ops_op rfl rfl (runs_y rfl rfl rfl) (does_index_sl rfl ts23 ti22 rfl rfl rfl (ix_map (by omega)) rfl) ?_ | refine ops_op rfl rfl (runs_y rfl rfl rfl) (does_index_own rfl ts23 ti22 rfl rfl rfl (by omega)) ?_ | refine ops_skip rfl rfl (runs_nf rfl rfl rfl) ?_ | refine ops_skip rfl rfl (runs_nu rfl rfl rfl) ?_)
      all_goals (first | refine ops_op rfl rfl (runs_y rfl rfl rfl) (does_load_ref rfl ta22 rfl) ?_ | refine ops_op rfl rfl (runs_y rfl rfl rfl) (does_load_ptr rfl ta22 rfl rfl rfl rfl rfl) ?_ | refine ops_skip rfl rfl (runs_nf rfl rfl rfl) ?_ | refine ops_skip rfl rfl (runs_nu rfl rfl rfl) ?_)
      all_goals (first | refine ops_opP rfl rfl (runs_y rfl rfl rfl) (does_call rfl rfl (rValidAll_pf _) (evc_cons rfl evc_nil)) (fun h71 => ?_) (fun h71 => ?_) | refine ops_opB rfl rfl (runs_y rfl rfl rfl) (does_call rfl rfl (rValidAll_pf _) (evc_cons rfl evc_nil)) (fun h71 => ?_) (fun h71 => ?_) | refine ops_skip rfl rfl (runs_nf rfl rfl rfl) ?_ | refine ops_skip rfl rfl (runs_nu rfl rfl rfl) ?_)
      all_goals (first | refine ops_op rfl rfl (runs_y rfl rfl rfl) (does_notp rfl rfl) ?_ | refine ops_op rfl rfl (runs_y rfl rfl rfl) (does_not rfl rfl) ?_ | refine ops_skip rfl rfl (runs_nf rfl rfl rfl) ?_ | refine ops_skip rfl rfl (runs_nu rfl rfl rfl) ?_)
      all_goals (first | refine ops_op rfl rfl (runs_none rfl) (pickT_s rfl rfl rfl) ?_ | refine ops_op rfl rfl (runs_none rfl) (pickF_s rfl rfl rfl) ?_ | refine ops_op rfl rfl (runs_none rfl) (does_pickT rfl rfl rfl) ?_ | refine ops_op rfl rfl (runs_none rfl) (does_pickF rfl rfl rfl) ?_)
      all_goals refine ops_op rfl rfl (runs_none rfl) (mv_s (.inl rfl) rfl) ?_
      all_goals (first | refine ops_op rfl rfl (runs_y rfl rfl rfl) (does_fieldAddr_ptr rfl tf26_2 (by decide) rfl) ?_ | refine ops_op rfl rfl (runs_y rfl rfl rfl) (does_fieldAddr_ref rfl tf26_2 (by decide) rfl) ?_ | refine ops_skip rfl rfl (runs_nf rfl rfl rfl) ?_ | refine ops_skip rfl rfl (runs_nu rfl rfl rfl) ?_)
      all_goals (first | refine ops_op rfl rfl (runs_y rfl rfl rfl) (does_load_ref rfl ta24 rfl) ?_ | refine ops_op rfl rfl (runs_y rfl rfl rfl) (does_load_ptr rfl ta24 rfl rfl rfl rfl rfl) ?_ | refine ops_skip rfl rfl (runs_nf rfl rfl rfl) ?_ | refine ops_skip rfl rfl (runs_nu rfl rfl rfl) ?_)
      all_goals (first | refine ops_op rfl rfl (runs_y rfl rfl rfl) (mv_s (.inl rfl) rfl) ?_ | refine ops_skip rfl rfl (runs_nf rfl rfl rfl) ?_ | refine ops_skip rfl rfl (runs_nu rfl rfl rfl) ?_)
      all_goals (first | refine ops_op rfl rfl (runs_y rfl rfl rfl) (does_index_sl rfl ts24 ti3 rfl rfl rfl (ix_map (by omega)) rfl) ?_ | refine ops_op rfl rfl (runs_y rfl rfl rfl) (does_index_own rfl ts24 ti3 rfl rfl rfl (by omega)) ?_ | refine ops_skip rfl rfl (runs_nf rfl rfl rfl) ?_ | refine ops_skip rfl rfl (runs_nu rfl rfl rfl) ?_)
      all_goals (first | refine ops_op rfl rfl (runs_y rfl rfl rfl) (does_load_ref rfl ta3 rfl) ?_ | refine ops_op rfl rfl (runs_y rfl rfl rfl) (does_load_ptr rfl ta3 rfl rfl rfl rfl rfl) ?_ | refine ops_skip rfl rfl (runs_nf rfl rfl rfl) ?_ | refine ops_skip rfl rfl (runs_nu rfl rfl rfl) ?_)
      all_goals (first | refine ops_opP rfl rfl (runs_y rfl rfl rfl) (does_lss rfl rfl rfl) (fun h80 => ?_) (fun h80 => ?_) | refine ops_opB rfl rfl (runs_y rfl rfl rfl) (does_lss rfl rfl rfl) (fun h80 => ?_) (fun h80 => ?_) | refine ops_skip rfl rfl (runs_nf rfl rfl rfl) ?_ | refine ops_skip rfl rfl (runs_nu rfl rfl rfl) ?_)
      all_goals (first | refine ops_op rfl rfl (runs_none rfl) (pickT_s rfl rfl rfl) ?_ | refine ops_op rfl rfl (runs_none rfl) (pickF_s rfl rfl rfl) ?_ | refine ops_op rfl rfl (runs_none rfl) (does_pickT rfl rfl rfl) ?_ | refine ops_op rfl rfl (runs_none rfl) (does_pickF rfl rfl rfl) ?_)
      all_goals refine ops_op rfl rfl (runs_none rfl) (mv_s (.inl rfl) rfl) ?_
      all_goals (first | refine ops_op rfl rfl (runs_y rfl rfl rfl) (does_fieldAddr_ptr rfl tf26_2 (by decide) rfl) ?_ | refine ops_op rfl rfl (runs_y rfl rfl rfl) (does_fieldAddr_ref rfl tf26_2 (by decide) rfl) ?_ | refine ops_skip rfl rfl (runs_nf rfl rfl rfl) ?_ | refine ops_skip rfl rfl (runs_nu rfl rfl rfl) ?_)
      all_goals (first | refine ops_op rfl rfl (runs_y rfl rfl rfl) (does_load_ref rfl ta24 rfl) ?_ | refine ops_op rfl rfl (runs_y rfl rfl rfl) (does_load_ptr rfl ta24 rfl rfl rfl rfl rfl) ?_ | refine ops_skip rfl rfl (runs_nf rfl rfl rfl) ?_ | refine ops_skip rfl rfl (runs_nu rfl rfl rfl) ?_)
      all_goals (first | refine ops_op rfl rfl (runs_y rfl rfl rfl) (mv_s (.inl rfl) rfl) ?_ | refine ops_skip rfl rfl (runs_nf rfl rfl rfl) ?_ | refine ops_skip rfl rfl (runs_nu rfl rfl rfl) ?_)
      all_goals (first | refine ops_op rfl rfl (runs_y rfl rfl rfl) (does_index_sl rfl ts24 ti3 rfl rfl rfl (ix_map (by omega)) rfl) ?_ | refine ops_op rfl rfl (runs_y rfl rfl rfl) (does_index_own rfl ts24 ti3 rfl rfl rfl (by omega)) ?_ | refine ops_skip rfl rfl (runs_nf rfl rfl rfl) ?_ | refine ops_skip rfl rfl (runs_nu rfl rfl rfl) ?_)
      all_goals (first | refine ops_op rfl rfl (runs_y rfl rfl rfl) (does_load_ref rfl ta3 rfl) ?_ | refine ops_op rfl rfl (runs_y rfl rfl rfl) (does_load_ptr rfl ta3 rfl rfl rfl rfl rfl) ?_ | refine ops_skip rfl rfl (runs_nf rfl rfl rfl) ?_ | refine ops_skip rfl rfl (runs_nu rfl rfl rfl) ?_)
      all_goals (first | refine ops_opP rfl rfl (runs_y rfl rfl rfl) (does_gtr rfl rfl rfl) (fun h88 => ?_) (fun h88 => ?_) | refine ops_opB rfl rfl (runs_y rfl rfl rfl) (does_gtr rfl rfl rfl) (fun h88 => ?_) (fun h88 => ?_) | refine ops_skip rfl rfl (runs_nf rfl rfl rfl) ?_ | refine ops_skip rfl rfl (runs_nu rfl rfl rfl) ?_)
      all_goals (first | refine ops_op rfl rfl (runs_none rfl) (pickT_s rfl rfl rfl) ?_ | refine ops_op rfl rfl (runs_none rfl) (pickF_s rfl rfl rfl) ?_ | refine ops_op rfl rfl (runs_none rfl) (does_pickT rfl rfl rfl) ?_ | refine ops_op rfl rfl (runs_none rfl) (does_pickF rfl rfl rfl) ?_)
      all_goals refine ops_nil ?_
      all_goals (repeat (first | refine aw_seq ?_ | refine ath_n ?_ | refine aw_skip ?_ | refine abl_n ?_ | refine aw_block ?_))
      all_goals (first | refine aw_true rfl ?_ | refine aw_false rfl ?_)
      all_goals (repeat (first | refine aw_seq ?_ | refine ath_n ?_ | refine aw_skip ?_ | refine abl_n ?_ | refine aw_block ?_))
      all_goals first
        | skip
          refine aw_region ?_
          refine ops_op rfl rfl (runs_none rfl) (mv_s (.inr rfl) rfl) ?_
          refine ops_nil ?_
          repeat (first | refine aw_seq ?_ | refine ath_n ?_ | refine aw_skip ?_ | refine abl_n ?_ | refine aw_block ?_)
          (refine aw_ret ?_; repeat (first | refine ath_r ?_ | refine abl_r ?_))
          exact post1 (.inr rfl) rfl (congrArg eB (validP_f hlt (by
            cases hb : rowB p k with
            | false => rfl
            | true =>
              exfalso
              unfold rowB relB at hb
              rw [Bool.and_eq_true, fineB_iff, decide_eq_true_eq] at hb
              first | omega | simp_all)).symm)
        | skip
          refine aw_region ?_
          refine ops_op rfl rfl (runs_none rfl) (mv_s (.inl rfl) rfl) ?_
          refine ops_op rfl rfl (runs_none rfl) (does_add rfl rfl rfl (IntWalk.i64_in _ (by omega))) ?_
          refine ops_op rfl rfl (runs_none rfl) (mv_s (.inr rfl) rfl) ?_
          refine ops_nil ?_
          repeat (first | refine aw_seq ?_ | refine ath_n ?_ | refine aw_skip ?_ | refine abl_n ?_ | refine aw_block ?_)
          have hrow : rowB p k = true := by
            unfold rowB relB
            rw [Bool.and_eq_true, fineB_iff, decide_eq_true_eq]
            refine ⟨⟨by omega, by assumption⟩, by omega⟩
          refine ⟨k + 1, ⟨by omega, fun j hj => ?_⟩, by omega, wk_sub _ ⟨rfl, rfl, rfl, rfl, trivial⟩⟩
          by_cases e : j = k
          · subst e; exact hrow
          · exact hk.2 j (by omega)
    · (refine aw_exit ?_; repeat (first | refine ath_x ?_ | refine abl_hit ?_ | refine abl_miss rfl ?_ | refine abl_n ?_ | refine ath_n ?_ | refine aw_seq ?_ | refine aw_skip ?_ | refine aw_block ?_))
      refine aw_region ?_
      refine ops_op rfl rfl (runs_none rfl) (mv_s (.inr rfl) rfl) ?_
      refine ops_nil ?_
      repeat (first | refine aw_seq ?_ | refine ath_n ?_ | refine aw_skip ?_ | refine abl_n ?_ | refine aw_block ?_)
      (refine aw_ret ?_; repeat (first | refine ath_r ?_ | refine abl_r ?_))
      exact post1 (.inr rfl) rfl (congrArg eB (validP_t hh (fun j hj => hk.2 j (by omega))).symm)
  all_goals (refine aw_region ?_)
  all_goals (refine ops_op rfl rfl (runs_none rfl) (mv_s (.inr rfl) rfl) ?_)
  all_goals (refine ops_nil ?_)
  all_goals (repeat (first | refine aw_seq ?_ | refine ath_n ?_ | refine aw_skip ?_ | refine abl_n ?_ | refine aw_block ?_))
  all_goals (refine aw_ret ?_; repeat (first | refine ath_r ?_ | refine abl_r ?_))
  all_goals refine post1 (.inr rfl) rfl (congrArg eB (validP_h (headB_f ?_)).symm)
  all_goals rintro ⟨q1, q2, q3, q4, q5, q6, q7, q8⟩
  all_goals first | omega | exact Bool.noConfusion (q8.symm.trans h49) | exact Bool.noConfusion (q6.symm.trans h43)
end Go.Proofs.Ytcpnffjnagbkoaa.Aw
end
section
namespace Go.Proofs.Ytcpnffjnagbkoaa.Aw
set_option linter.unusedSimpArgs false
set_option linter.unusedVariables false
open Go.RowKit

def liftE (N : Nat) (G : Cx) (Q : Exit → Frm → List Ob → Prop) : Exit → Act → World → Prop :=
  fun e a' w' => ∃ G' F' σ', G'.w = w' ∧ G.Ext G' ∧ S8 N G' a' F' σ' ∧ Q e F' σ'
theorem liftE_mono {N : Nat} {G G1 : Cx} (h : G.Ext G1) {Q Q' : Exit → Frm → List Ob → Prop} (hq : ∀ e F σ, Q e F σ → Q' e F σ) {e : Exit} {a : Act} {w : World} (x : liftE N G1 Q e a w) : liftE N G Q' e a w := by
  obtain ⟨G', F', σ', h1, h2, h3, h4⟩ := x
  exact ⟨G', F', σ', h1, h.trans h2, h3, hq _ _ _ h4⟩

def EWp (P : Program) (N : Nat) (c : Code) (F : Frm) (σ : List Ob) (Q : Exit → Frm → List Ob → Prop) : Prop :=
  ∀ G a, S8 N G a F σ → c.wp P (liftE N G Q) a G.w
def EOps (P : Program) (N : Nat) (ops : Array Oper) (l : List Oper) (F : Frm) (σ : List Ob) (Q : Exit → Frm → List Ob → Prop) : Prop :=
  ∀ G a, S8 N G a F σ → wpList P ops (liftE N G Q) l a G.w

section
variable {P : Program} {N : Nat} {F : Frm} {σ : List Ob} {Q : Exit → Frm → List Ob → Prop}

theorem ew_seq {x y : Code} (h : EWp P N x F σ (AThen (fun F σ => EWp P N y F σ Q) Q)) : EWp P N (.seq x y) F σ Q := fun G a hs => by
  refine wp_seq (Code.wp_mono (fun e a1 w1 q => ?_) (h G a hs))
  obtain ⟨G', F', σ', rfl, h2, h3, h4⟩ := q
  cases e with
  | normal => exact Code.wp_mono (fun e a w q => liftE_mono h2 (fun _ _ _ x => x) q) (h4 G' a1 h3)
  | _ => exact ⟨G', F', σ', rfl, h2, h3, h4⟩
theorem ew_skip (h : Q .normal F σ) : EWp P N .skip F σ Q := fun G a hs => wp_skip ⟨G, F, σ, rfl, .refl G, hs, h⟩
theorem ew_exit {id : Nat} (h : Q (.exit id) F σ) : EWp P N (.exit id) F σ Q := fun G a hs => wp_exit ⟨G, F, σ, rfl, .refl G, hs, h⟩
theorem ew_ret (h : Q .ret F σ) : EWp P N .ret F σ Q := fun G a hs => wp_ret ⟨G, F, σ, rfl, .refl G, hs, h⟩
theorem ew_block {id : Nat} {c : Code} (h : EWp P N c F σ (ABlk id Q)) : EWp P N (.block id c) F σ Q := fun G a hs => by
  refine wp_block (Code.wp_mono (fun e a1 w1 q => ?_) (h G a hs))
  obtain ⟨G', F', σ', rfl, h2, h3, h4⟩ := q
  cases e with
  | exit id' =>
    simp only [ABlk] at h4
    simp only [Exit.inBlock]
    split
    · rename_i e; rw [if_pos e] at h4; exact ⟨G', F', σ', rfl, h2, h3, h4⟩
    · rename_i e; rw [if_neg e] at h4; exact ⟨G', F', σ', rfl, h2, h3, h4⟩
  | _ => exact ⟨G', F', σ', rfl, h2, h3, h4⟩
theorem ew_cond {c : Operand} {x y : Code} {b : Bool} (hc : F.eval c = .s (.bool b)) (ht : b = true → EWp P N x F σ Q) (hf : b = false → EWp P N y F σ Q) : EWp P N (.cond c x y) F σ Q := fun G a hs =>
  wp_cond_split (rep_bool hs.fr hc) (fun e => ht e G a hs) (fun e => hf e G a hs)
theorem ew_true {c : Operand} {x y : Code} (hc : F.eval c = .s (.bool true)) (ht : EWp P N x F σ Q) : EWp P N (.cond c x y) F σ Q := ew_cond hc (fun _ => ht) (fun e => by cases e)
theorem ew_false {c : Operand} {x y : Code} (hc : F.eval c = .s (.bool false)) (ht : EWp P N y F σ Q) : EWp P N (.cond c x y) F σ Q := ew_cond hc (fun e => by cases e) (fun _ => ht)
theorem ew_loop {c : Code} (I : Nat → Frm → List Ob → Prop) (m : Nat) (h0 : I m F σ)
    (round : ∀ m F σ, I m F σ → EWp P N c F σ (AThen (fun F' σ' => ∃ m', m' < m ∧ I m' F' σ') Q)) : EWp P N (.loop c) F σ Q := fun G a hs => by
  refine wp_loop_ghost (fun n a w => ∃ G' F' σ', G'.w = w ∧ G.Ext G' ∧ S8 N G' a F' σ' ∧ I n F' σ') m ⟨G, F, σ, rfl, .refl G, hs, h0⟩ ?_
  rintro n a w ⟨G', F', σ', rfl, h2, h3, h4⟩
  refine Code.wp_mono (fun e a1 w1 q => ?_) (round n F' σ' h4 G' a h3)
  obtain ⟨G2, F2, σ2, rfl, h5, h6, h7⟩ := q
  cases e with
  | normal => obtain ⟨m', hm, hi⟩ := h7; exact ⟨m', hm, ⟨G2, F2, σ2, rfl, h2.trans h5, h6, hi⟩⟩
  | _ => exact ⟨G2, F2, σ2, rfl, h2.trans h5, h6, h7⟩

theorem ew_region {id : Nat} {l : List Oper} (h : EOps P N l.toArray l F σ Q) : EWp P N (.region id l.toArray false) F σ Q := fun G a hs => wp_region_lit (h G a hs)
theorem ew_mono {c : Code} {Q' : Exit → Frm → List Ob → Prop} (h : EWp P N c F σ Q) (hq : ∀ e F σ, Q e F σ → Q' e F σ) : EWp P N c F σ Q' := fun G a hs =>
  Code.wp_mono (fun e a w q => liftE_mono (.refl G) hq q) (h G a hs)

end

section
variable {P : Program} {N : Nat} {F : Frm} {σ σ' : List Ob} {Q : Exit → Frm → List Ob → Prop} {ops : Array Oper} {o : Oper} {l : List Oper} {x : AV}

theorem eops_nil (h : Q .normal F σ) : EOps P N ops [] F σ Q := fun G a hs => ⟨G, F, σ, rfl, .refl G, hs, h⟩
end

end Go.Proofs.Ytcpnffjnagbkoaa.Aw
end
