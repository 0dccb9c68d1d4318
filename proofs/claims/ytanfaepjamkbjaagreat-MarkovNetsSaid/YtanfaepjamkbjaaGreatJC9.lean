/-
  Texts joined: NtL, NtI, SxA, SxB, MkA, SxC. Conditions: none.
-/
import Derived.Test.YtanfaepjamkbjaaGreatJC8
import Derived.Test.YtanfaepjamkbjaaGreatJC6
import Derived.Test.YtanfaepjamkbjaaGreatJC5
section
namespace Go.Proofs.YtanfaepjamkbjaaGreat.Aw
set_option linter.unusedSimpArgs false
set_option linter.unusedVariables false
set_option linter.unusedSectionVars false
open Go Go.RowKit Go.Proofs Go.Maps Go.WideMaps
variable {P : Program} [IsP P]

theorem roneN_pf (n : Net) (np kp : Nat) (hnp : n.places = (np : Int)) (h40 : np ≤ 40) (hlt : kp < np) :
    Pure P 28 [eN n, eI kp] (eL eI (oneL np kp)) := by
  have hE : ((List.replicate np (eI 0)).set kp (eI 1)) = (oneL np kp).map eI := by unfold oneL; rw [List.map_set, List.map_replicate]; rfl
  have hel : (List.replicate np (AV.s (.int .i64 0)))[kp]? = some (AV.s (.int .i64 0)) := by rw [List.getElem?_replicate, if_pos hlt]
  refine aw_fn (by rw [IsP.eq (P := P)]; exact Tryz.func28) rfl rfl rfl rfl rfl (by repeat' (first | exact Lo.s _ | exact Lo.emp | exact Lo.any | exact lo_nil | exact lo_nilE | refine lo_cons ?_ ?_ | refine lo_consE ?_ ?_ | refine lo_map ?_ | refine lo_mapE ?_ | refine Lo.cells ?_ | refine Lo.agg _ ?_ | refine Lo.ref _ ?_ | refine Lo.tup _ ?_ | refine Lo.fn _ _ ?_ | refine Lo.sl _ ?_ | intro _)) (by repeat' (first | exact Lo.s _ | exact Lo.emp | exact Lo.any | exact lo_nil | exact lo_nilE | refine lo_cons ?_ ?_ | refine lo_consE ?_ ?_ | refine lo_map ?_ | refine lo_mapE ?_ | refine Lo.cells ?_ | refine Lo.agg _ ?_ | refine Lo.ref _ ?_ | refine Lo.tup _ ?_ | refine Lo.fn _ _ ?_ | refine Lo.sl _ ?_ | intro _)) (by simp only [argF]; rfl) ?_
  repeat (first | refine aw_seq ?_ | refine ath_n ?_ | refine aw_skip ?_ | refine abl_n ?_ | refine aw_block ?_)
  refine aw_region ?_
  refine ops_op rfl rfl (runs_none rfl) (does_box rfl rfl rfl rfl) ?_
  first | refine ops_op rfl rfl (runs_none rfl) (mv_own (.inr rfl) rfl) ?_ | refine ops_op rfl rfl (runs_none rfl) (mv_sl (.inr rfl) rfl) ?_ | refine ops_op rfl rfl (runs_none rfl) (mv_s (.inr rfl) rfl) ?_ | refine ops_op rfl rfl (runs_none rfl) (mv_emp (.inr rfl) rfl) ?_ | refine ops_op rfl rfl (runs_none rfl) (mv_sub (.inr rfl) rfl) ?_
  refine ops_nil ?_
  repeat (first | refine aw_seq ?_ | refine ath_n ?_ | refine aw_skip ?_ | refine abl_n ?_ | refine aw_block ?_)
  refine aw_region ?_
  first | refine ops_op rfl rfl (runs_none rfl) (does_fieldAddr_ptr rfl tf24_0 (by decide) rfl) ?_ | refine ops_op rfl rfl (runs_none rfl) (does_fieldAddr_ref rfl tf24_0 (by decide) rfl) ?_
  first | refine ops_op rfl rfl (runs_none rfl) (does_load_ref rfl ta3 rfl) ?_ | refine ops_op rfl rfl (runs_none rfl) (does_load_ptr rfl ta3 rfl rfl rfl rfl rfl) ?_
  refine ops_op rfl rfl (runs_none rfl) (does_make rfl ts25 ti3 rfl rfl (by decide) rfl rfl hnp hnp (Nat.le_refl _) (by omega) (by omega)) ?_
  first | refine ops_op rfl rfl (runs_none rfl) (mv_own (.inr rfl) rfl) ?_ | refine ops_op rfl rfl (runs_none rfl) (mv_sl (.inr rfl) rfl) ?_ | refine ops_op rfl rfl (runs_none rfl) (mv_s (.inr rfl) rfl) ?_ | refine ops_op rfl rfl (runs_none rfl) (mv_emp (.inr rfl) rfl) ?_ | refine ops_op rfl rfl (runs_none rfl) (mv_sub (.inr rfl) rfl) ?_
  refine ops_nil ?_
  repeat (first | refine aw_seq ?_ | refine ath_n ?_ | refine aw_skip ?_ | refine abl_n ?_ | refine aw_block ?_)
  refine aw_region ?_
  first | refine ops_op rfl rfl (runs_none rfl) (mv_own (.inl rfl) rfl) ?_ | refine ops_op rfl rfl (runs_none rfl) (mv_sl (.inl rfl) rfl) ?_ | refine ops_op rfl rfl (runs_none rfl) (mv_s (.inl rfl) rfl) ?_ | refine ops_op rfl rfl (runs_none rfl) (mv_emp (.inl rfl) rfl) ?_ | refine ops_op rfl rfl (runs_none rfl) (mv_sub (.inl rfl) rfl) ?_
  refine ops_op rfl rfl (runs_none rfl) (mv_s (.inl rfl) rfl) ?_
  first | refine ops_op rfl rfl (runs_none rfl) (does_index_sl rfl ts25 ti3 rfl rfl rfl hlt rfl) ?_ | refine ops_op rfl rfl (runs_none rfl) (does_index_own rfl ts25 ti3 rfl rfl rfl hlt) ?_ | refine ops_op rfl rfl (runs_none rfl) (does_index_sub rfl ts25 ti3 rfl rfl rfl hlt) ?_
  refine ops_eff rfl (runs_none rfl) (does_store rfl ti3 rfl rfl rfl hel rfl rfl (by decide) (by decide)) ?_
  refine ops_nil ?_
  repeat (first | refine aw_seq ?_ | refine ath_n ?_ | refine aw_skip ?_ | refine abl_n ?_ | refine aw_block ?_)
  refine aw_region ?_
  first | refine ops_op rfl rfl (runs_none rfl) (mv_own (.inl rfl) rfl) ?_ | refine ops_op rfl rfl (runs_none rfl) (mv_sl (.inl rfl) rfl) ?_ | refine ops_op rfl rfl (runs_none rfl) (mv_s (.inl rfl) rfl) ?_ | refine ops_op rfl rfl (runs_none rfl) (mv_emp (.inl rfl) rfl) ?_ | refine ops_op rfl rfl (runs_none rfl) (mv_sub (.inl rfl) rfl) ?_
  first | refine ops_op rfl rfl (runs_none rfl) (mv_own (.inr rfl) rfl) ?_ | refine ops_op rfl rfl (runs_none rfl) (mv_sl (.inr rfl) rfl) ?_ | refine ops_op rfl rfl (runs_none rfl) (mv_s (.inr rfl) rfl) ?_ | refine ops_op rfl rfl (runs_none rfl) (mv_emp (.inr rfl) rfl) ?_ | refine ops_op rfl rfl (runs_none rfl) (mv_sub (.inr rfl) rfl) ?_
  refine aops_weak (wk_froz (id := 1) rfl) (aops_weak (wk_sl (d := 4) rfl rfl (by first | rfl | (simp; done) | (simp; omega))) ?_)
  refine ops_nil ?_
  repeat (first | refine aw_seq ?_ | refine ath_n ?_ | refine aw_skip ?_ | refine abl_n ?_ | refine aw_block ?_)
  (refine aw_ret ?_; repeat (first | refine ath_r ?_ | refine abl_r ?_))
  exact post1 (.inr rfl) rfl (congrArg AV.sl hE)
theorem post_cN {N : Nat} {F : Frm} {σ : List Ob} {ad : Nat} {ty : TypeId} {id sz k n bt : Nat} {z : Option Value} {ob : Ob} {cs : List AV} {e1 r : AV} {e : Exit} (he : e = .normal ∨ e = .ret) (ha : tyAgg P ty = some true) (hi : tyInfo P ty = some (z, n, bt)) (hp : F.get ad = .ptr id sz k 0) (hs : σ[id]? = some ob) (ho : rowOf ob = some (sz, cs)) (hk : cs[k]? = some e1) (hn : e1.cells.length = n) (hr : AV.agg e1.cells = r) : APost P [.cell ad ty] r e F σ :=
  ⟨he, [.agg e1.cells], .cons _ _ _ _ (.cells ad ty id sz k n bt z ob cs e1 ha hi hp hs ho hk hn) .nil, hr ▸ .refl _⟩
theorem zeroR_pf : Pure P 32 [] (eF (Fr.of 0)) := by
  have h0 := rOf_pf (P := P) 0
  refine aw_fn (by rw [IsP.eq (P := P)]; exact Tryz.func32) rfl rfl rfl rfl rfl (by repeat' (first | exact Lo.s _ | exact Lo.emp | exact Lo.any | exact lo_nil | exact lo_nilE | refine lo_cons ?_ ?_ | refine lo_consE ?_ ?_ | refine lo_map ?_ | refine lo_mapE ?_ | refine Lo.cells ?_ | refine Lo.agg _ ?_ | refine Lo.ref _ ?_ | refine Lo.tup _ ?_ | refine Lo.fn _ _ ?_ | refine Lo.sl _ ?_ | intro _)) (by repeat' (first | exact Lo.s _ | exact Lo.emp | exact Lo.any | exact lo_nil | exact lo_nilE | refine lo_cons ?_ ?_ | refine lo_consE ?_ ?_ | refine lo_map ?_ | refine lo_mapE ?_ | refine Lo.cells ?_ | refine Lo.agg _ ?_ | refine Lo.ref _ ?_ | refine Lo.tup _ ?_ | refine Lo.fn _ _ ?_ | refine Lo.sl _ ?_ | intro _)) (by simp only [argF]; rfl) ?_
  repeat (first | refine aw_seq ?_ | refine ath_n ?_ | refine aw_skip ?_ | refine abl_n ?_ | refine aw_block ?_)
  refine aw_region ?_
  refine ops_op rfl rfl (runs_none rfl) (does_alloc rfl ti44 rfl rfl) ?_
  refine ops_nil ?_
  repeat (first | refine aw_seq ?_ | refine ath_n ?_ | refine aw_skip ?_ | refine abl_n ?_ | refine aw_block ?_)
  refine aw_region ?_
  refine ops_op rfl rfl (runs_none rfl) (does_call rfl rfl (h0) (evc_cons rfl evc_nil)) ?_
  refine ops_eff rfl (runs_none rfl) (does_store rfl ti44 rfl rfl rfl rfl rfl rfl (by decide) (by decide)) ?_
  refine ops_nil ?_
  repeat (first | refine aw_seq ?_ | refine ath_n ?_ | refine aw_skip ?_ | refine abl_n ?_ | refine aw_block ?_)
  (refine aw_ret ?_; repeat (first | refine ath_r ?_ | refine abl_r ?_))
  exact post_cN (N := 0) (.inr rfl) ta44 ti44 rfl rfl rfl rfl rfl rfl
theorem oneR_pf : Pure P 34 [] (eF (Fr.of 1)) := by
  have h0 := rOf_pf (P := P) 1
  refine aw_fn (by rw [IsP.eq (P := P)]; exact Tryz.func34) rfl rfl rfl rfl rfl (by repeat' (first | exact Lo.s _ | exact Lo.emp | exact Lo.any | exact lo_nil | exact lo_nilE | refine lo_cons ?_ ?_ | refine lo_consE ?_ ?_ | refine lo_map ?_ | refine lo_mapE ?_ | refine Lo.cells ?_ | refine Lo.agg _ ?_ | refine Lo.ref _ ?_ | refine Lo.tup _ ?_ | refine Lo.fn _ _ ?_ | refine Lo.sl _ ?_ | intro _)) (by repeat' (first | exact Lo.s _ | exact Lo.emp | exact Lo.any | exact lo_nil | exact lo_nilE | refine lo_cons ?_ ?_ | refine lo_consE ?_ ?_ | refine lo_map ?_ | refine lo_mapE ?_ | refine Lo.cells ?_ | refine Lo.agg _ ?_ | refine Lo.ref _ ?_ | refine Lo.tup _ ?_ | refine Lo.fn _ _ ?_ | refine Lo.sl _ ?_ | intro _)) (by simp only [argF]; rfl) ?_
  repeat (first | refine aw_seq ?_ | refine ath_n ?_ | refine aw_skip ?_ | refine abl_n ?_ | refine aw_block ?_)
  refine aw_region ?_
  refine ops_op rfl rfl (runs_none rfl) (does_alloc rfl ti44 rfl rfl) ?_
  refine ops_nil ?_
  repeat (first | refine aw_seq ?_ | refine ath_n ?_ | refine aw_skip ?_ | refine abl_n ?_ | refine aw_block ?_)
  refine aw_region ?_
  refine ops_op rfl rfl (runs_none rfl) (does_call rfl rfl (h0) (evc_cons rfl evc_nil)) ?_
  refine ops_eff rfl (runs_none rfl) (does_store rfl ti44 rfl rfl rfl rfl rfl rfl (by decide) (by decide)) ?_
  refine ops_nil ?_
  repeat (first | refine aw_seq ?_ | refine ath_n ?_ | refine aw_skip ?_ | refine abl_n ?_ | refine aw_block ?_)
  (refine aw_ret ?_; repeat (first | refine ath_r ?_ | refine abl_r ?_))
  exact post_cN (N := 0) (.inr rfl) ta44 ti44 rfl rfl rfl rfl rfl rfl
theorem wtsB_all {wts : List Int} (h : ∀ k, k < wts.length → 1 ≤ gti wts k ∧ gti wts k ≤ 1000) : wtsB wts = true := by
  unfold wtsB
  rw [List.all_eq_true]
  intro x hx
  obtain ⟨k, hk, rfl⟩ := mem_gti' hx
  exact decide_eq_true (h k hk)
theorem wtsB_not {wts : List Int} {k : Nat} (hk : k < wts.length) (h : ¬ (1 ≤ gti wts k ∧ gti wts k ≤ 1000)) : wtsB wts = false := by
  cases e : wtsB wts with
  | false => rfl
  | true => have := wtsB_gti e k; exact absurd ⟨this.2 hk, this.1.2⟩ h
theorem take_nnN {r : List Int} (h : ∀ j, 0 ≤ gti r j) (k j : Nat) : 0 ≤ gti (r.take k) j := by
  have h1 := h j
  unfold Go.Proofs.YtanfaepjamkbjaaGreat.gti at h1 ⊢
  rw [List.getElem?_take]
  split
  · exact h1
  · exact Int.le_refl _
theorem drop_nnN {r : List Int} (h : ∀ j, 0 ≤ gti r j) (k j : Nat) : 0 ≤ gti (r.drop k) j := by
  have h1 := h (k + j)
  unfold Go.Proofs.YtanfaepjamkbjaaGreat.gti at h1 ⊢
  rw [List.getElem?_drop]
  exact h1
theorem enabledL_cons (x : List Int) (q : Nat) (ts : List Tr) (h : q < ts.length) : enabledL x q (ts.drop q) = if enB (gti ts q) x then (q : Int) :: enabledL x (q + 1) (ts.drop (q + 1)) else enabledL x (q + 1) (ts.drop (q + 1)) := by
  rw [drop_gti h]; rfl
theorem ints_lo (l : List Int) : ∀ e ∈ l.map eI, ∀ c ∈ e.cells, Lo 0 c := by
  intro e he c hc
  obtain ⟨x, _, rfl⟩ := List.mem_map.1 he
  simp [eI, AV.cells] at hc; subst hc; exact .s _
set_option maxHeartbeats 4000000 in
theorem rFromNet_pf (n : Net) (wts : List Int) (most : Int) : Pure P 8 [eN n, eL eI wts, eI most] (.tup [eChn (netE n wts most).1, eI (netE n wts most).2]) := by
  have HI := netE_eq n wts most
  generalize netE n wts most = R at HI ⊢
  have hv := rvalid_pf (P := P) n
  have hln : Lo 0 (.ref (eN n).cells) := .ref _ (lo_N n).cells
  refine aw_fn (by rw [IsP.eq (P := P)]; exact Tryz.func8) rfl rfl rfl rfl rfl (lo_cons (lo_N n) (lo_cons lo_I (lo_cons (.s _) lo_nil))) (.tup _ (lo_cons (lo_Ch _) (lo_cons (.s _) lo_nil))) (by simp only [argF]; rfl) ?_
  refine aw_bdm (d := 1) rfl (fun hmx1 => ?_)
  unfold maxLen at hmx1
  repeat (first | refine aw_seq ?_ | refine ath_n ?_ | refine aw_skip ?_ | refine abl_n ?_ | refine aw_block ?_)
  refine aw_region ?_
  refine ops_op rfl rfl (runs_none rfl) (does_box rfl rfl rfl rfl) ?_
  refine aops_weak (wk_froz (id := 0) rfl) (aops_weak (wk_ref (d := 3) rfl rfl rfl) ?_)
  refine ops_op rfl rfl (runs_none rfl) (does_alloc rfl ti33 rfl rfl) ?_
  refine ops_op rfl rfl (runs_none rfl) (mv_s (.inr rfl) rfl) ?_
  refine ops_nil ?_
  repeat (first | refine aw_seq ?_ | refine ath_n ?_ | refine aw_skip ?_ | refine abl_n ?_ | refine aw_block ?_)
  all_goals refine aw_region ?_
  all_goals (first | refine ops_op rfl rfl (runs_none rfl) (does_load_refw rfl ta24 ti24 rfl rfl) ?_ | refine ops_op rfl rfl (runs_none rfl) (does_load_whole rfl ta24 ti24 rfl rfl rfl rfl rfl) ?_ | refine ops_op rfl rfl (runs_none rfl) (does_load_refs rfl ta24 ti24 rfl (Nat.le_of_ble_eq_true rfl)) ?_ | refine ops_op rfl rfl (runs_none rfl) (does_load_ptrs rfl ta24 ti24 rfl rfl rfl rfl (Nat.le_of_ble_eq_true rfl)) ?_)
  all_goals (first | refine ops_opP rfl rfl (runs_none rfl) (does_call rfl rfl (hv) (evc_cons rfl evc_nil)) (fun h25 => ?_) (fun h25 => ?_) | refine ops_opB rfl rfl (runs_none rfl) (does_call rfl rfl (hv) (evc_cons rfl evc_nil)) (fun h25 => ?_) (fun h25 => ?_))
  all_goals (first | refine ops_op rfl rfl (runs_none rfl) (does_notp rfl rfl) ?_ | refine ops_op rfl rfl (runs_none rfl) (does_not rfl rfl) ?_)
  all_goals refine ops_nil ?_
  all_goals (repeat (first | refine aw_seq ?_ | refine ath_n ?_ | refine aw_skip ?_ | refine abl_n ?_ | refine aw_block ?_))
  all_goals (first | refine aw_true rfl ?_ | refine aw_false rfl ?_)
  all_goals (repeat (first | refine aw_seq ?_ | refine ath_n ?_ | refine aw_skip ?_ | refine abl_n ?_ | refine aw_block ?_))
  rotate_left 1
  · have hvn : validB n = false := h25
    refine aw_region ?_
    refine ops_op rfl rfl (runs_none rfl) (does_build rfl ti33 tp33 rfl rfl) ?_
    refine ops_eff rfl (runs_none rfl) (does_store rfl ti33 rfl rfl rfl rfl rfl rfl (by decide) (by decide)) ?_
    refine ops_op rfl rfl (runs_none rfl) (mv_s (.inr rfl) rfl) ?_
    refine ops_nil ?_
    repeat (first | refine aw_seq ?_ | refine ath_n ?_ | refine aw_skip ?_ | refine abl_n ?_ | refine aw_block ?_)
    (refine aw_ret ?_; repeat (first | refine ath_r ?_ | refine abl_r ?_))
    exact post_zc (N := 0) (.inr rfl) rfl rfl rfl rfl rfl (by rw [HI, if_pos hvn])
  have hvn : validB n = true := h25
  rw [if_neg (by rw [hvn]; decide)] at HI
  have hpl := validB_places hvn
  have hen := validB_ends hvn
  all_goals refine aw_region ?_
  all_goals (first | refine ops_op rfl rfl (runs_none rfl) (mv_own (.inl rfl) rfl) ?_ | refine ops_op rfl rfl (runs_none rfl) (mv_sl (.inl rfl) rfl) ?_ | refine ops_op rfl rfl (runs_none rfl) (mv_s (.inl rfl) rfl) ?_ | refine ops_op rfl rfl (runs_none rfl) (mv_emp (.inl rfl) rfl) ?_ | refine ops_op rfl rfl (runs_none rfl) (mv_sub (.inl rfl) rfl) ?_)
  all_goals (first | refine ops_op rfl rfl (runs_none rfl) (does_len_map rfl ts25 rfl) ?_ | refine ops_op rfl rfl (runs_none rfl) (does_len_sl rfl ts25 rfl) ?_ | refine ops_op rfl rfl (runs_none rfl) (does_len_own rfl ts25 rfl) ?_ | refine ops_op rfl rfl (runs_none rfl) (does_len_s rfl ts25 rfl) ?_ | refine ops_op rfl rfl (runs_none rfl) (does_len_emp rfl ts25 rfl) ?_ | refine ops_op rfl rfl (runs_none rfl) (does_len_sub rfl ts25 rfl) ?_)
  all_goals (first | refine ops_op rfl rfl (runs_none rfl) (does_fieldAddr_ptr rfl tf24_1 (by decide) rfl) ?_ | refine ops_op rfl rfl (runs_none rfl) (does_fieldAddr_ref rfl tf24_1 (by decide) rfl) ?_)
  all_goals (first | refine ops_op rfl rfl (runs_none rfl) (does_load_ref rfl ta22 rfl) ?_ | refine ops_op rfl rfl (runs_none rfl) (does_load_ptr rfl ta22 rfl rfl rfl rfl rfl) ?_)
  all_goals (first | refine ops_op rfl rfl (runs_none rfl) (does_len_map rfl ts22 rfl) ?_ | refine ops_op rfl rfl (runs_none rfl) (does_len_sl rfl ts22 rfl) ?_ | refine ops_op rfl rfl (runs_none rfl) (does_len_own rfl ts22 rfl) ?_ | refine ops_op rfl rfl (runs_none rfl) (does_len_s rfl ts22 rfl) ?_ | refine ops_op rfl rfl (runs_none rfl) (does_len_emp rfl ts22 rfl) ?_ | refine ops_op rfl rfl (runs_none rfl) (does_len_sub rfl ts22 rfl) ?_)
  all_goals (first | refine ops_opP rfl rfl (runs_none rfl) (does_neq rfl rfl rfl) (fun h33 => ?_) (fun h33 => ?_) | refine ops_opB rfl rfl (runs_none rfl) (does_neq rfl rfl rfl) (fun h33 => ?_) (fun h33 => ?_))
  all_goals refine ops_nil ?_
  all_goals (repeat (first | refine aw_seq ?_ | refine ath_n ?_ | refine aw_skip ?_ | refine abl_n ?_ | refine aw_block ?_))
  all_goals (first | refine aw_true rfl ?_ | refine aw_false rfl ?_)
  all_goals (repeat (first | refine aw_seq ?_ | refine ath_n ?_ | refine aw_skip ?_ | refine abl_n ?_ | refine aw_block ?_))
  · skip
    refine aw_region ?_
    refine ops_op rfl rfl (runs_none rfl) (does_build rfl ti33 tp33 rfl rfl) ?_
    refine ops_eff rfl (runs_none rfl) (does_store rfl ti33 rfl rfl rfl rfl rfl rfl (by decide) (by decide)) ?_
    refine ops_op rfl rfl (runs_none rfl) (mv_s (.inr rfl) rfl) ?_
    refine ops_nil ?_
    repeat (first | refine aw_seq ?_ | refine ath_n ?_ | refine aw_skip ?_ | refine abl_n ?_ | refine aw_block ?_)
    (refine aw_ret ?_; repeat (first | refine ath_r ?_ | refine abl_r ?_))
    exact post_zc (N := 0) (.inr rfl) rfl rfl rfl rfl rfl (by rw [HI, if_pos (by omega)])
  rw [if_neg (by omega)] at HI
  refine aw_region ?_
  refine ops_op rfl rfl (runs_none rfl) (mv_s (.inr rfl) rfl) ?_
  refine ops_nil ?_
  repeat (first | refine aw_seq ?_ | refine ath_n ?_ | refine aw_skip ?_ | refine abl_n ?_ | refine aw_block ?_)
  refine aw_loops (S := Nat) (fun k => [(1, eL eI wts), (2, eI most), (3, .ref (eN n).cells), (6, .ptr 0 1 0 0), (8, eI k)]) (fun _ => [.row 1 [zCA]]) (fun k => k ≤ wts.length ∧ ∀ j, j < k → 1 ≤ gti wts j ∧ gti wts j ≤ 1000) (fun k => wts.length - k) 0
    (wk_st [1] (by decide) ⟨⟨_, rfl, .rowE zCA_lo rfl⟩, trivial⟩ ⟨.lo _ lo_I, .lo _ (.s _), .lo _ hln, .ptr 1 0 1 0 0 rfl, .lo _ (.s _), trivial⟩) ⟨Nat.zero_le _, fun j hj => by omega⟩ (fun k hk => ?_)
  obtain ⟨hk, hok⟩ := hk
  repeat (first | refine aw_seq ?_ | refine ath_n ?_ | refine aw_skip ?_ | refine abl_n ?_ | refine aw_block ?_)
  all_goals refine aw_region ?_
  all_goals refine ops_op rfl rfl (runs_none rfl) (mv_s (.inl rfl) rfl) ?_
  all_goals (first | refine ops_op rfl rfl (runs_none rfl) (mv_own (.inl rfl) rfl) ?_ | refine ops_op rfl rfl (runs_none rfl) (mv_sl (.inl rfl) rfl) ?_ | refine ops_op rfl rfl (runs_none rfl) (mv_s (.inl rfl) rfl) ?_ | refine ops_op rfl rfl (runs_none rfl) (mv_emp (.inl rfl) rfl) ?_ | refine ops_op rfl rfl (runs_none rfl) (mv_sub (.inl rfl) rfl) ?_)
  all_goals (first | refine ops_op rfl rfl (runs_none rfl) (does_len_map rfl ts25 rfl) ?_ | refine ops_op rfl rfl (runs_none rfl) (does_len_sl rfl ts25 rfl) ?_ | refine ops_op rfl rfl (runs_none rfl) (does_len_own rfl ts25 rfl) ?_ | refine ops_op rfl rfl (runs_none rfl) (does_len_s rfl ts25 rfl) ?_ | refine ops_op rfl rfl (runs_none rfl) (does_len_emp rfl ts25 rfl) ?_ | refine ops_op rfl rfl (runs_none rfl) (does_len_sub rfl ts25 rfl) ?_)
  all_goals (first | refine ops_opP rfl rfl (runs_none rfl) (does_lss rfl rfl rfl) (fun h38 => ?_) (fun h38 => ?_) | refine ops_opB rfl rfl (runs_none rfl) (does_lss rfl rfl rfl) (fun h38 => ?_) (fun h38 => ?_))
  all_goals refine ops_nil ?_
  all_goals (repeat (first | refine aw_seq ?_ | refine ath_n ?_ | refine aw_skip ?_ | refine abl_n ?_ | refine aw_block ?_))
  all_goals (first | refine aw_true rfl ?_ | refine aw_false rfl ?_)
  all_goals (repeat (first | refine aw_seq ?_ | refine ath_n ?_ | refine aw_skip ?_ | refine abl_n ?_ | refine aw_block ?_))
  · have hlt : k < wts.length := by omega
    have hix : (wts.map eI)[k]? = some (eI (gti wts k)) := ix_map hlt
    all_goals refine aw_region ?_
    all_goals (first | refine ops_op rfl rfl (runs_none rfl) (mv_own (.inl rfl) rfl) ?_ | refine ops_op rfl rfl (runs_none rfl) (mv_sl (.inl rfl) rfl) ?_ | refine ops_op rfl rfl (runs_none rfl) (mv_s (.inl rfl) rfl) ?_ | refine ops_op rfl rfl (runs_none rfl) (mv_emp (.inl rfl) rfl) ?_ | refine ops_op rfl rfl (runs_none rfl) (mv_sub (.inl rfl) rfl) ?_)
    all_goals refine ops_op rfl rfl (runs_none rfl) (mv_s (.inl rfl) rfl) ?_
    all_goals (first | refine ops_op rfl rfl (runs_none rfl) (does_index_sl rfl ts25 ti3 rfl rfl rfl hix rfl) ?_ | refine ops_op rfl rfl (runs_none rfl) (does_index_own rfl ts25 ti3 rfl rfl rfl hix) ?_ | refine ops_op rfl rfl (runs_none rfl) (does_index_sub rfl ts25 ti3 rfl rfl rfl hix) ?_)
    all_goals (first | refine ops_op rfl rfl (runs_none rfl) (does_load_ref rfl ta3 rfl) ?_ | refine ops_op rfl rfl (runs_none rfl) (does_load_ptr rfl ta3 rfl rfl rfl rfl rfl) ?_)
    all_goals (first | refine ops_opP rfl rfl (runs_none rfl) (does_lss rfl rfl rfl) (fun h45 => ?_) (fun h45 => ?_) | refine ops_opB rfl rfl (runs_none rfl) (does_lss rfl rfl rfl) (fun h45 => ?_) (fun h45 => ?_))
    all_goals refine ops_op rfl rfl (runs_none rfl) (mv_s (.inl rfl) rfl) ?_
    all_goals (first | refine ops_op rfl rfl (runs_y rfl rfl rfl) (mv_own (.inl rfl) rfl) ?_ | refine ops_op rfl rfl (runs_y rfl rfl rfl) (mv_sl (.inl rfl) rfl) ?_ | refine ops_op rfl rfl (runs_y rfl rfl rfl) (mv_s (.inl rfl) rfl) ?_ | refine ops_op rfl rfl (runs_y rfl rfl rfl) (mv_emp (.inl rfl) rfl) ?_ | refine ops_op rfl rfl (runs_y rfl rfl rfl) (mv_sub (.inl rfl) rfl) ?_ | refine ops_skip rfl rfl (runs_nf rfl rfl rfl) ?_ | refine ops_skip rfl rfl (runs_nu rfl rfl rfl) ?_)
    all_goals (first | refine ops_op rfl rfl (runs_y rfl rfl rfl) (mv_s (.inl rfl) rfl) ?_ | refine ops_skip rfl rfl (runs_nf rfl rfl rfl) ?_ | refine ops_skip rfl rfl (runs_nu rfl rfl rfl) ?_)
    all_goals (first | refine ops_op rfl rfl (runs_y rfl rfl rfl) (does_index_sl rfl ts25 ti3 rfl rfl rfl hix rfl) ?_ | refine ops_op rfl rfl (runs_y rfl rfl rfl) (does_index_own rfl ts25 ti3 rfl rfl rfl hix) ?_ | refine ops_op rfl rfl (runs_y rfl rfl rfl) (does_index_sub rfl ts25 ti3 rfl rfl rfl hix) ?_ | refine ops_skip rfl rfl (runs_nf rfl rfl rfl) ?_ | refine ops_skip rfl rfl (runs_nu rfl rfl rfl) ?_)
    all_goals (first | refine ops_op rfl rfl (runs_y rfl rfl rfl) (does_load_ref rfl ta3 rfl) ?_ | refine ops_op rfl rfl (runs_y rfl rfl rfl) (does_load_ptr rfl ta3 rfl rfl rfl rfl rfl) ?_ | refine ops_skip rfl rfl (runs_nf rfl rfl rfl) ?_ | refine ops_skip rfl rfl (runs_nu rfl rfl rfl) ?_)
    all_goals (first | refine ops_opP rfl rfl (runs_y rfl rfl rfl) (does_gtr rfl rfl rfl) (fun h51 => ?_) (fun h51 => ?_) | refine ops_opB rfl rfl (runs_y rfl rfl rfl) (does_gtr rfl rfl rfl) (fun h51 => ?_) (fun h51 => ?_) | refine ops_skip rfl rfl (runs_nf rfl rfl rfl) ?_ | refine ops_skip rfl rfl (runs_nu rfl rfl rfl) ?_)
    all_goals (first | refine ops_op rfl rfl (runs_none rfl) (pickT_s rfl rfl rfl) ?_ | refine ops_op rfl rfl (runs_none rfl) (pickF_s rfl rfl rfl) ?_ | refine ops_op rfl rfl (runs_none rfl) (does_pickT rfl rfl rfl) ?_ | refine ops_op rfl rfl (runs_none rfl) (does_pickF rfl rfl rfl) ?_)
    all_goals refine ops_nil ?_
    all_goals (repeat (first | refine aw_seq ?_ | refine ath_n ?_ | refine aw_skip ?_ | refine abl_n ?_ | refine aw_block ?_))
    all_goals (first | refine aw_true rfl ?_ | refine aw_false rfl ?_)
    all_goals (repeat (first | refine aw_seq ?_ | refine ath_n ?_ | refine aw_skip ?_ | refine abl_n ?_ | refine aw_block ?_))
    all_goals first
      | skip
        refine aw_region ?_
        refine ops_op rfl rfl (runs_none rfl) (does_build rfl ti33 tp33 rfl rfl) ?_
        refine ops_eff rfl (runs_none rfl) (does_store rfl ti33 rfl rfl rfl rfl rfl rfl (by decide) (by decide)) ?_
        refine ops_op rfl rfl (runs_none rfl) (mv_s (.inr rfl) rfl) ?_
        refine ops_nil ?_
        repeat (first | refine aw_seq ?_ | refine ath_n ?_ | refine aw_skip ?_ | refine abl_n ?_ | refine aw_block ?_)
        (refine aw_ret ?_; repeat (first | refine ath_r ?_ | refine abl_r ?_))
        exact post_zc (N := 0) (.inr rfl) rfl rfl rfl rfl rfl (by rw [HI, if_pos (.inl (wtsB_not hlt (by omega)))])
      | skip
    refine aw_region ?_
    refine ops_op rfl rfl (runs_none rfl) (mv_s (.inl rfl) rfl) ?_
    refine ops_op rfl rfl (runs_none rfl) (does_add rfl rfl rfl (IntWalk.i64_in _ (by omega))) ?_
    refine ops_op rfl rfl (runs_none rfl) (mv_s (.inr rfl) rfl) ?_
    refine ops_nil ?_
    repeat (first | refine aw_seq ?_ | refine ath_n ?_ | refine aw_skip ?_ | refine abl_n ?_ | refine aw_block ?_)
    exact ⟨k + 1, ⟨by omega, fun j hj => by
      by_cases e : j = k
      · subst e; omega
      · exact hok j (by omega)⟩, by omega, wk_sub _ ⟨rfl, rfl, rfl, rfl, rfl, trivial⟩⟩
  have e : k = wts.length := by omega
  subst e
  have hwt : wtsB wts = true := wtsB_all hok
  (refine aw_exit ?_; repeat (first | refine ath_x ?_ | refine abl_hit ?_ | refine abl_miss rfl ?_ | refine abl_n ?_ | refine ath_n ?_ | refine aw_seq ?_ | refine aw_skip ?_ | refine aw_block ?_))
  all_goals refine aw_region ?_
  all_goals refine ops_op rfl rfl (runs_none rfl) (mv_s (.inl rfl) rfl) ?_
  all_goals (first | refine ops_opP rfl rfl (runs_none rfl) (does_lss rfl rfl rfl) (fun h55 => ?_) (fun h55 => ?_) | refine ops_opB rfl rfl (runs_none rfl) (does_lss rfl rfl rfl) (fun h55 => ?_) (fun h55 => ?_))
  all_goals refine ops_op rfl rfl (runs_none rfl) (mv_s (.inl rfl) rfl) ?_
  all_goals (first | refine ops_op rfl rfl (runs_y rfl rfl rfl) (mv_s (.inl rfl) rfl) ?_ | refine ops_skip rfl rfl (runs_nf rfl rfl rfl) ?_ | refine ops_skip rfl rfl (runs_nu rfl rfl rfl) ?_)
  all_goals (first | refine ops_opP rfl rfl (runs_y rfl rfl rfl) (does_gtr rfl rfl rfl) (fun h58 => ?_) (fun h58 => ?_) | refine ops_opB rfl rfl (runs_y rfl rfl rfl) (does_gtr rfl rfl rfl) (fun h58 => ?_) (fun h58 => ?_) | refine ops_skip rfl rfl (runs_nf rfl rfl rfl) ?_ | refine ops_skip rfl rfl (runs_nu rfl rfl rfl) ?_)
  all_goals (first | refine ops_op rfl rfl (runs_none rfl) (pickT_s rfl rfl rfl) ?_ | refine ops_op rfl rfl (runs_none rfl) (pickF_s rfl rfl rfl) ?_ | refine ops_op rfl rfl (runs_none rfl) (does_pickT rfl rfl rfl) ?_ | refine ops_op rfl rfl (runs_none rfl) (does_pickF rfl rfl rfl) ?_)
  all_goals refine ops_nil ?_
  all_goals (repeat (first | refine aw_seq ?_ | refine ath_n ?_ | refine aw_skip ?_ | refine abl_n ?_ | refine aw_block ?_))
  all_goals (first | refine aw_true rfl ?_ | refine aw_false rfl ?_)
  all_goals (repeat (first | refine aw_seq ?_ | refine ath_n ?_ | refine aw_skip ?_ | refine abl_n ?_ | refine aw_block ?_))
  all_goals first
    | skip
      refine aw_region ?_
      refine ops_op rfl rfl (runs_none rfl) (does_build rfl ti33 tp33 rfl rfl) ?_
      refine ops_eff rfl (runs_none rfl) (does_store rfl ti33 rfl rfl rfl rfl rfl rfl (by decide) (by decide)) ?_
      refine ops_op rfl rfl (runs_none rfl) (mv_s (.inr rfl) rfl) ?_
      refine ops_nil ?_
      repeat (first | refine aw_seq ?_ | refine ath_n ?_ | refine aw_skip ?_ | refine abl_n ?_ | refine aw_block ?_)
      (refine aw_ret ?_; repeat (first | refine ath_r ?_ | refine abl_r ?_))
      exact post_zc (N := 0) (.inr rfl) rfl rfl rfl rfl rfl (by rw [HI, if_pos (by first | exact .inr (.inl (by omega)) | exact .inr (.inr (by omega)))])
    | skip
  rw [if_neg (by rw [hwt]; simp; omega)] at HI
  obtain ⟨kp, hkp⟩ := Int.eq_ofNat_of_zero_le hen.1.1
  obtain ⟨np, hnp⟩ := Int.eq_ofNat_of_zero_le (show 0 ≤ n.places by omega)
  have hone := roneN_pf (P := P) n np kp hnp (by omega) (by omega)
  rw [← hkp] at hone
  have hnt : n.places.toNat = np := by omega
  have hon1 : oneE n n.source = (oneL np n.source, 0) := by rw [oneE, hvn, hnt]; rfl
  have hmk1 := one_markN hvn n.source
  rw [hnt] at hmk1
  rw [hon1] at HI
  generalize oneL np n.source = m0 at hone HI hmk1
  refine aw_region ?_
  first | refine ops_op rfl rfl (runs_none rfl) (does_load_refw rfl ta24 ti24 rfl rfl) ?_ | refine ops_op rfl rfl (runs_none rfl) (does_load_whole rfl ta24 ti24 rfl rfl rfl rfl rfl) ?_ | refine ops_op rfl rfl (runs_none rfl) (does_load_refs rfl ta24 ti24 rfl (Nat.le_of_ble_eq_true rfl)) ?_ | refine ops_op rfl rfl (runs_none rfl) (does_load_ptrs rfl ta24 ti24 rfl rfl rfl rfl (Nat.le_of_ble_eq_true rfl)) ?_
  first | refine ops_op rfl rfl (runs_none rfl) (does_fieldAddr_ptr rfl tf24_2 (by decide) rfl) ?_ | refine ops_op rfl rfl (runs_none rfl) (does_fieldAddr_ref rfl tf24_2 (by decide) rfl) ?_
  first | refine ops_op rfl rfl (runs_none rfl) (does_load_ref rfl ta3 rfl) ?_ | refine ops_op rfl rfl (runs_none rfl) (does_load_ptr rfl ta3 rfl rfl rfl rfl rfl) ?_
  refine ops_op rfl rfl (runs_none rfl) (does_call rfl rfl (hone) (evc_cons rfl (evc_cons rfl evc_nil))) ?_
  first | refine ops_op rfl rfl (runs_none rfl) (lit1_s rfl ts56 ti25 rfl rfl rfl rfl) ?_ | refine ops_op rfl rfl (runs_none rfl) (lit1_sl rfl ts56 ti25 rfl rfl rfl rfl) ?_ | refine ops_op rfl rfl (runs_none rfl) (does_litA rfl ts56 ti25 rfl rfl (by decide) (by decide) rfl rfl rfl) ?_
  first | refine ops_op rfl rfl (runs_none rfl) (mv_own (.inr rfl) rfl) ?_ | refine ops_op rfl rfl (runs_none rfl) (mv_sl (.inr rfl) rfl) ?_ | refine ops_op rfl rfl (runs_none rfl) (mv_s (.inr rfl) rfl) ?_ | refine ops_op rfl rfl (runs_none rfl) (mv_emp (.inr rfl) rfl) ?_ | refine ops_op rfl rfl (runs_none rfl) (mv_sub (.inr rfl) rfl) ?_
  refine ops_nil ?_
  repeat (first | refine aw_seq ?_ | refine ath_n ?_ | refine aw_skip ?_ | refine abl_n ?_ | refine aw_block ?_)
  refine aw_region ?_
  first | refine ops_op rfl rfl (runs_none rfl) (mv_own (.inr rfl) rfl) ?_ | refine ops_op rfl rfl (runs_none rfl) (mv_sl (.inr rfl) rfl) ?_ | refine ops_op rfl rfl (runs_none rfl) (mv_s (.inr rfl) rfl) ?_ | refine ops_op rfl rfl (runs_none rfl) (mv_emp (.inr rfl) rfl) ?_ | refine ops_op rfl rfl (runs_none rfl) (mv_sub (.inr rfl) rfl) ?_
  refine ops_nil ?_
  repeat (first | refine aw_seq ?_ | refine ath_n ?_ | refine aw_skip ?_ | refine abl_n ?_ | refine aw_block ?_)
  refine aw_weak (wk_own (d := 10) 1 rfl (.inr rfl)) ?_
  refine aw_region ?_
  refine ops_op rfl rfl (runs_none rfl) (mv_s (.inr rfl) rfl) ?_
  refine ops_nil ?_
  repeat (first | refine aw_seq ?_ | refine ath_n ?_ | refine aw_skip ?_ | refine abl_n ?_ | refine aw_block ?_)
  obtain ⟨R0, hR0⟩ : ∃ R0, wExp n wts most (most.toNat + 1) 0 ([m0], []) = R0 := ⟨_, rfl⟩
  replace HI : R = finE (wExp n wts most (most.toNat + 1) 0 ([m0], [])) := HI
  rw [hR0] at HI
  refine aw_loops (S := Nat × WX) (fun p => [(1, eL eI wts), (2, eI most), (3, .ref (eN n).cells), (6, .ptr 0 1 0 0), (9, .own 1 1 p.2.1.length), (10, .own 2 1 p.1), (11, eI p.1)])
    (fun p => [.row 1 [zCA], .row 1 (p.2.1.map (eL eI)), .row 1 (p.2.2.map (eL eI))])
    (fun p => WE n most p.2 ∧ p.2.2.length = p.1 ∧ wExp n wts most (most.toNat + 1 - p.1) p.1 p.2 = R0) (fun p => most.toNat + 1 - p.1) (0, ([m0], []))
    (wk_st [0, 1, 2] (by decide) ⟨⟨_, rfl, .rowE zCA_lo rfl⟩, ⟨_, rfl, .rowE (rows_lo [m0]) rfl⟩, ⟨_, rfl, .rowE (by simp) rfl⟩, trivial⟩ ⟨.lo _ lo_I, .lo _ (.s _), .lo _ hln, .ptr 0 0 1 0 0 rfl, .own _ _ _ _ _ rfl rfl, .own _ _ _ _ _ rfl rfl, .lo _ (.s _), trivial⟩) ⟨⟨fun m hm => by simp at hm; subst hm; exact hmk1, by show (1 : Int) ≤ most; omega, by simp, by simp⟩, rfl, hR0⟩ (fun p hp => ?_)
  obtain ⟨i, s⟩ := p
  obtain ⟨hs, hi, hE⟩ := hp
  replace hs : WE n most s := hs
  replace hi : s.2.length = i := hi
  replace hE : wExp n wts most (most.toNat + 1 - i) i s = R0 := hE
  have hle := hs.len
  have hle2 := hs.le
  repeat (first | refine aw_seq ?_ | refine ath_n ?_ | refine aw_skip ?_ | refine abl_n ?_ | refine aw_block ?_)
  all_goals refine aw_region ?_
  all_goals refine ops_op rfl rfl (runs_none rfl) (mv_s (.inl rfl) rfl) ?_
  all_goals (first | refine ops_op rfl rfl (runs_none rfl) (mv_own (.inl rfl) rfl) ?_ | refine ops_op rfl rfl (runs_none rfl) (mv_sl (.inl rfl) rfl) ?_ | refine ops_op rfl rfl (runs_none rfl) (mv_s (.inl rfl) rfl) ?_ | refine ops_op rfl rfl (runs_none rfl) (mv_emp (.inl rfl) rfl) ?_ | refine ops_op rfl rfl (runs_none rfl) (mv_sub (.inl rfl) rfl) ?_)
  all_goals (first | refine ops_op rfl rfl (runs_none rfl) (does_len_map rfl ts56 rfl) ?_ | refine ops_op rfl rfl (runs_none rfl) (does_len_sl rfl ts56 rfl) ?_ | refine ops_op rfl rfl (runs_none rfl) (does_len_own rfl ts56 rfl) ?_ | refine ops_op rfl rfl (runs_none rfl) (does_len_s rfl ts56 rfl) ?_ | refine ops_op rfl rfl (runs_none rfl) (does_len_emp rfl ts56 rfl) ?_ | refine ops_op rfl rfl (runs_none rfl) (does_len_sub rfl ts56 rfl) ?_)
  all_goals (first | refine ops_opP rfl rfl (runs_none rfl) (does_lss rfl rfl rfl) (fun h69 => ?_) (fun h69 => ?_) | refine ops_opB rfl rfl (runs_none rfl) (does_lss rfl rfl rfl) (fun h69 => ?_) (fun h69 => ?_))
  all_goals refine ops_nil ?_
  all_goals (repeat (first | refine aw_seq ?_ | refine ath_n ?_ | refine aw_skip ?_ | refine abl_n ?_ | refine aw_block ?_))
  all_goals (first | refine aw_true rfl ?_ | refine aw_false rfl ?_)
  all_goals (repeat (first | refine aw_seq ?_ | refine ath_n ?_ | refine aw_skip ?_ | refine abl_n ?_ | refine aw_block ?_))
  all_goals dsimp only at h69
  rotate_left 1
  · have e : i = s.1.length := by omega
    have hR : R0 = .inr s := by
      rw [← hE, show most.toNat + 1 - i = most.toNat - i + 1 by omega, wExp_eq, if_neg (by omega)]
    rw [hR] at HI
    replace HI : R = (chF s, 0) := HI
    subst HI
    clear hE hR hR0 hmk1 hv hone
    have hrow : ∀ k, k < i → RowOk i (gti s.2 k) := fun k hk => by rw [e]; exact hs.rows _ (gti_mem (by omega))
    have hi20 : i ≤ 20 := by omega
    have hchl : (chF s).length = i := by unfold chF; simp; omega
    (refine aw_exit ?_; repeat (first | refine ath_x ?_ | refine abl_hit ?_ | refine abl_miss rfl ?_ | refine abl_n ?_ | refine ath_n ?_ | refine aw_seq ?_ | refine aw_skip ?_ | refine aw_block ?_))
    refine aw_region ?_
    refine ops_op rfl rfl (runs_none rfl) (does_alloc rfl ti33 rfl rfl) ?_
    refine ops_nil ?_
    repeat (first | refine aw_seq ?_ | refine ath_n ?_ | refine aw_skip ?_ | refine abl_n ?_ | refine aw_block ?_)
    refine aw_weak (wk_ownC (id := 3) (sz2 := 1) (e' := .agg [.own 4 1 0]) (pre := []) (post := []) rfl rfl rfl) ?_
    refine aw_region ?_
    refine ops_op rfl rfl (runs_none rfl) (mv_s (.inr rfl) rfl) ?_
    refine ops_nil ?_
    repeat (first | refine aw_seq ?_ | refine ath_n ?_ | refine aw_skip ?_ | refine abl_n ?_ | refine aw_block ?_)
    refine aw_loops (S := Nat) (fun k => [(6, .ptr 0 1 0 0), (9, .own 1 1 i), (10, .own 2 1 i), (17, .ptr 3 1 0 0), (18, eI k)])
      (fun k => [.row 1 [zCA], .row 1 (s.1.map (eL eI)), .row 1 (s.2.map (eL eI)), .row 1 [.agg [.own 4 1 k]], .row 1 (((chF s).take k).map (eL eF))]) (fun k => k ≤ i) (fun k => i - k) 0
      (wk_st [0, 1, 2, 3, 4] (by decide) ⟨⟨_, rfl, .rowE zCA_lo rfl⟩, ⟨_, rfl, .rowE (rows_lo _) rfl⟩, ⟨_, rfl, .rowE (rows_lo _) rfl⟩, ⟨_, rfl, obRn_agg (.cons (.own _ _ _ _ _ rfl rfl) .nil)⟩, ⟨_, rfl, .rowE (by simp) rfl⟩, trivial⟩ ⟨.ptr 0 0 1 0 0 rfl, .own _ _ _ _ _ rfl e.symm, .own _ _ _ _ _ rfl rfl, .ptr 3 3 1 0 0 rfl, .lo _ (.s _), trivial⟩) (Nat.zero_le _) (fun k hk => ?_)
    have hsl2 : (s.2.map (eL eI)).length = i := by simp [hi]
    repeat (first | refine aw_seq ?_ | refine ath_n ?_ | refine aw_skip ?_ | refine abl_n ?_ | refine aw_block ?_)
    all_goals refine aw_region ?_
    all_goals refine ops_op rfl rfl (runs_none rfl) (mv_s (.inl rfl) rfl) ?_
    all_goals (first | refine ops_op rfl rfl (runs_none rfl) (mv_own (.inl rfl) rfl) ?_ | refine ops_op rfl rfl (runs_none rfl) (mv_sl (.inl rfl) rfl) ?_ | refine ops_op rfl rfl (runs_none rfl) (mv_s (.inl rfl) rfl) ?_ | refine ops_op rfl rfl (runs_none rfl) (mv_emp (.inl rfl) rfl) ?_ | refine ops_op rfl rfl (runs_none rfl) (mv_sub (.inl rfl) rfl) ?_)
    all_goals (first | refine ops_op rfl rfl (runs_none rfl) (does_len_map rfl ts56 rfl) ?_ | refine ops_op rfl rfl (runs_none rfl) (does_len_sl rfl ts56 rfl) ?_ | refine ops_op rfl rfl (runs_none rfl) (does_len_own rfl ts56 rfl) ?_ | refine ops_op rfl rfl (runs_none rfl) (does_len_s rfl ts56 rfl) ?_ | refine ops_op rfl rfl (runs_none rfl) (does_len_emp rfl ts56 rfl) ?_ | refine ops_op rfl rfl (runs_none rfl) (does_len_sub rfl ts56 rfl) ?_)
    all_goals (first | refine ops_opP rfl rfl (runs_none rfl) (does_lss rfl rfl rfl) (fun h138 => ?_) (fun h138 => ?_) | refine ops_opB rfl rfl (runs_none rfl) (does_lss rfl rfl rfl) (fun h138 => ?_) (fun h138 => ?_))
    all_goals refine ops_nil ?_
    all_goals (repeat (first | refine aw_seq ?_ | refine ath_n ?_ | refine aw_skip ?_ | refine abl_n ?_ | refine aw_block ?_))
    all_goals (first | refine aw_true rfl ?_ | refine aw_false rfl ?_)
    all_goals (repeat (first | refine aw_seq ?_ | refine ath_n ?_ | refine aw_skip ?_ | refine abl_n ?_ | refine aw_block ?_))
    · have hlt : k < i := by omega
      have hRO := hrow k hlt
      have hcell := fun j h => cell_make (i := k) (j := j) hRO h
      have hck : (chF s)[k]? = some (rowF i k (gti s.2 k)) := by
        unfold chF
        rw [List.getElem?_map, List.getElem?_range (by omega), ← e]; rfl
      have hrg : (s.2.map (eL eI))[k]? = some (eL eI (gti s.2 k)) := ix_map (by omega)
      generalize gti s.2 k = r at hRO hcell hck hrg
      have hnn := lsum_nn r hRO.nn
      have hrl := hRO.r20
      have hbg := hRO.big
      have htk0 : ∀ j, 0 ≤ lsum (r.take j) ∧ lsum (r.take j) ≤ 60000 := fun j => by
        have h1 := lsum_app (r.take j) (r.drop j)
        rw [List.take_append_drop] at h1
        have h2 := (lsum_nn (r.take j) (fun t => take_nnN hRO.nn j t)).1
        have h3 := (lsum_nn (r.drop j) (fun t => drop_nnN hRO.nn j t)).1
        omega
      refine aw_region ?_
      refine ops_op rfl rfl (runs_none rfl) (mv_s (.inr rfl) rfl) ?_
      refine ops_nil ?_
      repeat (first | refine aw_seq ?_ | refine ath_n ?_ | refine aw_skip ?_ | refine abl_n ?_ | refine aw_block ?_)
      refine aw_region ?_
      refine ops_op rfl rfl (runs_none rfl) (mv_s (.inr rfl) rfl) ?_
      refine ops_nil ?_
      repeat (first | refine aw_seq ?_ | refine ath_n ?_ | refine aw_skip ?_ | refine abl_n ?_ | refine aw_block ?_)
      refine aw_loops (S := Nat) (fun j => [(6, .ptr 0 1 0 0), (9, .own 1 1 i), (10, .own 2 1 i), (17, .ptr 3 1 0 0), (18, eI k), (19, eI (lsum (r.take j))), (20, eI j)])
        (fun _ => [.row 1 [zCA], .row 1 (s.1.map (eL eI)), .row 1 (s.2.map (eL eI)), .row 1 [.agg [.own 4 1 k]], .row 1 (((chF s).take k).map (eL eF))]) (fun j => j ≤ i) (fun j => i - j) 0 (wk_sub _ ⟨rfl, rfl, rfl, rfl, rfl, rfl, rfl, trivial⟩) (Nat.zero_le _) (fun j hj => ?_)
      repeat (first | refine aw_seq ?_ | refine ath_n ?_ | refine aw_skip ?_ | refine abl_n ?_ | refine aw_block ?_)
      all_goals refine aw_region ?_
      all_goals refine ops_op rfl rfl (runs_none rfl) (mv_s (.inl rfl) rfl) ?_
      all_goals (first | refine ops_op rfl rfl (runs_none rfl) (mv_own (.inl rfl) rfl) ?_ | refine ops_op rfl rfl (runs_none rfl) (mv_sl (.inl rfl) rfl) ?_ | refine ops_op rfl rfl (runs_none rfl) (mv_s (.inl rfl) rfl) ?_ | refine ops_op rfl rfl (runs_none rfl) (mv_emp (.inl rfl) rfl) ?_ | refine ops_op rfl rfl (runs_none rfl) (mv_sub (.inl rfl) rfl) ?_)
      all_goals (first | refine ops_op rfl rfl (runs_none rfl) (does_len_map rfl ts56 rfl) ?_ | refine ops_op rfl rfl (runs_none rfl) (does_len_sl rfl ts56 rfl) ?_ | refine ops_op rfl rfl (runs_none rfl) (does_len_own rfl ts56 rfl) ?_ | refine ops_op rfl rfl (runs_none rfl) (does_len_s rfl ts56 rfl) ?_ | refine ops_op rfl rfl (runs_none rfl) (does_len_emp rfl ts56 rfl) ?_ | refine ops_op rfl rfl (runs_none rfl) (does_len_sub rfl ts56 rfl) ?_)
      all_goals (first | refine ops_opP rfl rfl (runs_none rfl) (does_lss rfl rfl rfl) (fun h144 => ?_) (fun h144 => ?_) | refine ops_opB rfl rfl (runs_none rfl) (does_lss rfl rfl rfl) (fun h144 => ?_) (fun h144 => ?_))
      all_goals refine ops_nil ?_
      all_goals (repeat (first | refine aw_seq ?_ | refine ath_n ?_ | refine aw_skip ?_ | refine abl_n ?_ | refine aw_block ?_))
      all_goals (first | refine aw_true rfl ?_ | refine aw_false rfl ?_)
      all_goals (repeat (first | refine aw_seq ?_ | refine ath_n ?_ | refine aw_skip ?_ | refine abl_n ?_ | refine aw_block ?_))
      · have hjt : j < i := by omega
        have hir : (r.map eI)[j]? = some (eI (gti r j)) := ix_map (by omega)
        have hts : lsum (r.take j) + gti r j = lsum (r.take (j + 1)) := by
          rw [List.take_succ_eq_append_getElem (by omega), lsum_app]
          have : gti r j = r[j]'(by omega) := by unfold Go.Proofs.YtanfaepjamkbjaaGreat.gti; rw [List.getElem?_eq_getElem (by omega)]; rfl
          rw [this]; simp [lsum]
        have hb1 := htk0 (j + 1)
        refine aw_region ?_
        refine ops_op rfl rfl (runs_none rfl) (mv_s (.inl rfl) rfl) ?_
        first | refine ops_op rfl rfl (runs_none rfl) (mv_own (.inl rfl) rfl) ?_ | refine ops_op rfl rfl (runs_none rfl) (mv_sl (.inl rfl) rfl) ?_ | refine ops_op rfl rfl (runs_none rfl) (mv_s (.inl rfl) rfl) ?_ | refine ops_op rfl rfl (runs_none rfl) (mv_emp (.inl rfl) rfl) ?_ | refine ops_op rfl rfl (runs_none rfl) (mv_sub (.inl rfl) rfl) ?_
        refine ops_op rfl rfl (runs_none rfl) (mv_s (.inl rfl) rfl) ?_
        first | refine ops_op rfl rfl (runs_none rfl) (does_index_sl rfl ts56 ti25 rfl rfl rfl hlt rfl) ?_ | refine ops_op rfl rfl (runs_none rfl) (does_index_own rfl ts56 ti25 rfl rfl rfl hlt) ?_ | refine ops_op rfl rfl (runs_none rfl) (does_index_sub rfl ts56 ti25 rfl rfl rfl hlt) ?_
        first | refine ops_op rfl rfl (runs_none rfl) (does_load_ref rfl ta25 rfl) ?_ | refine ops_op rfl rfl (runs_none rfl) (does_load_ptr rfl ta25 rfl rfl rfl hrg rfl) ?_
        refine ops_op rfl rfl (runs_none rfl) (mv_s (.inl rfl) rfl) ?_
        first | refine ops_op rfl rfl (runs_none rfl) (does_index_sl rfl ts25 ti3 rfl rfl rfl hir rfl) ?_ | refine ops_op rfl rfl (runs_none rfl) (does_index_own rfl ts25 ti3 rfl rfl rfl hir) ?_ | refine ops_op rfl rfl (runs_none rfl) (does_index_sub rfl ts25 ti3 rfl rfl rfl hir) ?_
        first | refine ops_op rfl rfl (runs_none rfl) (does_load_ref rfl ta3 rfl) ?_ | refine ops_op rfl rfl (runs_none rfl) (does_load_ptr rfl ta3 rfl rfl rfl rfl rfl) ?_
        refine ops_op rfl rfl (runs_none rfl) (does_add rfl rfl rfl (show IntKind.i64.wrap _ = lsum (r.take (j + 1)) by rw [IntWalk.i64_in _ (by omega)]; exact hts)) ?_
        refine ops_op rfl rfl (runs_none rfl) (mv_s (.inr rfl) rfl) ?_
        refine ops_nil ?_
        repeat (first | refine aw_seq ?_ | refine ath_n ?_ | refine aw_skip ?_ | refine abl_n ?_ | refine aw_block ?_)
        refine aw_region ?_
        refine ops_op rfl rfl (runs_none rfl) (mv_s (.inl rfl) rfl) ?_
        refine ops_op rfl rfl (runs_none rfl) (does_add rfl rfl rfl (IntWalk.i64_in _ (by omega))) ?_
        refine ops_op rfl rfl (runs_none rfl) (mv_s (.inr rfl) rfl) ?_
        refine ops_nil ?_
        repeat (first | refine aw_seq ?_ | refine ath_n ?_ | refine aw_skip ?_ | refine abl_n ?_ | refine aw_block ?_)
        exact ⟨j + 1, by omega, by omega, wk_sub _ ⟨rfl, rfl, rfl, rfl, rfl, rfl, rfl, trivial⟩⟩
      have ej : j = i := by omega
      subst ej
      have hts : lsum (r.take j) = lsum r := lsum_take r j hRO.hi
      rw [hts]
      clear htk0 hts
      (refine aw_exit ?_; repeat (first | refine ath_x ?_ | refine abl_hit ?_ | refine abl_miss rfl ?_ | refine abl_n ?_ | refine ath_n ?_ | refine aw_seq ?_ | refine aw_skip ?_ | refine aw_block ?_))
      refine aw_region ?_
      first | refine ops_op rfl rfl (runs_none rfl) (mv_own (.inr rfl) rfl) ?_ | refine ops_op rfl rfl (runs_none rfl) (mv_sl (.inr rfl) rfl) ?_ | refine ops_op rfl rfl (runs_none rfl) (mv_s (.inr rfl) rfl) ?_ | refine ops_op rfl rfl (runs_none rfl) (mv_emp (.inr rfl) rfl) ?_ | refine ops_op rfl rfl (runs_none rfl) (mv_sub (.inr rfl) rfl) ?_
      refine ops_nil ?_
      repeat (first | refine aw_seq ?_ | refine ath_n ?_ | refine aw_skip ?_ | refine abl_n ?_ | refine aw_block ?_)
      refine aw_weak (wk_own (d := 21) 2 rfl (.inr rfl)) ?_
      refine aw_region ?_
      refine ops_op rfl rfl (runs_none rfl) (mv_s (.inr rfl) rfl) ?_
      refine ops_nil ?_
      repeat (first | refine aw_seq ?_ | refine ath_n ?_ | refine aw_skip ?_ | refine abl_n ?_ | refine aw_block ?_)
      have hrwl : (rowF j k r).length = j := by simp [rowF]
      refine aw_loops (S := Nat) (fun t => [(6, .ptr 0 1 0 0), (9, .own 1 1 j), (10, .own 2 1 j), (17, .ptr 3 1 0 0), (18, eI k), (19, eI (lsum r)), (21, .own 5 2 t), (22, eI t)])
        (fun t => [.row 1 [zCA], .row 1 (s.1.map (eL eI)), .row 1 (s.2.map (eL eI)), .row 1 [.agg [.own 4 1 k]], .row 1 (((chF s).take k).map (eL eF)), .row 2 (((rowF j k r).take t).map eF)]) (fun t => t ≤ j) (fun t => j - t) 0 (wk_sub _ ⟨rfl, rfl, rfl, rfl, rfl, rfl, rfl, rfl, trivial⟩) (Nat.zero_le _) (fun t ht => ?_)
      have htl : ((rowF j k r).take t).length = t := by rw [List.length_take, hrwl]; omega
      have htl2 : (((rowF j k r).take t).map eF).length = t := by rw [List.length_map, htl]
      repeat (first | refine aw_seq ?_ | refine ath_n ?_ | refine aw_skip ?_ | refine abl_n ?_ | refine aw_block ?_)
      all_goals refine aw_region ?_
      all_goals refine ops_op rfl rfl (runs_none rfl) (mv_s (.inl rfl) rfl) ?_
      all_goals (first | refine ops_op rfl rfl (runs_none rfl) (mv_own (.inl rfl) rfl) ?_ | refine ops_op rfl rfl (runs_none rfl) (mv_sl (.inl rfl) rfl) ?_ | refine ops_op rfl rfl (runs_none rfl) (mv_s (.inl rfl) rfl) ?_ | refine ops_op rfl rfl (runs_none rfl) (mv_emp (.inl rfl) rfl) ?_ | refine ops_op rfl rfl (runs_none rfl) (mv_sub (.inl rfl) rfl) ?_)
      all_goals (first | refine ops_op rfl rfl (runs_none rfl) (does_len_map rfl ts56 rfl) ?_ | refine ops_op rfl rfl (runs_none rfl) (does_len_sl rfl ts56 rfl) ?_ | refine ops_op rfl rfl (runs_none rfl) (does_len_own rfl ts56 rfl) ?_ | refine ops_op rfl rfl (runs_none rfl) (does_len_s rfl ts56 rfl) ?_ | refine ops_op rfl rfl (runs_none rfl) (does_len_emp rfl ts56 rfl) ?_ | refine ops_op rfl rfl (runs_none rfl) (does_len_sub rfl ts56 rfl) ?_)
      all_goals (first | refine ops_opP rfl rfl (runs_none rfl) (does_lss rfl rfl rfl) (fun h159 => ?_) (fun h159 => ?_) | refine ops_opB rfl rfl (runs_none rfl) (does_lss rfl rfl rfl) (fun h159 => ?_) (fun h159 => ?_))
      all_goals refine ops_nil ?_
      all_goals (repeat (first | refine aw_seq ?_ | refine ath_n ?_ | refine aw_skip ?_ | refine abl_n ?_ | refine aw_block ?_))
      all_goals (first | refine aw_true rfl ?_ | refine aw_false rfl ?_)
      all_goals (repeat (first | refine aw_seq ?_ | refine ath_n ?_ | refine aw_skip ?_ | refine abl_n ?_ | refine aw_block ?_))
      · have hjt : t < j := by omega
        have hir : (r.map eI)[t]? = some (eI (gti r t)) := ix_map (by omega)
        have hzr := zeroR_pf (P := P)
        have hon := oneR_pf (P := P)
        have hcf : cellF k t r = if 0 < lsum r then (mkF (gti r t) (lsum r)).getD ⟨0, 1⟩ else if k = t then ⟨1, 1⟩ else ⟨0, 1⟩ := rfl
        have hgt := hnn.2 t
        have hgt0 := hRO.nn t
        have hmk := rMake_pf (P := P) (gti r t) (lsum r) ⟨by omega, by omega⟩ ⟨by omega, by omega⟩
        have hcell2 : (rowF j k r)[t]? = some (cellF k t r) := by
          unfold rowF
          rw [List.getElem?_map, List.getElem?_range hjt]; rfl
        have htk : (rowF j k r).take (t + 1) = (rowF j k r).take t ++ [cellF k t r] := by rw [List.take_succ_eq_append_getElem (by omega)]; congr 2; exact (List.getElem?_eq_some_iff.1 hcell2).2
        have hcm := fun h => makeE_some (by omega) (hcell t h)
        generalize cellF k t r = c at hcell2 htk hcf hcm
        refine aw_region ?_
        refine ops_op rfl rfl (runs_none rfl) (does_call rfl rfl (hzr) evc_nil) ?_
        refine ops_op rfl rfl (runs_none rfl) (does_alloc rfl ti44 rfl rfl) ?_
        refine ops_eff rfl (runs_none rfl) (does_store rfl ti44 rfl rfl rfl rfl rfl rfl (by decide) (by decide)) ?_
        refine ops_nil ?_
        repeat (first | refine aw_seq ?_ | refine ath_n ?_ | refine aw_skip ?_ | refine abl_n ?_ | refine aw_block ?_)
        refine aw_region ?_
        refine ops_op rfl rfl (runs_none rfl) (mv_s (.inl rfl) rfl) ?_
        refine ops_op rfl rfl (runs_none rfl) (does_gtr rfl rfl rfl) ?_
        refine ops_nil ?_
        repeat (first | refine aw_seq ?_ | refine ath_n ?_ | refine aw_skip ?_ | refine abl_n ?_ | refine aw_block ?_)
        refine aw_cuts (S := Unit) (fun _ => [(6, .ptr 0 1 0 0), (9, .own 1 1 j), (10, .own 2 1 j), (17, .ptr 3 1 0 0), (18, eI k), (19, eI (lsum r)), (21, .own 5 2 t), (22, eI t), (23, .ptr 6 2 0 0)])
          (fun _ => [.row 1 [zCA], .row 1 (s.1.map (eL eI)), .row 1 (s.2.map (eL eI)), .row 1 [.agg [.own 4 1 k]], .row 1 (((chF s).take k).map (eL eF)), .row 2 (((rowF j k r).take t).map eF), .row 2 [eF c]]) (fun _ => True) ?_ (fun _ _ => ?_)
        · refine aw_if rfl (fun h164 => ?_) (fun h164 => ?_)
          · rw [hcm h164] at hmk
            replace hmk : Pure P 33 [eI (gti r t), eI (lsum r)] (.tup [eF c, eI 0]) := hmk
            repeat (first | refine aw_seq ?_ | refine ath_n ?_ | refine aw_skip ?_ | refine abl_n ?_ | refine aw_block ?_)
            refine aw_region ?_
            first | refine ops_op rfl rfl (runs_none rfl) (mv_own (.inl rfl) rfl) ?_ | refine ops_op rfl rfl (runs_none rfl) (mv_sl (.inl rfl) rfl) ?_ | refine ops_op rfl rfl (runs_none rfl) (mv_s (.inl rfl) rfl) ?_ | refine ops_op rfl rfl (runs_none rfl) (mv_emp (.inl rfl) rfl) ?_ | refine ops_op rfl rfl (runs_none rfl) (mv_sub (.inl rfl) rfl) ?_
            refine ops_op rfl rfl (runs_none rfl) (mv_s (.inl rfl) rfl) ?_
            first | refine ops_op rfl rfl (runs_none rfl) (does_index_sl rfl ts56 ti25 rfl rfl rfl hlt rfl) ?_ | refine ops_op rfl rfl (runs_none rfl) (does_index_own rfl ts56 ti25 rfl rfl rfl hlt) ?_ | refine ops_op rfl rfl (runs_none rfl) (does_index_sub rfl ts56 ti25 rfl rfl rfl hlt) ?_
            first | refine ops_op rfl rfl (runs_none rfl) (does_load_ref rfl ta25 rfl) ?_ | refine ops_op rfl rfl (runs_none rfl) (does_load_ptr rfl ta25 rfl rfl rfl hrg rfl) ?_
            refine ops_op rfl rfl (runs_none rfl) (mv_s (.inl rfl) rfl) ?_
            first | refine ops_op rfl rfl (runs_none rfl) (does_index_sl rfl ts25 ti3 rfl rfl rfl hir rfl) ?_ | refine ops_op rfl rfl (runs_none rfl) (does_index_own rfl ts25 ti3 rfl rfl rfl hir) ?_ | refine ops_op rfl rfl (runs_none rfl) (does_index_sub rfl ts25 ti3 rfl rfl rfl hir) ?_
            first | refine ops_op rfl rfl (runs_none rfl) (does_load_ref rfl ta3 rfl) ?_ | refine ops_op rfl rfl (runs_none rfl) (does_load_ptr rfl ta3 rfl rfl rfl rfl rfl) ?_
            refine ops_op rfl rfl (runs_none rfl) (mv_s (.inl rfl) rfl) ?_
            refine ops_op rfl rfl (runs_none rfl) (does_call rfl rfl (hmk) (evc_cons rfl (evc_cons rfl evc_nil))) ?_
            first | refine ops_op rfl rfl (runs_none rfl) (mv_tup (.inl rfl) rfl) ?_ | refine ops_op rfl rfl (runs_none rfl) (mv_s (.inl rfl) rfl) ?_
            refine ops_op rfl rfl (runs_none rfl) (does_extract rfl rfl rfl) ?_
            refine ops_op rfl rfl (runs_none rfl) (does_extract rfl rfl rfl) ?_
            refine ops_eff rfl (runs_none rfl) (does_store rfl ti44 rfl rfl rfl rfl rfl rfl (by decide) (by decide)) ?_
            refine ops_nil ?_
            repeat (first | refine aw_seq ?_ | refine ath_n ?_ | refine aw_skip ?_ | refine abl_n ?_ | refine aw_block ?_)
            exact ⟨(), trivial, wk_sub _ ⟨rfl, rfl, rfl, rfl, rfl, rfl, rfl, rfl, rfl, trivial⟩⟩
          · rw [if_neg h164] at hcf
            repeat (first | refine aw_seq ?_ | refine ath_n ?_ | refine aw_skip ?_ | refine abl_n ?_ | refine aw_block ?_)
            refine aw_region ?_
            refine ops_op rfl rfl (runs_none rfl) (mv_s (.inl rfl) rfl) ?_
            refine ops_op rfl rfl (runs_none rfl) (mv_s (.inl rfl) rfl) ?_
            refine ops_op rfl rfl (runs_none rfl) (does_eql rfl rfl rfl) ?_
            refine ops_nil ?_
            repeat (first | refine aw_seq ?_ | refine ath_n ?_ | refine aw_skip ?_ | refine abl_n ?_ | refine aw_block ?_)
            refine aw_if rfl (fun h179 => ?_) (fun h179 => ?_)
            · rw [if_pos (by omega)] at hcf
              subst hcf
              repeat (first | refine aw_seq ?_ | refine ath_n ?_ | refine aw_skip ?_ | refine abl_n ?_ | refine aw_block ?_)
              refine aw_region ?_
              refine ops_op rfl rfl (runs_none rfl) (does_call rfl rfl (hon) evc_nil) ?_
              refine ops_eff rfl (runs_none rfl) (does_store rfl ti44 rfl rfl rfl rfl rfl rfl (by decide) (by decide)) ?_
              refine ops_nil ?_
              repeat (first | refine aw_seq ?_ | refine ath_n ?_ | refine aw_skip ?_ | refine abl_n ?_ | refine aw_block ?_)
              exact ⟨(), trivial, wk_sub _ ⟨rfl, rfl, rfl, rfl, rfl, rfl, rfl, rfl, rfl, trivial⟩⟩
            · rw [if_neg (by omega)] at hcf
              subst hcf
              repeat (first | refine aw_seq ?_ | refine ath_n ?_ | refine aw_skip ?_ | refine abl_n ?_ | refine aw_block ?_)
              exact ⟨(), trivial, wk_sub _ ⟨rfl, rfl, rfl, rfl, rfl, rfl, rfl, rfl, rfl, trivial⟩⟩
        refine aw_region ?_
        first | refine ops_op rfl rfl (runs_none rfl) (mv_own (.inl rfl) rfl) ?_ | refine ops_op rfl rfl (runs_none rfl) (mv_sl (.inl rfl) rfl) ?_ | refine ops_op rfl rfl (runs_none rfl) (mv_s (.inl rfl) rfl) ?_ | refine ops_op rfl rfl (runs_none rfl) (mv_emp (.inl rfl) rfl) ?_ | refine ops_op rfl rfl (runs_none rfl) (mv_sub (.inl rfl) rfl) ?_
        first | refine ops_op rfl rfl (runs_none rfl) (does_load_refw rfl ta44 ti44 rfl rfl) ?_ | refine ops_op rfl rfl (runs_none rfl) (does_load_whole rfl ta44 ti44 rfl rfl rfl rfl rfl) ?_ | refine ops_op rfl rfl (runs_none rfl) (does_load_refs rfl ta44 ti44 rfl (Nat.le_of_ble_eq_true rfl)) ?_ | refine ops_op rfl rfl (runs_none rfl) (does_load_ptrs rfl ta44 ti44 rfl rfl rfl rfl (Nat.le_of_ble_eq_true rfl)) ?_
        first | refine ops_op rfl rfl (runs_none rfl) (lit1_sF rfl ts46 ti44 rfl rfl rfl rfl) ?_ | refine ops_op rfl rfl (runs_none rfl) (lit1_slF rfl ts46 ti44 rfl rfl rfl rfl (by repeat' (first | exact Lo.s _ | exact Lo.emp | exact Lo.any | exact lo_nil | exact lo_nilE | refine lo_cons ?_ ?_ | refine lo_consE ?_ ?_ | refine lo_map ?_ | refine lo_mapE ?_ | refine Lo.cells ?_ | refine Lo.agg _ ?_ | refine Lo.ref _ ?_ | refine Lo.tup _ ?_ | refine Lo.fn _ _ ?_ | refine Lo.sl _ ?_ | intro _))) ?_ | refine ops_op rfl rfl (runs_none rfl) (does_litAF rfl ts46 ti44 rfl rfl (by decide) (by decide) rfl rfl rfl (by repeat' (first | exact Lo.s _ | exact Lo.emp | exact Lo.any | exact lo_nil | exact lo_nilE | refine lo_cons ?_ ?_ | refine lo_consE ?_ ?_ | refine lo_map ?_ | refine lo_mapE ?_ | refine Lo.cells ?_ | refine Lo.agg _ ?_ | refine Lo.ref _ ?_ | refine Lo.tup _ ?_ | refine Lo.fn _ _ ?_ | refine Lo.sl _ ?_ | intro _))) ?_
        refine ops_op rfl rfl (runs_none rfl) (does_append rfl ts46 ti44 rfl (by decide) rfl rfl htl2.symm rfl (by first | exact .own _ _ _ rfl rfl _ (by first | rfl | simp) | exact .emp | exact .nil | exact .sl _ (by first | simp; done | intro e he; simp at he; obtain ⟨_, _, rfl⟩ := he; rfl)) (by first | omega | (simp; omega) | (unfold maxLen; simp; omega)) (by first | omega | (simp; omega) | (unfold maxLen; simp; omega))) ?_
        first | refine ops_op rfl rfl (runs_none rfl) (mv_own (.inr rfl) rfl) ?_ | refine ops_op rfl rfl (runs_none rfl) (mv_sl (.inr rfl) rfl) ?_ | refine ops_op rfl rfl (runs_none rfl) (mv_s (.inr rfl) rfl) ?_ | refine ops_op rfl rfl (runs_none rfl) (mv_emp (.inr rfl) rfl) ?_ | refine ops_op rfl rfl (runs_none rfl) (mv_sub (.inr rfl) rfl) ?_
        refine ops_nil ?_
        repeat (first | refine aw_seq ?_ | refine ath_n ?_ | refine aw_skip ?_ | refine abl_n ?_ | refine aw_block ?_)
        refine aw_region ?_
        refine ops_op rfl rfl (runs_none rfl) (mv_s (.inl rfl) rfl) ?_
        refine ops_op rfl rfl (runs_none rfl) (does_add rfl rfl rfl (IntWalk.i64_in _ (by omega))) ?_
        refine ops_op rfl rfl (runs_none rfl) (mv_s (.inr rfl) rfl) ?_
        refine ops_nil ?_
        repeat (first | refine aw_seq ?_ | refine ath_n ?_ | refine aw_skip ?_ | refine abl_n ?_ | refine aw_block ?_)
        exact ⟨t + 1, by omega, by omega, wk_st [0, 1, 2, 3, 4, 7] (by decide) ⟨⟨_, rfl, .rowE zCA_lo rfl⟩, ⟨_, rfl, .rowE (rows_lo _) rfl⟩, ⟨_, rfl, .rowE (rows_lo _) rfl⟩, ⟨_, rfl, obRn_agg (.cons (.own _ _ _ _ _ rfl rfl) .nil)⟩, ⟨_, rfl, .rowE (rowsF_lo _) rfl⟩, ⟨_, rfl, .rowE (cellsF_lo _) (by rw [htk, List.map_append]; rfl)⟩, trivial⟩
          ⟨.ptr 0 0 1 0 0 rfl, .own _ _ _ _ _ rfl rfl, .own _ _ _ _ _ rfl rfl, .ptr 3 3 1 0 0 rfl, .lo _ (.s _), .lo _ (.s _), .own _ _ _ _ _ rfl (by rw [htl2]; rfl), .lo _ (by repeat' (first | exact Lo.s _ | exact Lo.emp | exact Lo.any | exact lo_nil | exact lo_nilE | refine lo_cons ?_ ?_ | refine lo_consE ?_ ?_ | refine lo_map ?_ | refine lo_mapE ?_ | refine Lo.cells ?_ | refine Lo.agg _ ?_ | refine Lo.ref _ ?_ | refine Lo.tup _ ?_ | refine Lo.fn _ _ ?_ | refine Lo.sl _ ?_ | intro _)), trivial⟩⟩
      have et : t = j := by omega
      subst et
      have hall : (rowF t k r).take t = rowF t k r := List.take_of_length_le (by omega)
      have htk : (chF s).take (k + 1) = (chF s).take k ++ [rowF t k r] := by rw [List.take_succ_eq_append_getElem (by omega)]; congr 2; exact (List.getElem?_eq_some_iff.1 hck).2
      have hckl : ((chF s).take k).length = k := by rw [List.length_take]; omega
      have hrow3 : (((chF s).take k).map (eL eF)).length = k := by rw [List.length_map, hckl]
      rw [hall]
      (refine aw_exit ?_; repeat (first | refine ath_x ?_ | refine abl_hit ?_ | refine abl_miss rfl ?_ | refine abl_n ?_ | refine ath_n ?_ | refine aw_seq ?_ | refine aw_skip ?_ | refine aw_block ?_))
      refine aw_weak (wk_froz (id := 5) rfl) (aw_weak (wk_sl (d := 21) (id := 5) rfl rfl (by rw [List.length_map]; exact hrwl.symm)) ?_)
      refine aw_region ?_
      first | refine ops_op rfl rfl (runs_none rfl) (does_fieldAddr_ptr rfl tf33_0 (by decide) rfl) ?_ | refine ops_op rfl rfl (runs_none rfl) (does_fieldAddr_ref rfl tf33_0 (by decide) rfl) ?_
      first | refine ops_op rfl rfl (runs_none rfl) (does_load_ref rfl ta31 rfl) ?_ | refine ops_op rfl rfl (runs_none rfl) (does_load_ptr rfl ta31 rfl rfl rfl rfl rfl) ?_
      first | refine ops_op rfl rfl (runs_none rfl) (mv_own (.inl rfl) rfl) ?_ | refine ops_op rfl rfl (runs_none rfl) (mv_sl (.inl rfl) rfl) ?_ | refine ops_op rfl rfl (runs_none rfl) (mv_s (.inl rfl) rfl) ?_ | refine ops_op rfl rfl (runs_none rfl) (mv_emp (.inl rfl) rfl) ?_ | refine ops_op rfl rfl (runs_none rfl) (mv_sub (.inl rfl) rfl) ?_
      first | refine ops_op rfl rfl (runs_none rfl) (lit1_sF rfl ts31 ti46 rfl rfl rfl rfl) ?_ | refine ops_op rfl rfl (runs_none rfl) (lit1_slF rfl ts31 ti46 rfl rfl rfl rfl (by repeat' (first | exact Lo.s _ | exact Lo.emp | exact Lo.any | exact lo_nil | exact lo_nilE | refine lo_cons ?_ ?_ | refine lo_consE ?_ ?_ | refine lo_map ?_ | refine lo_mapE ?_ | refine Lo.cells ?_ | refine Lo.agg _ ?_ | refine Lo.ref _ ?_ | refine Lo.tup _ ?_ | refine Lo.fn _ _ ?_ | refine Lo.sl _ ?_ | intro _))) ?_ | refine ops_op rfl rfl (runs_none rfl) (does_litAF rfl ts31 ti46 rfl rfl (by decide) (by decide) rfl rfl rfl (by repeat' (first | exact Lo.s _ | exact Lo.emp | exact Lo.any | exact lo_nil | exact lo_nilE | refine lo_cons ?_ ?_ | refine lo_consE ?_ ?_ | refine lo_map ?_ | refine lo_mapE ?_ | refine Lo.cells ?_ | refine Lo.agg _ ?_ | refine Lo.ref _ ?_ | refine Lo.tup _ ?_ | refine Lo.fn _ _ ?_ | refine Lo.sl _ ?_ | intro _))) ?_
      refine ops_op rfl rfl (runs_none rfl) (does_append rfl ts31 ti46 rfl (by decide) rfl rfl hrow3.symm rfl (by first | exact .own _ _ _ rfl rfl _ (by first | rfl | simp) | exact .emp | exact .nil | exact .sl _ (by first | simp; done | intro e he; simp at he; obtain ⟨_, _, rfl⟩ := he; rfl)) (by first | omega | (simp; omega) | (unfold maxLen; simp; omega)) (by first | omega | (simp; omega) | (unfold maxLen; simp; omega))) ?_
      first | refine ops_op rfl rfl (runs_none rfl) (does_fieldAddr_ptr rfl tf33_0 (by decide) rfl) ?_ | refine ops_op rfl rfl (runs_none rfl) (does_fieldAddr_ref rfl tf33_0 (by decide) rfl) ?_
      refine ops_eff rfl (runs_none rfl) (does_store rfl ti31 rfl rfl rfl rfl rfl rfl (by decide) (by decide)) ?_
      refine ops_nil ?_
      repeat (first | refine aw_seq ?_ | refine ath_n ?_ | refine aw_skip ?_ | refine abl_n ?_ | refine aw_block ?_)
      refine aw_region ?_
      refine ops_op rfl rfl (runs_none rfl) (mv_s (.inl rfl) rfl) ?_
      refine ops_op rfl rfl (runs_none rfl) (does_add rfl rfl rfl (IntWalk.i64_in _ (by omega))) ?_
      refine ops_op rfl rfl (runs_none rfl) (mv_s (.inr rfl) rfl) ?_
      refine ops_nil ?_
      repeat (first | refine aw_seq ?_ | refine ath_n ?_ | refine aw_skip ?_ | refine abl_n ?_ | refine aw_block ?_)
      exact ⟨k + 1, by omega, by omega, wk_st [0, 1, 2, 3, 6] (by decide) ⟨⟨_, rfl, .rowE zCA_lo rfl⟩, ⟨_, rfl, .rowE (rows_lo _) rfl⟩, ⟨_, rfl, .rowE (rows_lo _) rfl⟩, ⟨_, rfl, obRn_agg (.cons (.own _ _ _ _ _ rfl (by rw [hrow3]; rfl)) .nil)⟩, ⟨_, rfl, .rowE (rowsF_lo _) (by rw [htk, List.map_append]; rfl)⟩, trivial⟩
        ⟨.ptr 0 0 1 0 0 rfl, .own _ _ _ _ _ rfl rfl, .own _ _ _ _ _ rfl rfl, .ptr 3 3 1 0 0 rfl, .lo _ (by repeat' (first | exact Lo.s _ | exact Lo.emp | exact Lo.any | exact lo_nil | exact lo_nilE | refine lo_cons ?_ ?_ | refine lo_consE ?_ ?_ | refine lo_map ?_ | refine lo_mapE ?_ | refine Lo.cells ?_ | refine Lo.agg _ ?_ | refine Lo.ref _ ?_ | refine Lo.tup _ ?_ | refine Lo.fn _ _ ?_ | refine Lo.sl _ ?_ | intro _)), trivial⟩⟩
    · have ek : k = i := by omega
      subst ek
      have hall : (chF s).take k = chF s := List.take_of_length_le (by omega)
      rw [hall]
      (refine aw_exit ?_; repeat (first | refine ath_x ?_ | refine abl_hit ?_ | refine abl_miss rfl ?_ | refine abl_n ?_ | refine ath_n ?_ | refine aw_seq ?_ | refine aw_skip ?_ | refine aw_block ?_))
      refine aw_region ?_
      first | refine ops_op rfl rfl (runs_none rfl) (does_load_refw rfl ta33 ti33 rfl rfl) ?_ | refine ops_op rfl rfl (runs_none rfl) (does_load_whole rfl ta33 ti33 rfl rfl rfl rfl rfl) ?_ | refine ops_op rfl rfl (runs_none rfl) (does_load_refs rfl ta33 ti33 rfl (Nat.le_of_ble_eq_true rfl)) ?_ | refine ops_op rfl rfl (runs_none rfl) (does_load_ptrs rfl ta33 ti33 rfl rfl rfl rfl (Nat.le_of_ble_eq_true rfl)) ?_
      refine ops_eff rfl (runs_none rfl) (does_store rfl ti33 rfl rfl rfl rfl rfl rfl (by decide) (by decide)) ?_
      refine ops_op rfl rfl (runs_none rfl) (mv_s (.inr rfl) rfl) ?_
      refine ops_nil ?_
      repeat (first | refine aw_seq ?_ | refine ath_n ?_ | refine aw_skip ?_ | refine abl_n ?_ | refine aw_block ?_)
      (refine aw_ret ?_; repeat (first | refine ath_r ?_ | refine abl_r ?_))
      exact post_cs (N := 0) (.inr rfl) ta33 ti33 rfl rfl rfl rfl rfl rfl (.agg _ _ rfl (FiniL.cons (.own _ _ _ _ _ rfl rfl (by rw [List.length_map]; exact hchl.symm)) FiniL.nil).2) (.refl _)
  have hlt : i < s.1.length := by omega
  have hf : most.toNat + 1 - i = most.toNat - i + 1 := by omega
  rw [hf, wExp_eq, if_pos hlt] at hE
  obtain ⟨hx0⟩ : Nonempty (markB n (gti s.1 i) = true) := ⟨hs.mks _ (gti_mem hlt)⟩
  have hxi : s.1[i]? = some (gti s.1 i) := gti_get hlt
  have hnext := fun r h => hs.next (i := i) (r := r) (by omega) hwt hpl.2.2 hi.symm hlt h
  generalize gti s.1 i = x at hE hx0 hxi hnext
  generalize hK : (fun r : WS => wExp n wts most (most.toNat - i) (i + 1) (r.1, s.2 ++ [r.2])) = K at hE
  refine aw_region ?_
  refine ops_op rfl rfl (runs_none rfl) (does_make rfl ts25 ti3 rfl rfl (by decide) rfl rfl rfl rfl (by decide) (by decide) (by decide)) ?_
  first | refine ops_op rfl rfl (runs_none rfl) (mv_own (.inr rfl) rfl) ?_ | refine ops_op rfl rfl (runs_none rfl) (mv_sl (.inr rfl) rfl) ?_ | refine ops_op rfl rfl (runs_none rfl) (mv_s (.inr rfl) rfl) ?_ | refine ops_op rfl rfl (runs_none rfl) (mv_emp (.inr rfl) rfl) ?_ | refine ops_op rfl rfl (runs_none rfl) (mv_sub (.inr rfl) rfl) ?_
  refine ops_nil ?_
  repeat (first | refine aw_seq ?_ | refine ath_n ?_ | refine aw_skip ?_ | refine abl_n ?_ | refine aw_block ?_)
  refine aw_region ?_
  refine ops_op rfl rfl (runs_none rfl) (mv_s (.inr rfl) rfl) ?_
  refine ops_nil ?_
  repeat (first | refine aw_seq ?_ | refine ath_n ?_ | refine aw_skip ?_ | refine abl_n ?_ | refine aw_block ?_)
  refine aw_loops (S := Nat × WS) (fun p => [(1, eL eI wts), (2, eI most), (3, .ref (eN n).cells), (6, .ptr 0 1 0 0), (9, .own 1 1 p.2.1.length), (10, .own 2 1 i), (11, eI i), (12, .own 3 1 20), (13, eI p.1)])
    (fun p => [.row 1 [zCA], .row 1 (p.2.1.map (eL eI)), .row 1 (s.2.map (eL eI)), .row 1 (p.2.2.map eI)])
    (fun p => p.1 ≤ n.trans.length ∧ WI n most p.2 ∧ p.2.1[i]? = some x ∧ lsum p.2.2 ≤ 1000 * p.1 ∧ bindE (wRow n wts most x (enabledL x p.1 (n.trans.drop p.1)) p.2) K = R0 ∧ wRow n wts most x (enabledL x p.1 (n.trans.drop p.1)) p.2 = wRow n wts most x (enabledL x 0 n.trans) (s.1, z20)) (fun p => n.trans.length - p.1) (0, (s.1, z20))
    (wk_sub _ ⟨rfl, rfl, rfl, rfl, rfl, rfl, rfl, rfl, rfl, trivial⟩) ⟨Nat.zero_le _, WI.start hs.mks hle, hxi, by show lsum z20 ≤ _; rw [lsum_z20]; simp, hE, rfl⟩ (fun p hp => ?_)
  clear hE hxi
  obtain ⟨q, mk, r⟩ := p
  obtain ⟨hq, hw8, hxi, hsm, hE, hW⟩ := hp
  replace hq : q ≤ n.trans.length := hq
  replace hxi : mk[i]? = some x := hxi
  replace hsm : lsum r ≤ 1000 * q := hsm
  replace hE : bindE (wRow n wts most x (enabledL x q (n.trans.drop q)) (mk, r)) K = R0 := hE
  replace hW : wRow n wts most x (enabledL x q (n.trans.drop q)) (mk, r) = wRow n wts most x (enabledL x 0 n.trans) (s.1, z20) := hW
  have hml : (mk.length : Int) ≤ most := hw8.len
  have hrl : r.length = 20 := hw8.r20
  have hil : i < mk.length := (List.getElem?_eq_some_iff.1 hxi).1
  have hix : (mk.map (eL eI))[i]? = some (eL eI x) := by rw [List.getElem?_map, hxi]; rfl
  have hsl : (mk.map (eL eI)).length = mk.length := by simp
  repeat (first | refine aw_seq ?_ | refine ath_n ?_ | refine aw_skip ?_ | refine abl_n ?_ | refine aw_block ?_)
  all_goals refine aw_region ?_
  all_goals refine ops_op rfl rfl (runs_none rfl) (mv_s (.inl rfl) rfl) ?_
  all_goals (first | refine ops_op rfl rfl (runs_none rfl) (does_fieldAddr_ptr rfl tf24_1 (by decide) rfl) ?_ | refine ops_op rfl rfl (runs_none rfl) (does_fieldAddr_ref rfl tf24_1 (by decide) rfl) ?_)
  all_goals (first | refine ops_op rfl rfl (runs_none rfl) (does_load_ref rfl ta22 rfl) ?_ | refine ops_op rfl rfl (runs_none rfl) (does_load_ptr rfl ta22 rfl rfl rfl rfl rfl) ?_)
  all_goals (first | refine ops_op rfl rfl (runs_none rfl) (does_len_map rfl ts22 rfl) ?_ | refine ops_op rfl rfl (runs_none rfl) (does_len_sl rfl ts22 rfl) ?_ | refine ops_op rfl rfl (runs_none rfl) (does_len_own rfl ts22 rfl) ?_ | refine ops_op rfl rfl (runs_none rfl) (does_len_s rfl ts22 rfl) ?_ | refine ops_op rfl rfl (runs_none rfl) (does_len_emp rfl ts22 rfl) ?_ | refine ops_op rfl rfl (runs_none rfl) (does_len_sub rfl ts22 rfl) ?_)
  all_goals (first | refine ops_opP rfl rfl (runs_none rfl) (does_lss rfl rfl rfl) (fun h77 => ?_) (fun h77 => ?_) | refine ops_opB rfl rfl (runs_none rfl) (does_lss rfl rfl rfl) (fun h77 => ?_) (fun h77 => ?_))
  all_goals refine ops_nil ?_
  all_goals (repeat (first | refine aw_seq ?_ | refine ath_n ?_ | refine aw_skip ?_ | refine abl_n ?_ | refine aw_block ?_))
  all_goals (first | refine aw_true rfl ?_ | refine aw_false rfl ?_)
  all_goals (repeat (first | refine aw_seq ?_ | refine ath_n ?_ | refine aw_skip ?_ | refine abl_n ?_ | refine aw_block ?_))
  all_goals dsimp only at h77
  rotate_left 1
  · have e : q = n.trans.length := by omega
    subst e
    rw [List.drop_length] at hE hW
    replace hE : K (mk, r) = R0 := hE
    replace hW : wRow n wts most x (enabledL x 0 n.trans) (s.1, z20) = .inr (mk, r) := hW.symm
    have hnextq := hnext _ hW
    have hnextl := hnextq.len
    have hnextm := hnextq.le
    replace hnextm : (s.2 ++ [r]).length ≤ mk.length := hnextm
    simp only [List.length_append, List.length_singleton] at hnextm
    (refine aw_exit ?_; repeat (first | refine ath_x ?_ | refine abl_hit ?_ | refine abl_miss rfl ?_ | refine abl_n ?_ | refine ath_n ?_ | refine aw_seq ?_ | refine aw_skip ?_ | refine aw_block ?_))
    refine aw_weak (wk_froz (id := 3) rfl) (aw_weak (wk_sl (d := 12) (id := 3) rfl rfl (by rw [List.length_map]; exact hrl.symm)) ?_)
    have hsl2 : (s.2.map (eL eI)).length = i := by simp [hi]
    refine aw_region ?_
    first | refine ops_op rfl rfl (runs_none rfl) (mv_own (.inl rfl) rfl) ?_ | refine ops_op rfl rfl (runs_none rfl) (mv_sl (.inl rfl) rfl) ?_ | refine ops_op rfl rfl (runs_none rfl) (mv_s (.inl rfl) rfl) ?_ | refine ops_op rfl rfl (runs_none rfl) (mv_emp (.inl rfl) rfl) ?_ | refine ops_op rfl rfl (runs_none rfl) (mv_sub (.inl rfl) rfl) ?_
    first | refine ops_op rfl rfl (runs_none rfl) (mv_own (.inl rfl) rfl) ?_ | refine ops_op rfl rfl (runs_none rfl) (mv_sl (.inl rfl) rfl) ?_ | refine ops_op rfl rfl (runs_none rfl) (mv_s (.inl rfl) rfl) ?_ | refine ops_op rfl rfl (runs_none rfl) (mv_emp (.inl rfl) rfl) ?_ | refine ops_op rfl rfl (runs_none rfl) (mv_sub (.inl rfl) rfl) ?_
    first | refine ops_op rfl rfl (runs_none rfl) (lit1_sF rfl ts56 ti25 rfl rfl rfl rfl) ?_ | refine ops_op rfl rfl (runs_none rfl) (lit1_slF rfl ts56 ti25 rfl rfl rfl rfl (by repeat' (first | exact Lo.s _ | exact Lo.emp | exact Lo.any | exact lo_nil | exact lo_nilE | refine lo_cons ?_ ?_ | refine lo_consE ?_ ?_ | refine lo_map ?_ | refine lo_mapE ?_ | refine Lo.cells ?_ | refine Lo.agg _ ?_ | refine Lo.ref _ ?_ | refine Lo.tup _ ?_ | refine Lo.fn _ _ ?_ | refine Lo.sl _ ?_ | intro _))) ?_ | refine ops_op rfl rfl (runs_none rfl) (does_litAF rfl ts56 ti25 rfl rfl (by decide) (by decide) rfl rfl rfl (by repeat' (first | exact Lo.s _ | exact Lo.emp | exact Lo.any | exact lo_nil | exact lo_nilE | refine lo_cons ?_ ?_ | refine lo_consE ?_ ?_ | refine lo_map ?_ | refine lo_mapE ?_ | refine Lo.cells ?_ | refine Lo.agg _ ?_ | refine Lo.ref _ ?_ | refine Lo.tup _ ?_ | refine Lo.fn _ _ ?_ | refine Lo.sl _ ?_ | intro _))) ?_
    refine ops_op rfl rfl (runs_none rfl) (does_append rfl ts56 ti25 rfl (by decide) rfl rfl hsl2.symm rfl (by first | exact .own _ _ _ rfl rfl _ (by first | rfl | simp) | exact .emp | exact .nil | exact .sl _ (by first | simp; done | intro e he; simp at he; obtain ⟨_, _, rfl⟩ := he; rfl)) (by first | omega | (simp; omega) | (unfold maxLen; simp; omega)) (by first | omega | (simp; omega) | (unfold maxLen; simp; omega))) ?_
    first | refine ops_op rfl rfl (runs_none rfl) (mv_own (.inr rfl) rfl) ?_ | refine ops_op rfl rfl (runs_none rfl) (mv_sl (.inr rfl) rfl) ?_ | refine ops_op rfl rfl (runs_none rfl) (mv_s (.inr rfl) rfl) ?_ | refine ops_op rfl rfl (runs_none rfl) (mv_emp (.inr rfl) rfl) ?_ | refine ops_op rfl rfl (runs_none rfl) (mv_sub (.inr rfl) rfl) ?_
    refine ops_nil ?_
    repeat (first | refine aw_seq ?_ | refine ath_n ?_ | refine aw_skip ?_ | refine abl_n ?_ | refine aw_block ?_)
    refine aw_region ?_
    refine ops_op rfl rfl (runs_none rfl) (mv_s (.inl rfl) rfl) ?_
    refine ops_op rfl rfl (runs_none rfl) (does_add rfl rfl rfl (IntWalk.i64_in _ (by omega))) ?_
    refine ops_op rfl rfl (runs_none rfl) (mv_s (.inr rfl) rfl) ?_
    refine ops_nil ?_
    repeat (first | refine aw_seq ?_ | refine ath_n ?_ | refine aw_skip ?_ | refine abl_n ?_ | refine aw_block ?_)
    refine ⟨(i + 1, (mk, s.2 ++ [r])), ⟨hnextq, by simp; omega, ?_⟩, by show most.toNat + 1 - (i + 1) < most.toNat + 1 - i; omega, wk_st [0, 1, 4] (by decide) ⟨⟨_, rfl, .rowE zCA_lo rfl⟩, ⟨_, rfl, .rowE (rows_lo _) rfl⟩, ⟨_, rfl, .rowE (rows_lo _) (by rw [List.map_append]; rfl)⟩, trivial⟩ ⟨.lo _ lo_I, .lo _ (.s _), .lo _ hln, .ptr 0 0 1 0 0 rfl, .own _ _ _ _ _ rfl rfl, .own _ _ _ _ _ rfl (by rw [hsl2]; rfl), .lo _ (by repeat' (first | exact Lo.s _ | exact Lo.emp | exact Lo.any | exact lo_nil | exact lo_nilE | refine lo_cons ?_ ?_ | refine lo_consE ?_ ?_ | refine lo_map ?_ | refine lo_mapE ?_ | refine Lo.cells ?_ | refine Lo.agg _ ?_ | refine Lo.ref _ ?_ | refine Lo.tup _ ?_ | refine Lo.fn _ _ ?_ | refine Lo.sl _ ?_ | intro _)), trivial⟩⟩
    show wExp n wts most (most.toNat + 1 - (i + 1)) (i + 1) (mk, s.2 ++ [r]) = R0
    rw [show most.toNat + 1 - (i + 1) = most.toNat - i by omega]
    rw [← hK] at hE
    exact hE
  have hqt : q < n.trans.length := by omega
  rw [enabledL_cons x q n.trans hqt] at hE hW
  have hcan := can_en (P := P) n x q hx0 hqt
  all_goals refine aw_draw hmix ?_
  all_goals refine adraw_ex ?_
  all_goals (first | refine ex_free rfl rfl (runs_none rfl) (fun _ => (does_load_refw rfl ta24 ti24 rfl rfl)) ?_ | refine ex_look rfl rfl (runs_none rfl) (look_whole rfl ta24 ti24 rfl rfl rfl rfl rfl) ?_ | refine ex_free rfl rfl (runs_none rfl) (fun _ => (does_load_refs rfl ta24 ti24 rfl (Nat.le_of_ble_eq_true rfl))) ?_ | refine ex_look rfl rfl (runs_none rfl) (look_ptrs rfl ta24 ti24 rfl rfl rfl rfl (Nat.le_of_ble_eq_true rfl)) ?_)
  all_goals (first | refine ex_free rfl rfl (runs_none rfl) (fun _ => (mv_own (.inl rfl) rfl)) ?_ | refine ex_free rfl rfl (runs_none rfl) (fun _ => (mv_sl (.inl rfl) rfl)) ?_ | refine ex_free rfl rfl (runs_none rfl) (fun _ => (mv_s (.inl rfl) rfl)) ?_ | refine ex_free rfl rfl (runs_none rfl) (fun _ => (mv_emp (.inl rfl) rfl)) ?_ | refine ex_free rfl rfl (runs_none rfl) (fun _ => (mv_sub (.inl rfl) rfl)) ?_)
  all_goals refine ex_free rfl rfl (runs_none rfl) (fun _ => (mv_s (.inl rfl) rfl)) ?_
  all_goals (first | refine ex_free rfl rfl (runs_none rfl) (fun _ => (does_index_sl rfl ts56 ti25 rfl rfl rfl hil rfl)) ?_ | refine ex_free rfl rfl (runs_none rfl) (fun _ => (does_index_own rfl ts56 ti25 rfl rfl rfl hil)) ?_ | refine ex_free rfl rfl (runs_none rfl) (fun _ => (does_index_sub rfl ts56 ti25 rfl rfl rfl hil)) ?_)
  all_goals (first | refine ex_free rfl rfl (runs_none rfl) (fun _ => (does_load_ref rfl ta25 rfl)) ?_ | refine ex_look rfl rfl (runs_none rfl) (look_ptr rfl ta25 rfl rfl rfl hix rfl) ?_)
  all_goals refine ex_free rfl rfl (runs_none rfl) (fun _ => (mv_s (.inl rfl) rfl)) ?_
  all_goals refine ex_free rfl rfl (runs_none rfl) (fun _ => (does_call rfl rfl (hcan) (evc_cons rfl (evc_cons rfl (evc_cons rfl evc_nil))))) ?_
  all_goals (first | refine ex_free rfl rfl (runs_none rfl) (fun _ => (does_notp rfl rfl)) ?_ | refine ex_free rfl rfl (runs_none rfl) (fun _ => (does_not rfl rfl)) ?_)
  all_goals refine ex_nil (by kernel_rfl) ?_
  all_goals (repeat (first | refine aw_seq ?_ | refine ath_n ?_ | refine aw_skip ?_ | refine abl_n ?_ | refine aw_block ?_))
  cases hb : enB (gti n.trans q) x with
  | false =>
    rw [hb] at hE hW
    refine aw_true rfl ?_
    (refine aw_exit ?_; repeat (first | refine ath_x ?_ | refine abl_hit ?_ | refine abl_miss rfl ?_ | refine abl_n ?_ | refine ath_n ?_ | refine aw_seq ?_ | refine aw_skip ?_ | refine aw_block ?_))
    refine aw_region ?_
    refine ops_op rfl rfl (runs_none rfl) (mv_s (.inl rfl) rfl) ?_
    refine ops_op rfl rfl (runs_none rfl) (does_add rfl rfl rfl (IntWalk.i64_in _ (by omega))) ?_
    refine ops_op rfl rfl (runs_none rfl) (mv_s (.inr rfl) rfl) ?_
    refine ops_nil ?_
    repeat (first | refine aw_seq ?_ | refine ath_n ?_ | refine aw_skip ?_ | refine abl_n ?_ | refine aw_block ?_)
    exact ⟨(q + 1, (mk, r)), ⟨by show q + 1 ≤ n.trans.length; omega, hw8, hxi, by show lsum r ≤ 1000 * ((q + 1 : Nat) : Int); omega, hE, hW⟩, by show n.trans.length - (q + 1) < n.trans.length - q; omega, wk_sub _ ⟨rfl, rfl, rfl, rfl, rfl, rfl, rfl, rfl, rfl, trivial⟩⟩
  | true =>
    rw [hb, if_pos rfl] at hE hW
    refine aw_false rfl ?_
    repeat (first | refine aw_seq ?_ | refine ath_n ?_ | refine aw_skip ?_ | refine abl_n ?_ | refine aw_block ?_)
    have hF := rFire_pf (P := P) n x q
    have hst : wRow n wts most x ((q : Int) :: enabledL x (q + 1) (n.trans.drop (q + 1))) (mk, r) = (match wStep n wts most x q (mk, r) with | .inl e => .inl e | .inr s' => wRow n wts most x (enabledL x (q + 1) (n.trans.drop (q + 1))) s') := rfl
    rw [hst] at hE hW
    have hstep := fun s' h => hw8.step (n := n) (wts := wts) (x := x) (t := q) (s' := s') (by omega) hx0 (wtsB_gti hwt _).1.1 h
    have hwS : wStep n wts most x q (mk, r) = if (FireE n x q).2 ≠ 0 then .inl (FireE n x q).2
        else if findI mk (FireE n x q).1 < 0 then (if most ≤ mk.length then .inl 13 else .inr (mk ++ [(FireE n x q).1], addR r mk.length (gti wts q)))
        else .inr (mk, addR r (findI mk (FireE n x q).1).toNat (gti wts q)) := rfl
    have hwt2 := wtsB_gti hwt q
    have hmr := fun h => FireE_mark (t := (q : Int)) hx0 h
    generalize FireE n x q = y at hF hwS hmr
    all_goals refine aw_draw hmix ?_
    all_goals refine adraw_ex ?_
    all_goals (first | refine ex_free rfl rfl (runs_none rfl) (fun _ => (does_load_refw rfl ta24 ti24 rfl rfl)) ?_ | refine ex_look rfl rfl (runs_none rfl) (look_whole rfl ta24 ti24 rfl rfl rfl rfl rfl) ?_ | refine ex_free rfl rfl (runs_none rfl) (fun _ => (does_load_refs rfl ta24 ti24 rfl (Nat.le_of_ble_eq_true rfl))) ?_ | refine ex_look rfl rfl (runs_none rfl) (look_ptrs rfl ta24 ti24 rfl rfl rfl rfl (Nat.le_of_ble_eq_true rfl)) ?_)
    all_goals (first | refine ex_free rfl rfl (runs_none rfl) (fun _ => (mv_own (.inl rfl) rfl)) ?_ | refine ex_free rfl rfl (runs_none rfl) (fun _ => (mv_sl (.inl rfl) rfl)) ?_ | refine ex_free rfl rfl (runs_none rfl) (fun _ => (mv_s (.inl rfl) rfl)) ?_ | refine ex_free rfl rfl (runs_none rfl) (fun _ => (mv_emp (.inl rfl) rfl)) ?_ | refine ex_free rfl rfl (runs_none rfl) (fun _ => (mv_sub (.inl rfl) rfl)) ?_)
    all_goals refine ex_free rfl rfl (runs_none rfl) (fun _ => (mv_s (.inl rfl) rfl)) ?_
    all_goals (first | refine ex_free rfl rfl (runs_none rfl) (fun _ => (does_index_sl rfl ts56 ti25 rfl rfl rfl hil rfl)) ?_ | refine ex_free rfl rfl (runs_none rfl) (fun _ => (does_index_own rfl ts56 ti25 rfl rfl rfl hil)) ?_ | refine ex_free rfl rfl (runs_none rfl) (fun _ => (does_index_sub rfl ts56 ti25 rfl rfl rfl hil)) ?_)
    all_goals (first | refine ex_free rfl rfl (runs_none rfl) (fun _ => (does_load_ref rfl ta25 rfl)) ?_ | refine ex_look rfl rfl (runs_none rfl) (look_ptr rfl ta25 rfl rfl rfl hix rfl) ?_)
    all_goals refine ex_free rfl rfl (runs_none rfl) (fun _ => (mv_s (.inl rfl) rfl)) ?_
    all_goals refine ex_free rfl rfl (runs_none rfl) (fun _ => (does_call rfl rfl (hF) (evc_cons rfl (evc_cons rfl (evc_cons rfl evc_nil))))) ?_
    all_goals (first | refine ex_free rfl rfl (runs_none rfl) (fun _ => (mv_tup (.inl rfl) rfl)) ?_ | refine ex_free rfl rfl (runs_none rfl) (fun _ => (mv_s (.inl rfl) rfl)) ?_)
    all_goals refine ex_free rfl rfl (runs_none rfl) (fun _ => (does_extract rfl rfl rfl)) ?_
    all_goals refine ex_free rfl rfl (runs_none rfl) (fun _ => (does_extract rfl rfl rfl)) ?_
    all_goals (first | refine ex_free rfl rfl (runs_none rfl) (fun _ => (mv_own (.inr rfl) rfl)) ?_ | refine ex_free rfl rfl (runs_none rfl) (fun _ => (mv_sl (.inr rfl) rfl)) ?_ | refine ex_free rfl rfl (runs_none rfl) (fun _ => (mv_s (.inr rfl) rfl)) ?_ | refine ex_free rfl rfl (runs_none rfl) (fun _ => (mv_emp (.inr rfl) rfl)) ?_ | refine ex_free rfl rfl (runs_none rfl) (fun _ => (mv_sub (.inr rfl) rfl)) ?_)
    all_goals refine ex_free rfl rfl (runs_none rfl) (fun _ => (mv_s (.inr rfl) rfl)) ?_
    all_goals refine ex_nil (by kernel_rfl) ?_
    all_goals (repeat (first | refine aw_seq ?_ | refine ath_n ?_ | refine aw_skip ?_ | refine abl_n ?_ | refine aw_block ?_))
    all_goals refine aw_region ?_
    all_goals refine ops_op rfl rfl (runs_none rfl) (mv_s (.inl rfl) rfl) ?_
    all_goals (first | refine ops_opP rfl rfl (runs_none rfl) (does_neq rfl rfl rfl) (fun h99 => ?_) (fun h99 => ?_) | refine ops_opB rfl rfl (runs_none rfl) (does_neq rfl rfl rfl) (fun h99 => ?_) (fun h99 => ?_))
    all_goals refine ops_nil ?_
    all_goals (repeat (first | refine aw_seq ?_ | refine ath_n ?_ | refine aw_skip ?_ | refine abl_n ?_ | refine aw_block ?_))
    all_goals (first | refine aw_true rfl ?_ | refine aw_false rfl ?_)
    all_goals (repeat (first | refine aw_seq ?_ | refine ath_n ?_ | refine aw_skip ?_ | refine abl_n ?_ | refine aw_block ?_))
    · have hR : R0 = .inl y.2 := by rw [← hE, hwS, if_pos (by omega)]; rfl
      refine aw_region ?_
      refine ops_op rfl rfl (runs_none rfl) (does_build rfl ti33 tp33 rfl rfl) ?_
      refine ops_op rfl rfl (runs_none rfl) (mv_s (.inl rfl) rfl) ?_
      refine ops_eff rfl (runs_none rfl) (does_store rfl ti33 rfl rfl rfl rfl rfl rfl (by decide) (by decide)) ?_
      refine ops_op rfl rfl (runs_none rfl) (mv_s (.inr rfl) rfl) ?_
      refine ops_nil ?_
      repeat (first | refine aw_seq ?_ | refine ath_n ?_ | refine aw_skip ?_ | refine abl_n ?_ | refine aw_block ?_)
      (refine aw_ret ?_; repeat (first | refine ath_r ?_ | refine abl_r ?_))
      exact post_zc (N := 0) (.inr rfl) rfl rfl rfl rfl rfl (by rw [HI, hR]; rfl)
    have hy0 : ¬ y.2 ≠ 0 := by omega
    rw [if_neg hy0] at hwS
    have hym := markB_len (hmr (by omega))
    have hfd := rfind_pf (P := P) mk y.1 (fun z hz => by have h1 := markB_len (hw8.mks z hz); omega)
    refine aw_region ?_
    first | refine ops_op rfl rfl (runs_none rfl) (mv_own (.inl rfl) rfl) ?_ | refine ops_op rfl rfl (runs_none rfl) (mv_sl (.inl rfl) rfl) ?_ | refine ops_op rfl rfl (runs_none rfl) (mv_s (.inl rfl) rfl) ?_ | refine ops_op rfl rfl (runs_none rfl) (mv_emp (.inl rfl) rfl) ?_ | refine ops_op rfl rfl (runs_none rfl) (mv_sub (.inl rfl) rfl) ?_
    first | refine ops_op rfl rfl (runs_none rfl) (mv_own (.inl rfl) rfl) ?_ | refine ops_op rfl rfl (runs_none rfl) (mv_sl (.inl rfl) rfl) ?_ | refine ops_op rfl rfl (runs_none rfl) (mv_s (.inl rfl) rfl) ?_ | refine ops_op rfl rfl (runs_none rfl) (mv_emp (.inl rfl) rfl) ?_ | refine ops_op rfl rfl (runs_none rfl) (mv_sub (.inl rfl) rfl) ?_
    refine ops_op rfl rfl (runs_none rfl) (does_callb rfl rfl (hfd) (by repeat' (first | exact FiniL.nil | refine FiniL.cons ?_ ?_ | exact .own _ _ _ _ _ rfl rfl (by first | rfl | simp) | exact .refl _)) (by repeat' (first | exact Flat.s _ | exact flat_nil | refine flat_cons ?_ ?_ | refine Flat.agg ?_ | refine Flat.tup ?_))) ?_
    refine ops_op rfl rfl (runs_none rfl) (mv_s (.inr rfl) rfl) ?_
    refine ops_nil ?_
    repeat (first | refine aw_seq ?_ | refine ath_n ?_ | refine aw_skip ?_ | refine abl_n ?_ | refine aw_block ?_)
    refine aw_region ?_
    refine ops_op rfl rfl (runs_none rfl) (mv_s (.inl rfl) rfl) ?_
    refine ops_op rfl rfl (runs_none rfl) (does_lss rfl rfl rfl) ?_
    refine ops_nil ?_
    repeat (first | refine aw_seq ?_ | refine ath_n ?_ | refine aw_skip ?_ | refine abl_n ?_ | refine aw_block ?_)
    refine aw_cuts (S := List (List Int) × Nat) (fun p => [(1, eL eI wts), (2, eI most), (3, .ref (eN n).cells), (6, .ptr 0 1 0 0), (9, .own 1 1 p.1.length), (10, .own 2 1 i), (11, eI i), (12, .own 3 1 20), (13, eI q), (16, eI p.2)])
      (fun p => [.row 1 [zCA], .row 1 (p.1.map (eL eI)), .row 1 (s.2.map (eL eI)), .row 1 (r.map eI)]) (fun p => p.2 < 20 ∧ mk <+: p.1 ∧ wStep n wts most x q (mk, r) = .inr (p.1, addR r p.2 (gti wts q))) ?_ (fun p hp => ?_)
    · refine aw_if rfl (fun h111 => ?_) (fun h111 => ?_)
      · rw [if_pos h111] at hwS
        repeat (first | refine aw_seq ?_ | refine ath_n ?_ | refine aw_skip ?_ | refine abl_n ?_ | refine aw_block ?_)
        all_goals refine aw_region ?_
        all_goals (first | refine ops_op rfl rfl (runs_none rfl) (mv_own (.inl rfl) rfl) ?_ | refine ops_op rfl rfl (runs_none rfl) (mv_sl (.inl rfl) rfl) ?_ | refine ops_op rfl rfl (runs_none rfl) (mv_s (.inl rfl) rfl) ?_ | refine ops_op rfl rfl (runs_none rfl) (mv_emp (.inl rfl) rfl) ?_ | refine ops_op rfl rfl (runs_none rfl) (mv_sub (.inl rfl) rfl) ?_)
        all_goals (first | refine ops_op rfl rfl (runs_none rfl) (does_len_map rfl ts56 rfl) ?_ | refine ops_op rfl rfl (runs_none rfl) (does_len_sl rfl ts56 rfl) ?_ | refine ops_op rfl rfl (runs_none rfl) (does_len_own rfl ts56 rfl) ?_ | refine ops_op rfl rfl (runs_none rfl) (does_len_s rfl ts56 rfl) ?_ | refine ops_op rfl rfl (runs_none rfl) (does_len_emp rfl ts56 rfl) ?_ | refine ops_op rfl rfl (runs_none rfl) (does_len_sub rfl ts56 rfl) ?_)
        all_goals refine ops_op rfl rfl (runs_none rfl) (mv_s (.inl rfl) rfl) ?_
        all_goals (first | refine ops_opP rfl rfl (runs_none rfl) (does_geq rfl rfl rfl) (fun h110 => ?_) (fun h110 => ?_) | refine ops_opB rfl rfl (runs_none rfl) (does_geq rfl rfl rfl) (fun h110 => ?_) (fun h110 => ?_))
        all_goals refine ops_nil ?_
        all_goals (repeat (first | refine aw_seq ?_ | refine ath_n ?_ | refine aw_skip ?_ | refine abl_n ?_ | refine aw_block ?_))
        all_goals (first | refine aw_true rfl ?_ | refine aw_false rfl ?_)
        all_goals (repeat (first | refine aw_seq ?_ | refine ath_n ?_ | refine aw_skip ?_ | refine abl_n ?_ | refine aw_block ?_))
        all_goals dsimp only at h110
        · have hR : R0 = .inl 13 := by rw [← hE, hwS, if_pos (by omega)]; rfl
          refine aw_region ?_
          refine ops_op rfl rfl (runs_none rfl) (does_build rfl ti33 tp33 rfl rfl) ?_
          refine ops_eff rfl (runs_none rfl) (does_store rfl ti33 rfl rfl rfl rfl rfl rfl (by decide) (by decide)) ?_
          refine ops_op rfl rfl (runs_none rfl) (mv_s (.inr rfl) rfl) ?_
          refine ops_nil ?_
          repeat (first | refine aw_seq ?_ | refine ath_n ?_ | refine aw_skip ?_ | refine abl_n ?_ | refine aw_block ?_)
          (refine aw_ret ?_; repeat (first | refine ath_r ?_ | refine abl_r ?_))
          exact post_zc (N := 0) (.inr rfl) rfl rfl rfl rfl rfl (by rw [HI, hR]; rfl)
        rw [if_neg (by omega)] at hwS
        refine aw_region ?_
        first | refine ops_op rfl rfl (runs_none rfl) (mv_own (.inl rfl) rfl) ?_ | refine ops_op rfl rfl (runs_none rfl) (mv_sl (.inl rfl) rfl) ?_ | refine ops_op rfl rfl (runs_none rfl) (mv_s (.inl rfl) rfl) ?_ | refine ops_op rfl rfl (runs_none rfl) (mv_emp (.inl rfl) rfl) ?_ | refine ops_op rfl rfl (runs_none rfl) (mv_sub (.inl rfl) rfl) ?_
        first | refine ops_op rfl rfl (runs_none rfl) (mv_own (.inl rfl) rfl) ?_ | refine ops_op rfl rfl (runs_none rfl) (mv_sl (.inl rfl) rfl) ?_ | refine ops_op rfl rfl (runs_none rfl) (mv_s (.inl rfl) rfl) ?_ | refine ops_op rfl rfl (runs_none rfl) (mv_emp (.inl rfl) rfl) ?_ | refine ops_op rfl rfl (runs_none rfl) (mv_sub (.inl rfl) rfl) ?_
        first | refine ops_op rfl rfl (runs_none rfl) (lit1_sF rfl ts56 ti25 rfl rfl rfl rfl) ?_ | refine ops_op rfl rfl (runs_none rfl) (lit1_slF rfl ts56 ti25 rfl rfl rfl rfl (by repeat' (first | exact Lo.s _ | exact Lo.emp | exact Lo.any | exact lo_nil | exact lo_nilE | refine lo_cons ?_ ?_ | refine lo_consE ?_ ?_ | refine lo_map ?_ | refine lo_mapE ?_ | refine Lo.cells ?_ | refine Lo.agg _ ?_ | refine Lo.ref _ ?_ | refine Lo.tup _ ?_ | refine Lo.fn _ _ ?_ | refine Lo.sl _ ?_ | intro _))) ?_ | refine ops_op rfl rfl (runs_none rfl) (does_litAF rfl ts56 ti25 rfl rfl (by decide) (by decide) rfl rfl rfl (by repeat' (first | exact Lo.s _ | exact Lo.emp | exact Lo.any | exact lo_nil | exact lo_nilE | refine lo_cons ?_ ?_ | refine lo_consE ?_ ?_ | refine lo_map ?_ | refine lo_mapE ?_ | refine Lo.cells ?_ | refine Lo.agg _ ?_ | refine Lo.ref _ ?_ | refine Lo.tup _ ?_ | refine Lo.fn _ _ ?_ | refine Lo.sl _ ?_ | intro _))) ?_
        refine ops_op rfl rfl (runs_none rfl) (does_append rfl ts56 ti25 rfl (by decide) rfl rfl hsl.symm rfl (by first | exact .own _ _ _ rfl rfl _ (by first | rfl | simp) | exact .emp | exact .nil | exact .sl _ (by first | simp; done | intro e he; simp at he; obtain ⟨_, _, rfl⟩ := he; rfl)) (by first | omega | (simp; omega) | (unfold maxLen; simp; omega)) (by first | omega | (simp; omega) | (unfold maxLen; simp; omega))) ?_
        first | refine ops_op rfl rfl (runs_none rfl) (mv_own (.inr rfl) rfl) ?_ | refine ops_op rfl rfl (runs_none rfl) (mv_sl (.inr rfl) rfl) ?_ | refine ops_op rfl rfl (runs_none rfl) (mv_s (.inr rfl) rfl) ?_ | refine ops_op rfl rfl (runs_none rfl) (mv_emp (.inr rfl) rfl) ?_ | refine ops_op rfl rfl (runs_none rfl) (mv_sub (.inr rfl) rfl) ?_
        refine ops_nil ?_
        repeat (first | refine aw_seq ?_ | refine ath_n ?_ | refine aw_skip ?_ | refine abl_n ?_ | refine aw_block ?_)
        refine aw_region ?_
        first | refine ops_op rfl rfl (runs_none rfl) (mv_own (.inl rfl) rfl) ?_ | refine ops_op rfl rfl (runs_none rfl) (mv_sl (.inl rfl) rfl) ?_ | refine ops_op rfl rfl (runs_none rfl) (mv_s (.inl rfl) rfl) ?_ | refine ops_op rfl rfl (runs_none rfl) (mv_emp (.inl rfl) rfl) ?_ | refine ops_op rfl rfl (runs_none rfl) (mv_sub (.inl rfl) rfl) ?_
        first | refine ops_op rfl rfl (runs_none rfl) (does_len_map rfl ts56 rfl) ?_ | refine ops_op rfl rfl (runs_none rfl) (does_len_sl rfl ts56 rfl) ?_ | refine ops_op rfl rfl (runs_none rfl) (does_len_own rfl ts56 rfl) ?_ | refine ops_op rfl rfl (runs_none rfl) (does_len_s rfl ts56 rfl) ?_ | refine ops_op rfl rfl (runs_none rfl) (does_len_emp rfl ts56 rfl) ?_ | refine ops_op rfl rfl (runs_none rfl) (does_len_sub rfl ts56 rfl) ?_
        refine ops_op rfl rfl (runs_none rfl) (does_sub rfl rfl rfl (show IntKind.i64.wrap _ = (mk.length : Int) by rw [IntWalk.i64_in _ (by simp; omega)]; simp)) ?_
        refine ops_op rfl rfl (runs_none rfl) (mv_s (.inr rfl) rfl) ?_
        refine ops_nil ?_
        repeat (first | refine aw_seq ?_ | refine ath_n ?_ | refine aw_skip ?_ | refine abl_n ?_ | refine aw_block ?_)
        exact ⟨(mk ++ [y.1], mk.length), ⟨by show mk.length < 20; omega, List.prefix_append _ _, hwS⟩, wk_st [0, 4, 2, 3] (by decide) ⟨⟨_, rfl, .rowE zCA_lo rfl⟩, ⟨_, rfl, .rowE (rows_lo _) (by rw [List.map_append]; rfl)⟩, ⟨_, rfl, .rowE (rows_lo _) rfl⟩, ⟨_, rfl, .rowE (ints_lo _) rfl⟩, trivial⟩ ⟨.lo _ lo_I, .lo _ (.s _), .lo _ hln, .ptr 0 0 1 0 0 rfl, .own _ _ _ _ _ rfl (by simp), .own _ _ _ _ _ rfl rfl, .lo _ (.s _), .own _ _ _ _ _ rfl rfl, .lo _ (.s _), .lo _ (.s _), trivial⟩⟩
      · rw [if_neg h111] at hwS
        obtain ⟨kf, hkf, _, hkl⟩ := findI_pos (S := mk) (m := y.1) (by omega)
        rw [hkf] at hwS
        repeat (first | refine aw_seq ?_ | refine ath_n ?_ | refine aw_skip ?_ | refine abl_n ?_ | refine aw_block ?_)
        exact ⟨(mk, kf), ⟨by show kf < 20; omega, List.prefix_refl _, hwS⟩, wk_sub _ ⟨rfl, rfl, rfl, rfl, rfl, rfl, rfl, rfl, rfl, congrArg eI hkf, trivial⟩⟩
    clear hwS hfd hF hix hsl hil hmr
    obtain ⟨mk', kf⟩ := p
    obtain ⟨hkf, hpre, hwS⟩ := hp
    replace hkf : kf < 20 := hkf
    replace hpre : mk <+: mk' := hpre
    replace hwS : wStep n wts most x q (mk, r) = .inr (mk', addR r kf (gti wts q)) := hwS
    obtain ⟨hw8', hls, _⟩ := hstep _ hwS
    rw [hwS] at hE hW
    replace hW : wRow n wts most x (enabledL x (q + 1) (n.trans.drop (q + 1))) (mk', addR r kf (gti wts q)) = wRow n wts most x (enabledL x 0 n.trans) (s.1, z20) := hW
    replace hE : bindE (wRow n wts most x (enabledL x (q + 1) (n.trans.drop (q + 1))) (mk', addR r kf (gti wts q))) K = R0 := hE
    have hxi' : mk'[i]? = some x := by
      obtain ⟨z, rfl⟩ := hpre
      rw [List.getElem?_append_left (List.getElem?_eq_some_iff.1 hxi).1]; exact hxi
    have hgw := hwt2.1
    have hr0 : 0 ≤ gti r kf := hw8.nn kf
    have hrS := (lsum_nn r hw8.nn).2 kf
    replace hrS : gti r kf ≤ lsum r := hrS
    have hiw : (wts.map eI)[q]? = some (eI (gti wts q)) := ix_map (by omega)
    have hir : (r.map eI)[kf]? = some (eI (gti r kf)) := ix_map (by omega)
    all_goals refine aw_draw hmix ?_
    all_goals refine adraw_ex ?_
    all_goals (first | refine ex_free rfl rfl (runs_none rfl) (fun _ => (mv_own (.inl rfl) rfl)) ?_ | refine ex_free rfl rfl (runs_none rfl) (fun _ => (mv_sl (.inl rfl) rfl)) ?_ | refine ex_free rfl rfl (runs_none rfl) (fun _ => (mv_s (.inl rfl) rfl)) ?_ | refine ex_free rfl rfl (runs_none rfl) (fun _ => (mv_emp (.inl rfl) rfl)) ?_ | refine ex_free rfl rfl (runs_none rfl) (fun _ => (mv_sub (.inl rfl) rfl)) ?_)
    all_goals refine ex_free rfl rfl (runs_none rfl) (fun _ => (mv_s (.inl rfl) rfl)) ?_
    all_goals (first | refine ex_free rfl rfl (runs_none rfl) (fun _ => (mv_own (.inl rfl) rfl)) ?_ | refine ex_free rfl rfl (runs_none rfl) (fun _ => (mv_sl (.inl rfl) rfl)) ?_ | refine ex_free rfl rfl (runs_none rfl) (fun _ => (mv_s (.inl rfl) rfl)) ?_ | refine ex_free rfl rfl (runs_none rfl) (fun _ => (mv_emp (.inl rfl) rfl)) ?_ | refine ex_free rfl rfl (runs_none rfl) (fun _ => (mv_sub (.inl rfl) rfl)) ?_)
    all_goals refine ex_free rfl rfl (runs_none rfl) (fun _ => (mv_s (.inl rfl) rfl)) ?_
    all_goals (first | refine ex_free rfl rfl (runs_none rfl) (fun _ => (does_index_sl rfl ts25 ti3 rfl rfl rfl hkf rfl)) ?_ | refine ex_free rfl rfl (runs_none rfl) (fun _ => (does_index_own rfl ts25 ti3 rfl rfl rfl hkf)) ?_ | refine ex_free rfl rfl (runs_none rfl) (fun _ => (does_index_sub rfl ts25 ti3 rfl rfl rfl hkf)) ?_)
    all_goals (first | refine ex_free rfl rfl (runs_none rfl) (fun _ => (does_load_ref rfl ta3 rfl)) ?_ | refine ex_look rfl rfl (runs_none rfl) (look_ptr rfl ta3 rfl rfl rfl hir rfl) ?_)
    all_goals (first | refine ex_free rfl rfl (runs_none rfl) (fun _ => (mv_own (.inl rfl) rfl)) ?_ | refine ex_free rfl rfl (runs_none rfl) (fun _ => (mv_sl (.inl rfl) rfl)) ?_ | refine ex_free rfl rfl (runs_none rfl) (fun _ => (mv_s (.inl rfl) rfl)) ?_ | refine ex_free rfl rfl (runs_none rfl) (fun _ => (mv_emp (.inl rfl) rfl)) ?_ | refine ex_free rfl rfl (runs_none rfl) (fun _ => (mv_sub (.inl rfl) rfl)) ?_)
    all_goals refine ex_free rfl rfl (runs_none rfl) (fun _ => (mv_s (.inl rfl) rfl)) ?_
    all_goals (first | refine ex_free rfl rfl (runs_none rfl) (fun _ => (does_index_sl rfl ts25 ti3 rfl rfl rfl hiw rfl)) ?_ | refine ex_free rfl rfl (runs_none rfl) (fun _ => (does_index_own rfl ts25 ti3 rfl rfl rfl hiw)) ?_ | refine ex_free rfl rfl (runs_none rfl) (fun _ => (does_index_sub rfl ts25 ti3 rfl rfl rfl hiw)) ?_)
    all_goals (first | refine ex_free rfl rfl (runs_none rfl) (fun _ => (does_load_ref rfl ta3 rfl)) ?_ | refine ex_look rfl rfl (runs_none rfl) (look_ptr rfl ta3 rfl rfl rfl rfl rfl) ?_)
    all_goals refine ex_free rfl rfl (runs_none rfl) (fun _ => (does_add rfl rfl rfl (IntWalk.i64_in _ (by omega)))) ?_
    all_goals (first | refine ex_free rfl rfl (runs_none rfl) (fun _ => (does_index_sl rfl ts25 ti3 rfl rfl rfl hkf rfl)) ?_ | refine ex_free rfl rfl (runs_none rfl) (fun _ => (does_index_own rfl ts25 ti3 rfl rfl rfl hkf)) ?_ | refine ex_free rfl rfl (runs_none rfl) (fun _ => (does_index_sub rfl ts25 ti3 rfl rfl rfl hkf)) ?_)
    all_goals refine ex_eff0 rfl (runs_none rfl) (does_store rfl ti3 rfl rfl rfl hir rfl rfl (by decide) (by decide)) (fun _ h => set_other h) ?_
    all_goals refine ex_nil (by kernel_rfl) ?_
    all_goals (repeat (first | refine aw_seq ?_ | refine ath_n ?_ | refine aw_skip ?_ | refine abl_n ?_ | refine aw_block ?_))
    refine aw_region ?_
    refine ops_op rfl rfl (runs_none rfl) (mv_s (.inl rfl) rfl) ?_
    refine ops_op rfl rfl (runs_none rfl) (does_add rfl rfl rfl (IntWalk.i64_in _ (by omega))) ?_
    refine ops_op rfl rfl (runs_none rfl) (mv_s (.inr rfl) rfl) ?_
    refine ops_nil ?_
    repeat (first | refine aw_seq ?_ | refine ath_n ?_ | refine aw_skip ?_ | refine abl_n ?_ | refine aw_block ?_)
    refine ⟨(q + 1, (mk', addR r kf (gti wts q))), ⟨by show q + 1 ≤ n.trans.length; omega, hw8', hxi', ?_, hE, hW⟩, by show n.trans.length - (q + 1) < n.trans.length - q; omega, wk_st [0, 1, 2, 3] (by decide) ⟨⟨_, rfl, .rowE zCA_lo rfl⟩, ⟨_, rfl, .rowE (rows_lo _) rfl⟩, ⟨_, rfl, .rowE (rows_lo _) rfl⟩, ⟨_, rfl, .rowE (ints_lo _) (by unfold addR; rw [List.map_set]; rfl)⟩, trivial⟩ ⟨.lo _ lo_I, .lo _ (.s _), .lo _ hln, .ptr 0 0 1 0 0 rfl, .own _ _ _ _ _ rfl rfl, .own _ _ _ _ _ rfl rfl, .lo _ (.s _), .own _ _ _ _ _ rfl rfl, .lo _ (by repeat' (first | exact Lo.s _ | exact Lo.emp | exact Lo.any | exact lo_nil | exact lo_nilE | refine lo_cons ?_ ?_ | refine lo_consE ?_ ?_ | refine lo_map ?_ | refine lo_mapE ?_ | refine Lo.cells ?_ | refine Lo.agg _ ?_ | refine Lo.ref _ ?_ | refine Lo.tup _ ?_ | refine Lo.fn _ _ ?_ | refine Lo.sl _ ?_ | intro _)), trivial⟩⟩
    have e : lsum (addR r kf (gti wts q)) = lsum r + gti wts q := hls
    show lsum (addR r kf (gti wts q)) ≤ 1000 * ((q + 1 : Nat) : Int)
    rw [e]; omega
end Go.Proofs.YtanfaepjamkbjaaGreat.Aw
end
section
namespace Go.Proofs.YtanfaepjamkbjaaGreat
set_option linter.unusedSimpArgs false
set_option linter.unusedVariables false
set_option linter.unusedSectionVars false
open Go.RowKit
theorem mkF_valN {n d : Int} (hd : 0 < d) {c : Fr} (h : mkF n d = some c) : 0 < c.d ∧ c.n * d = n * c.d := by
  unfold mkF at h
  split at h
  · injection h with h
    subst h
    have hg : 0 < (Int.gcd n d : Int) := by have := Int.gcd_pos_iff.2 (Or.inr (show d ≠ 0 by omega) : n ≠ 0 ∨ d ≠ 0); omega
    obtain ⟨k, hk⟩ : (Int.gcd n d : Int) ∣ n := Int.gcd_dvd_left ..
    obtain ⟨m, hm⟩ : (Int.gcd n d : Int) ∣ d := Int.gcd_dvd_right ..
    have h1 := (nf_ok n d (by omega)).1
    refine ⟨by omega, ?_⟩
    unfold nf
    simp only [Int.sign_eq_one_of_pos hd, Int.one_mul, Int.natAbs_of_nonneg (show 0 ≤ d by omega)]
    generalize (Int.gcd n d : Int) = g at *
    rw [hk, hm, Int.mul_ediv_cancel_left _ (by omega), Int.mul_ediv_cancel_left _ (by omega)]
    grind
  · cases h
theorem mkF_crossN {a b a' b' : Int} (hb : 0 < b) (hb' : 0 < b') (h : a * b' = a' * b) : mkF a b = mkF a' b' := by
  rw [← mkF_scale b' a b hb', ← mkF_scale b a' b' hb, Int.mul_comm b' a, h, Int.mul_comm a' b, Int.mul_comm b' b]
/-- parts of one whole add as their numbers do -/
theorem fadd_parts {a b s : Int} {p q : Fr} (hs : 0 < s) (hp : mkF a s = some p) (hq : mkF b s = some q) : fadd p q = mkF (a + b) s := by
  obtain ⟨p1, p2⟩ := mkF_valN hs hp
  obtain ⟨q1, q2⟩ := mkF_valN hs hq
  unfold fadd
  refine mkF_crossN (Int.mul_pos p1 q1) hs ?_
  have e1 : p.n * q.d * s = (p.n * s) * q.d := by rw [Int.mul_assoc, Int.mul_comm q.d s, ← Int.mul_assoc]
  have e2 : q.n * p.d * s = (q.n * s) * p.d := by rw [Int.mul_assoc, Int.mul_comm p.d s, ← Int.mul_assoc]
  rw [Int.add_mul, Int.add_mul, e1, e2, p2, q2, Int.mul_assoc, Int.mul_assoc, Int.mul_comm q.d p.d]
end Go.Proofs.YtanfaepjamkbjaaGreat
end
section
namespace Go.Proofs.YtanfaepjamkbjaaGreat.Aw
set_option linter.unusedSimpArgs false
set_option linter.unusedVariables false
open Go.RowKit Go.Proofs
variable {P : Program} [IsP P]

def eFs (l : List Fr) : AV := eL eF l
theorem lo_Fs (l : List Fr) : Lo 0 (eL eF l) := lo_map lo_F
theorem all_okB (l : List Fr) : l.all Fr.okB = !l.any (fun a => !a.okB) := by simp [List.all_eq_not_any_not]
end Go.Proofs.YtanfaepjamkbjaaGreat.Aw
end
section
namespace Go.Proofs.YtanfaepjamkbjaaGreat.Aw
set_option linter.unusedSimpArgs false
set_option linter.unusedVariables false
open Go.RowKit Go.Proofs
variable {P : Program} [IsP P]

theorem fvalid1_pf (a : Fr) : Pure P 89 [eF a] (eB (!a.okB)) := by
  refine aw_fn (by rw [IsP.eq (P := P)]; exact Tryz.func89) rfl rfl rfl rfl rfl (by repeat' (first | exact Lo.s _ | exact Lo.emp | exact Lo.any | exact lo_nil | exact lo_nilE | refine lo_cons ?_ ?_ | refine lo_consE ?_ ?_ | refine lo_map ?_ | refine lo_mapE ?_ | refine Lo.cells ?_ | refine Lo.agg _ ?_ | refine Lo.ref _ ?_ | refine Lo.tup _ ?_ | refine Lo.fn _ _ ?_ | refine Lo.sl _ ?_ | intro _)) (by repeat' (first | exact Lo.s _ | exact Lo.emp | exact Lo.any | exact lo_nil | exact lo_nilE | refine lo_cons ?_ ?_ | refine lo_consE ?_ ?_ | refine lo_map ?_ | refine lo_mapE ?_ | refine Lo.cells ?_ | refine Lo.agg _ ?_ | refine Lo.ref _ ?_ | refine Lo.tup _ ?_ | refine Lo.fn _ _ ?_ | refine Lo.sl _ ?_ | intro _)) (by simp only [argF]; rfl) ?_
  repeat (first | refine aw_seq ?_ | refine ath_n ?_ | refine aw_skip ?_ | refine abl_n ?_ | refine aw_block ?_)
  refine aw_region ?_
  refine ops_op rfl rfl (runs_none rfl) (does_box rfl rfl rfl rfl) ?_
  refine aops_weak (wk_froz (id := 0) rfl) (aops_weak (wk_ref (d := 1) rfl rfl rfl) ?_)
  refine ops_op rfl rfl (runs_none rfl) (mv_s (.inr rfl) rfl) ?_
  refine ops_nil ?_
  repeat (first | refine aw_seq ?_ | refine ath_n ?_ | refine aw_skip ?_ | refine abl_n ?_ | refine aw_block ?_)
  refine aw_region ?_
  first | refine ops_op rfl rfl (runs_none rfl) (does_load_refw rfl ta44 ti44 rfl rfl) ?_ | refine ops_op rfl rfl (runs_none rfl) (does_load_whole rfl ta44 ti44 rfl rfl rfl rfl rfl) ?_ | refine ops_op rfl rfl (runs_none rfl) (does_load_refs rfl ta44 ti44 rfl (Nat.le_of_ble_eq_true rfl)) ?_ | refine ops_op rfl rfl (runs_none rfl) (does_load_ptrs rfl ta44 ti44 rfl rfl rfl rfl (Nat.le_of_ble_eq_true rfl)) ?_
  refine ops_op rfl rfl (runs_none rfl) (does_call rfl rfl (fValid_pf _) (evc_cons rfl evc_nil)) ?_
  first | refine ops_op rfl rfl (runs_none rfl) (does_notp rfl rfl) ?_ | refine ops_op rfl rfl (runs_none rfl) (does_not rfl rfl) ?_
  refine ops_op rfl rfl (runs_none rfl) (mv_s (.inr rfl) rfl) ?_
  refine ops_nil ?_
  repeat (first | refine aw_seq ?_ | refine ath_n ?_ | refine aw_skip ?_ | refine abl_n ?_ | refine aw_block ?_)
  (refine aw_ret ?_; repeat (first | refine ath_r ?_ | refine abl_r ?_))
  exact post1 (.inr rfl) rfl (congrArg eB (by simp [Fr.okB]))
theorem fvalid_pf (l : List Fr) : Pure P 71 [eL eF l] (eB (l.all Fr.okB)) := by
  have hc := containsFF_pf (P := P) 89 [] (fun a => !a.okB) l lo_F (.fn _ _ (by simp)) (fun a _ => fvalid1_pf a)
  refine aw_fn (by rw [IsP.eq (P := P)]; exact Tryz.func71) rfl rfl rfl rfl rfl (by repeat' (first | exact Lo.s _ | exact Lo.emp | exact Lo.any | exact lo_nil | exact lo_nilE | refine lo_cons ?_ ?_ | refine lo_consE ?_ ?_ | refine lo_map ?_ | refine lo_mapE ?_ | refine Lo.cells ?_ | refine Lo.agg _ ?_ | refine Lo.ref _ ?_ | refine Lo.tup _ ?_ | refine Lo.fn _ _ ?_ | refine Lo.sl _ ?_ | intro _)) (by repeat' (first | exact Lo.s _ | exact Lo.emp | exact Lo.any | exact lo_nil | exact lo_nilE | refine lo_cons ?_ ?_ | refine lo_consE ?_ ?_ | refine lo_map ?_ | refine lo_mapE ?_ | refine Lo.cells ?_ | refine Lo.agg _ ?_ | refine Lo.ref _ ?_ | refine Lo.tup _ ?_ | refine Lo.fn _ _ ?_ | refine Lo.sl _ ?_ | intro _)) (by simp only [argF]; rfl) ?_
  repeat (first | refine aw_seq ?_ | refine ath_n ?_ | refine aw_skip ?_ | refine abl_n ?_ | refine aw_block ?_)
  refine aw_region ?_
  refine ops_op rfl rfl (runs_none rfl) (mv_s (.inr rfl) rfl) ?_
  refine ops_nil ?_
  repeat (first | refine aw_seq ?_ | refine ath_n ?_ | refine aw_skip ?_ | refine abl_n ?_ | refine aw_block ?_)
  refine aw_region ?_
  first | refine ops_op rfl rfl (runs_none rfl) (mv_own (.inl rfl) rfl) ?_ | refine ops_op rfl rfl (runs_none rfl) (mv_sl (.inl rfl) rfl) ?_ | refine ops_op rfl rfl (runs_none rfl) (mv_s (.inl rfl) rfl) ?_ | refine ops_op rfl rfl (runs_none rfl) (mv_emp (.inl rfl) rfl) ?_ | refine ops_op rfl rfl (runs_none rfl) (mv_sub (.inl rfl) rfl) ?_
  refine ops_op rfl rfl (runs_none rfl) (does_call rfl rfl (by assumption) (evc_cons rfl (evc_cons rfl evc_nil))) ?_
  first | refine ops_op rfl rfl (runs_none rfl) (does_notp rfl rfl) ?_ | refine ops_op rfl rfl (runs_none rfl) (does_not rfl rfl) ?_
  refine ops_op rfl rfl (runs_none rfl) (mv_s (.inr rfl) rfl) ?_
  refine ops_nil ?_
  repeat (first | refine aw_seq ?_ | refine ath_n ?_ | refine aw_skip ?_ | refine abl_n ?_ | refine aw_block ?_)
  (refine aw_ret ?_; repeat (first | refine ath_r ?_ | refine abl_r ?_))
  exact post1 (.inr rfl) rfl (congrArg eB (all_okB l).symm)
end Go.Proofs.YtanfaepjamkbjaaGreat.Aw
end
section
namespace Go.Proofs.YtanfaepjamkbjaaGreat.Aw
set_option linter.unusedSimpArgs false
set_option linter.unusedVariables false
set_option linter.unusedSectionVars false
open Go.RowKit Go.Proofs
variable {P : Program} [IsP P]

def sumG : Fr → List Fr → FE
  | acc, a :: t => if (addE acc a).e ≠ 0 then FE.err (addE acc a).e else sumG ⟨(addE acc a).n, (addE acc a).d⟩ t
  | acc, [] => ⟨acc.n, acc.d, 0⟩
def sumsE (l : List Fr) : FE := if ¬ l.all Fr.okB = true then FE.err 1 else if 1000 < l.length then FE.err 5 else sumG (Fr.of 0) l
theorem sumG_step {acc : Fr} {a : List Fr} {k : Nat} (h1 : k < a.length) : sumG acc (a.drop k) = if (addE acc (gti a k)).e ≠ 0 then FE.err (addE acc (gti a k)).e else sumG ⟨(addE acc (gti a k)).n, (addE acc (gti a k)).d⟩ (a.drop (k + 1)) := by
  have e1 : a.drop k = gti a k :: a.drop (k + 1) := by
    rw [List.drop_eq_getElem_cons h1]
    have := gti_get h1
    rw [List.getElem?_eq_getElem h1] at this
    rw [Option.some.inj this]
  rw [e1, sumG]
theorem sumG_end {acc : Fr} {a : List Fr} {k : Nat} (h : k = a.length) : sumG acc (a.drop k) = ⟨acc.n, acc.d, 0⟩ := by
  subst h
  rw [List.drop_length, sumG]
theorem sumsE_arg {a : List Fr} (h : ¬ a.all Fr.okB = true) : sumsE a = ⟨0, 0, 1⟩ := if_pos h
theorem sumsE_full {a : List Fr} (h1 : a.all Fr.okB = true) (h : 1000 < a.length) : sumsE a = ⟨0, 0, 5⟩ := by unfold sumsE; rw [if_neg (fun h => h h1), if_pos h]; rfl
theorem sumsE_go {a : List Fr} (h1 : a.all Fr.okB = true) (h3 : ¬ 1000 < a.length) : sumsE a = sumG (Fr.of 0) (a.drop 0) := by unfold sumsE; rw [if_neg (fun h => h h1), if_neg h3]; rfl
set_option maxHeartbeats 1000000 in
theorem fSum_pf (a : List Fr) : Pure P 67 [eL eF a] (eFE (sumsE a)) := by
  refine aw_fn (by rw [IsP.eq (P := P)]; exact Tryz.func67) rfl rfl rfl rfl rfl (by repeat' (first | exact Lo.s _ | exact Lo.emp | exact Lo.any | exact lo_nil | exact lo_nilE | refine lo_cons ?_ ?_ | refine lo_consE ?_ ?_ | refine lo_map ?_ | refine lo_mapE ?_ | refine Lo.cells ?_ | refine Lo.agg _ ?_ | refine Lo.ref _ ?_ | refine Lo.tup _ ?_ | refine Lo.fn _ _ ?_ | refine Lo.sl _ ?_ | intro _)) (by repeat' (first | exact Lo.s _ | exact Lo.emp | exact Lo.any | exact lo_nil | exact lo_nilE | refine lo_cons ?_ ?_ | refine lo_consE ?_ ?_ | refine lo_map ?_ | refine lo_mapE ?_ | refine Lo.cells ?_ | refine Lo.agg _ ?_ | refine Lo.ref _ ?_ | refine Lo.tup _ ?_ | refine Lo.fn _ _ ?_ | refine Lo.sl _ ?_ | intro _)) (by simp only [argF]; rfl) ?_
  repeat (first | refine aw_seq ?_ | refine ath_n ?_ | refine aw_skip ?_ | refine abl_n ?_ | refine aw_block ?_)
  refine aw_bdm (d := 0) rfl (fun hm1 => ?_)
  unfold maxLen at hm1
  refine aw_region ?_
  refine ops_op rfl rfl (runs_none rfl) (does_alloc rfl ti44 rfl rfl) ?_
  refine ops_op rfl rfl (runs_none rfl) (mv_s (.inr rfl) rfl) ?_
  refine ops_nil ?_
  repeat (first | refine aw_seq ?_ | refine ath_n ?_ | refine aw_skip ?_ | refine abl_n ?_ | refine aw_block ?_)
  all_goals refine aw_region ?_
  all_goals (first | refine ops_op rfl rfl (runs_none rfl) (mv_own (.inl rfl) rfl) ?_ | refine ops_op rfl rfl (runs_none rfl) (mv_sl (.inl rfl) rfl) ?_ | refine ops_op rfl rfl (runs_none rfl) (mv_s (.inl rfl) rfl) ?_ | refine ops_op rfl rfl (runs_none rfl) (mv_emp (.inl rfl) rfl) ?_ | refine ops_op rfl rfl (runs_none rfl) (mv_sub (.inl rfl) rfl) ?_)
  all_goals (first | refine ops_opP rfl rfl (runs_none rfl) (does_call rfl rfl (fvalid_pf _) (evc_cons rfl evc_nil)) (fun h11 => ?_) (fun h11 => ?_) | refine ops_opB rfl rfl (runs_none rfl) (does_call rfl rfl (fvalid_pf _) (evc_cons rfl evc_nil)) (fun h11 => ?_) (fun h11 => ?_))
  all_goals (first | refine ops_op rfl rfl (runs_none rfl) (does_notp rfl rfl) ?_ | refine ops_op rfl rfl (runs_none rfl) (does_not rfl rfl) ?_)
  all_goals refine ops_op rfl rfl (runs_none rfl) (mv_s (.inr rfl) rfl) ?_
  all_goals refine ops_nil ?_
  all_goals (repeat (first | refine aw_seq ?_ | refine ath_n ?_ | refine aw_skip ?_ | refine abl_n ?_ | refine aw_block ?_))
  all_goals (first | refine aw_true rfl ?_ | refine aw_false rfl ?_)
  all_goals (repeat (first | refine aw_seq ?_ | refine ath_n ?_ | refine aw_skip ?_ | refine abl_n ?_ | refine aw_block ?_))
  · skip
    all_goals refine aw_region ?_
    all_goals (first | refine ops_op rfl rfl (runs_none rfl) (mv_own (.inl rfl) rfl) ?_ | refine ops_op rfl rfl (runs_none rfl) (mv_sl (.inl rfl) rfl) ?_ | refine ops_op rfl rfl (runs_none rfl) (mv_s (.inl rfl) rfl) ?_ | refine ops_op rfl rfl (runs_none rfl) (mv_emp (.inl rfl) rfl) ?_ | refine ops_op rfl rfl (runs_none rfl) (mv_sub (.inl rfl) rfl) ?_)
    all_goals (first | refine ops_op rfl rfl (runs_none rfl) (does_len_map rfl ts46 rfl) ?_ | refine ops_op rfl rfl (runs_none rfl) (does_len_sl rfl ts46 rfl) ?_ | refine ops_op rfl rfl (runs_none rfl) (does_len_own rfl ts46 rfl) ?_ | refine ops_op rfl rfl (runs_none rfl) (does_len_s rfl ts46 rfl) ?_ | refine ops_op rfl rfl (runs_none rfl) (does_len_emp rfl ts46 rfl) ?_ | refine ops_op rfl rfl (runs_none rfl) (does_len_sub rfl ts46 rfl) ?_)
    all_goals (first | refine ops_opP rfl rfl (runs_none rfl) (does_gtr rfl rfl rfl) (fun h17 => ?_) (fun h17 => ?_) | refine ops_opB rfl rfl (runs_none rfl) (does_gtr rfl rfl rfl) (fun h17 => ?_) (fun h17 => ?_))
    all_goals refine ops_op rfl rfl (runs_none rfl) (mv_s (.inr rfl) rfl) ?_
    all_goals refine ops_nil ?_
    all_goals (repeat (first | refine aw_seq ?_ | refine ath_n ?_ | refine aw_skip ?_ | refine abl_n ?_ | refine aw_block ?_))
    all_goals (first | refine aw_true rfl ?_ | refine aw_false rfl ?_)
    all_goals (repeat (first | refine aw_seq ?_ | refine ath_n ?_ | refine aw_skip ?_ | refine abl_n ?_ | refine aw_block ?_))
    · skip
      refine aw_region ?_
      refine ops_op rfl rfl (runs_none rfl) (does_build rfl ti44 tp44 rfl rfl) ?_
      refine ops_eff rfl (runs_none rfl) (does_store rfl ti44 rfl rfl rfl rfl rfl rfl (by decide) (by decide)) ?_
      refine ops_op rfl rfl (runs_none rfl) (mv_s (.inr rfl) rfl) ?_
      refine ops_nil ?_
      repeat (first | refine aw_seq ?_ | refine ath_n ?_ | refine aw_skip ?_ | refine abl_n ?_ | refine aw_block ?_)
      (refine aw_ret ?_; repeat (first | refine ath_r ?_ | refine abl_r ?_))
      exact post_ct (.inr rfl) ta44 ti44 rfl rfl rfl rfl rfl rfl (by rw [sumsE_full h11 (by omega)]; rfl)
    · have HI := sumsE_go h11 (show ¬ 1000 < a.length by omega)
      refine aw_region ?_
      refine ops_op rfl rfl (runs_none rfl) (does_build rfl ti44 tp44 rfl rfl) ?_
      refine ops_op rfl rfl (runs_none rfl) (does_alloc rfl ti44 rfl rfl) ?_
      refine ops_eff rfl (runs_none rfl) (does_store rfl ti44 rfl rfl rfl rfl rfl rfl (by decide) (by decide)) ?_
      refine ops_nil ?_
      repeat (first | refine aw_seq ?_ | refine ath_n ?_ | refine aw_skip ?_ | refine abl_n ?_ | refine aw_block ?_)
      refine aw_region ?_
      first | refine ops_op rfl rfl (runs_none rfl) (mv_own (.inl rfl) rfl) ?_ | refine ops_op rfl rfl (runs_none rfl) (mv_sl (.inl rfl) rfl) ?_ | refine ops_op rfl rfl (runs_none rfl) (mv_s (.inl rfl) rfl) ?_ | refine ops_op rfl rfl (runs_none rfl) (mv_emp (.inl rfl) rfl) ?_ | refine ops_op rfl rfl (runs_none rfl) (mv_sub (.inl rfl) rfl) ?_
      first | refine ops_op rfl rfl (runs_none rfl) (does_len_map rfl ts46 rfl) ?_ | refine ops_op rfl rfl (runs_none rfl) (does_len_sl rfl ts46 rfl) ?_ | refine ops_op rfl rfl (runs_none rfl) (does_len_own rfl ts46 rfl) ?_ | refine ops_op rfl rfl (runs_none rfl) (does_len_s rfl ts46 rfl) ?_ | refine ops_op rfl rfl (runs_none rfl) (does_len_emp rfl ts46 rfl) ?_ | refine ops_op rfl rfl (runs_none rfl) (does_len_sub rfl ts46 rfl) ?_
      refine ops_op rfl rfl (runs_none rfl) (mv_s (.inl rfl) rfl) ?_
      refine ops_nil ?_
      repeat (first | refine aw_seq ?_ | refine ath_n ?_ | refine aw_skip ?_ | refine abl_n ?_ | refine aw_block ?_)
      refine aw_loops (S := Fr × Nat) (fun s => [(0, eL eF a), (2, .ptr 0 2 0 0), (4, .ptr 1 2 0 0), (20, eL eF a), (21, eI a.length), (22, eI s.2)]) (fun s => [.row 2 [.agg [eI 0, eI 0]], .row 2 [eF s.1]]) (fun s => s.2 ≤ a.length ∧ sumsE a = sumG s.1 (a.drop s.2)) (fun s => a.length - s.2) (Fr.of 0, 0) (wk_st [0, 1] (by decide) ⟨⟨_, rfl, .rowE (by repeat' (first | exact Lo.s _ | exact Lo.emp | exact Lo.any | exact lo_nil | exact lo_nilE | refine lo_cons ?_ ?_ | refine lo_consE ?_ ?_ | refine lo_map ?_ | refine lo_mapE ?_ | refine Lo.cells ?_ | refine Lo.agg _ ?_ | refine Lo.ref _ ?_ | refine Lo.tup _ ?_ | refine Lo.fn _ _ ?_ | refine Lo.sl _ ?_ | intro _)) rfl⟩, ⟨_, rfl, .rowE (by repeat' (first | exact Lo.s _ | exact Lo.emp | exact Lo.any | exact lo_nil | exact lo_nilE | refine lo_cons ?_ ?_ | refine lo_consE ?_ ?_ | refine lo_map ?_ | refine lo_mapE ?_ | refine Lo.cells ?_ | refine Lo.agg _ ?_ | refine Lo.ref _ ?_ | refine Lo.tup _ ?_ | refine Lo.fn _ _ ?_ | refine Lo.sl _ ?_ | intro _)) rfl⟩, trivial⟩ ⟨.lo _ (by repeat' (first | exact Lo.s _ | exact Lo.emp | exact Lo.any | exact lo_nil | exact lo_nilE | refine lo_cons ?_ ?_ | refine lo_consE ?_ ?_ | refine lo_map ?_ | refine lo_mapE ?_ | refine Lo.cells ?_ | refine Lo.agg _ ?_ | refine Lo.ref _ ?_ | refine Lo.tup _ ?_ | refine Lo.fn _ _ ?_ | refine Lo.sl _ ?_ | intro _)), .ptr 0 0 2 0 0 rfl, .ptr 1 1 2 0 0 rfl, .lo _ (by repeat' (first | exact Lo.s _ | exact Lo.emp | exact Lo.any | exact lo_nil | exact lo_nilE | refine lo_cons ?_ ?_ | refine lo_consE ?_ ?_ | refine lo_map ?_ | refine lo_mapE ?_ | refine Lo.cells ?_ | refine Lo.agg _ ?_ | refine Lo.ref _ ?_ | refine Lo.tup _ ?_ | refine Lo.fn _ _ ?_ | refine Lo.sl _ ?_ | intro _)), .lo _ (by repeat' (first | exact Lo.s _ | exact Lo.emp | exact Lo.any | exact lo_nil | exact lo_nilE | refine lo_cons ?_ ?_ | refine lo_consE ?_ ?_ | refine lo_map ?_ | refine lo_mapE ?_ | refine Lo.cells ?_ | refine Lo.agg _ ?_ | refine Lo.ref _ ?_ | refine Lo.tup _ ?_ | refine Lo.fn _ _ ?_ | refine Lo.sl _ ?_ | intro _)), .lo _ (by repeat' (first | exact Lo.s _ | exact Lo.emp | exact Lo.any | exact lo_nil | exact lo_nilE | refine lo_cons ?_ ?_ | refine lo_consE ?_ ?_ | refine lo_map ?_ | refine lo_mapE ?_ | refine Lo.cells ?_ | refine Lo.agg _ ?_ | refine Lo.ref _ ?_ | refine Lo.tup _ ?_ | refine Lo.fn _ _ ?_ | refine Lo.sl _ ?_ | intro _)), trivial⟩) ⟨Nat.zero_le _, HI⟩ (fun s hk => ?_)
      obtain ⟨acc, k⟩ := s
      obtain ⟨hk, HI⟩ := hk
      dsimp only at hk HI ⊢
      repeat (first | refine aw_seq ?_ | refine ath_n ?_ | refine aw_skip ?_ | refine abl_n ?_ | refine aw_block ?_)
      all_goals refine aw_region ?_
      all_goals (first | refine ops_opP rfl rfl (runs_none rfl) (does_lss rfl rfl rfl) (fun h23 => ?_) (fun h23 => ?_) | refine ops_opB rfl rfl (runs_none rfl) (does_lss rfl rfl rfl) (fun h23 => ?_) (fun h23 => ?_))
      all_goals refine ops_nil ?_
      all_goals (repeat (first | refine aw_seq ?_ | refine ath_n ?_ | refine aw_skip ?_ | refine abl_n ?_ | refine aw_block ?_))
      all_goals (first | refine aw_true rfl ?_ | refine aw_false rfl ?_)
      all_goals (repeat (first | refine aw_seq ?_ | refine ath_n ?_ | refine aw_skip ?_ | refine abl_n ?_ | refine aw_block ?_))
      · have h1 : k < a.length := by omega
        rw [sumG_step h1] at HI
        generalize hy : addE acc (gti a k) = y at HI
        have hadd := fAdd_pf (P := P) acc (gti a k)
        rw [hy] at hadd
        refine aw_region ?_
        first | refine ops_op rfl rfl (runs_none rfl) (does_index_sl rfl ts46 ti44 rfl rfl rfl (ix_map (by omega)) rfl) ?_ | refine ops_op rfl rfl (runs_none rfl) (does_index_own rfl ts46 ti44 rfl rfl rfl (by omega)) ?_ | refine ops_op rfl rfl (runs_none rfl) (does_index_sub rfl ts46 ti44 rfl rfl rfl (by omega)) ?_
        first | refine ops_op rfl rfl (runs_none rfl) (does_load_refw rfl ta44 ti44 rfl rfl) ?_ | refine ops_op rfl rfl (runs_none rfl) (does_load_whole rfl ta44 ti44 rfl rfl rfl rfl rfl) ?_ | refine ops_op rfl rfl (runs_none rfl) (does_load_refs rfl ta44 ti44 rfl (Nat.le_of_ble_eq_true rfl)) ?_ | refine ops_op rfl rfl (runs_none rfl) (does_load_ptrs rfl ta44 ti44 rfl rfl rfl rfl (Nat.le_of_ble_eq_true rfl)) ?_
        refine ops_op rfl rfl (runs_none rfl) (does_alloc rfl ti44 rfl rfl) ?_
        refine ops_eff rfl (runs_none rfl) (does_store rfl ti44 rfl rfl rfl rfl rfl rfl (by decide) (by decide)) ?_
        refine ops_nil ?_
        repeat (first | refine aw_seq ?_ | refine ath_n ?_ | refine aw_skip ?_ | refine abl_n ?_ | refine aw_block ?_)
        refine aw_region ?_
        first | refine ops_op rfl rfl (runs_none rfl) (does_load_refw rfl ta44 ti44 rfl rfl) ?_ | refine ops_op rfl rfl (runs_none rfl) (does_load_whole rfl ta44 ti44 rfl rfl rfl rfl rfl) ?_ | refine ops_op rfl rfl (runs_none rfl) (does_load_refs rfl ta44 ti44 rfl (Nat.le_of_ble_eq_true rfl)) ?_ | refine ops_op rfl rfl (runs_none rfl) (does_load_ptrs rfl ta44 ti44 rfl rfl rfl rfl (Nat.le_of_ble_eq_true rfl)) ?_
        first | refine ops_op rfl rfl (runs_none rfl) (does_load_refw rfl ta44 ti44 rfl rfl) ?_ | refine ops_op rfl rfl (runs_none rfl) (does_load_whole rfl ta44 ti44 rfl rfl rfl rfl rfl) ?_ | refine ops_op rfl rfl (runs_none rfl) (does_load_refs rfl ta44 ti44 rfl (Nat.le_of_ble_eq_true rfl)) ?_ | refine ops_op rfl rfl (runs_none rfl) (does_load_ptrs rfl ta44 ti44 rfl rfl rfl rfl (Nat.le_of_ble_eq_true rfl)) ?_
        refine ops_op rfl rfl (runs_none rfl) (does_call rfl rfl (hadd) (evc_cons rfl (evc_cons rfl evc_nil))) ?_
        first | refine ops_op rfl rfl (runs_none rfl) (mv_tup (.inl rfl) rfl) ?_ | refine ops_op rfl rfl (runs_none rfl) (mv_s (.inl rfl) rfl) ?_
        refine ops_op rfl rfl (runs_none rfl) (does_extract rfl rfl rfl) ?_
        refine ops_op rfl rfl (runs_none rfl) (does_extract rfl rfl rfl) ?_
        refine ops_op rfl rfl (runs_none rfl) (does_alloc rfl ti44 rfl rfl) ?_
        refine ops_eff rfl (runs_none rfl) (does_store rfl ti44 rfl rfl rfl rfl rfl rfl (by decide) (by decide)) ?_
        refine ops_op rfl rfl (runs_none rfl) (mv_s (.inr rfl) rfl) ?_
        refine ops_nil ?_
        repeat (first | refine aw_seq ?_ | refine ath_n ?_ | refine aw_skip ?_ | refine abl_n ?_ | refine aw_block ?_)
        all_goals refine aw_region ?_
        all_goals refine ops_op rfl rfl (runs_none rfl) (mv_s (.inl rfl) rfl) ?_
        all_goals (first | refine ops_opP rfl rfl (runs_none rfl) (does_neq rfl rfl rfl) (fun h33 => ?_) (fun h33 => ?_) | refine ops_opB rfl rfl (runs_none rfl) (does_neq rfl rfl rfl) (fun h33 => ?_) (fun h33 => ?_))
        all_goals refine ops_nil ?_
        all_goals (repeat (first | refine aw_seq ?_ | refine ath_n ?_ | refine aw_skip ?_ | refine abl_n ?_ | refine aw_block ?_))
        all_goals (first | refine aw_true rfl ?_ | refine aw_false rfl ?_)
        all_goals (repeat (first | refine aw_seq ?_ | refine ath_n ?_ | refine aw_skip ?_ | refine abl_n ?_ | refine aw_block ?_))
        · rw [if_pos (by omega)] at HI
          refine aw_region ?_
          refine ops_op rfl rfl (runs_none rfl) (does_build rfl ti44 tp44 rfl rfl) ?_
          refine ops_op rfl rfl (runs_none rfl) (mv_s (.inl rfl) rfl) ?_
          refine ops_eff rfl (runs_none rfl) (does_store rfl ti44 rfl rfl rfl rfl rfl rfl (by decide) (by decide)) ?_
          refine ops_op rfl rfl (runs_none rfl) (mv_s (.inr rfl) rfl) ?_
          refine ops_nil ?_
          repeat (first | refine aw_seq ?_ | refine ath_n ?_ | refine aw_skip ?_ | refine abl_n ?_ | refine aw_block ?_)
          (refine aw_ret ?_; repeat (first | refine ath_r ?_ | refine abl_r ?_))
          exact post_ct (.inr rfl) ta44 ti44 rfl rfl rfl rfl rfl rfl (by rw [HI]; rfl)
        · rw [if_neg (by omega)] at HI
          refine aw_region ?_
          first | refine ops_op rfl rfl (runs_none rfl) (does_load_refw rfl ta44 ti44 rfl rfl) ?_ | refine ops_op rfl rfl (runs_none rfl) (does_load_whole rfl ta44 ti44 rfl rfl rfl rfl rfl) ?_ | refine ops_op rfl rfl (runs_none rfl) (does_load_refs rfl ta44 ti44 rfl (Nat.le_of_ble_eq_true rfl)) ?_ | refine ops_op rfl rfl (runs_none rfl) (does_load_ptrs rfl ta44 ti44 rfl rfl rfl rfl (Nat.le_of_ble_eq_true rfl)) ?_
          refine ops_eff rfl (runs_none rfl) (does_store rfl ti44 rfl rfl rfl rfl rfl rfl (by decide) (by decide)) ?_
          refine ops_nil ?_
          repeat (first | refine aw_seq ?_ | refine ath_n ?_ | refine aw_skip ?_ | refine abl_n ?_ | refine aw_block ?_)
          refine aw_region ?_
          refine ops_op rfl rfl (runs_none rfl) (does_add rfl rfl rfl (IntWalk.i64_in _ (by omega))) ?_
          refine ops_op rfl rfl (runs_none rfl) (mv_s (.inl rfl) rfl) ?_
          refine ops_nil ?_
          repeat (first | refine aw_seq ?_ | refine ath_n ?_ | refine aw_skip ?_ | refine abl_n ?_ | refine aw_block ?_)
          exact ⟨(⟨y.n, y.d⟩, k + 1), ⟨by dsimp only; omega, HI⟩, by dsimp only; omega, wk_st [0, 1] (by decide) ⟨⟨_, rfl, .rowE (by repeat' (first | exact Lo.s _ | exact Lo.emp | exact Lo.any | exact lo_nil | exact lo_nilE | refine lo_cons ?_ ?_ | refine lo_consE ?_ ?_ | refine lo_map ?_ | refine lo_mapE ?_ | refine Lo.cells ?_ | refine Lo.agg _ ?_ | refine Lo.ref _ ?_ | refine Lo.tup _ ?_ | refine Lo.fn _ _ ?_ | refine Lo.sl _ ?_ | intro _)) rfl⟩, ⟨_, rfl, .rowE (by repeat' (first | exact Lo.s _ | exact Lo.emp | exact Lo.any | exact lo_nil | exact lo_nilE | refine lo_cons ?_ ?_ | refine lo_consE ?_ ?_ | refine lo_map ?_ | refine lo_mapE ?_ | refine Lo.cells ?_ | refine Lo.agg _ ?_ | refine Lo.ref _ ?_ | refine Lo.tup _ ?_ | refine Lo.fn _ _ ?_ | refine Lo.sl _ ?_ | intro _)) rfl⟩, trivial⟩ ⟨.lo _ (by repeat' (first | exact Lo.s _ | exact Lo.emp | exact Lo.any | exact lo_nil | exact lo_nilE | refine lo_cons ?_ ?_ | refine lo_consE ?_ ?_ | refine lo_map ?_ | refine lo_mapE ?_ | refine Lo.cells ?_ | refine Lo.agg _ ?_ | refine Lo.ref _ ?_ | refine Lo.tup _ ?_ | refine Lo.fn _ _ ?_ | refine Lo.sl _ ?_ | intro _)), .ptr 0 0 2 0 0 rfl, .ptr 1 1 2 0 0 rfl, .lo _ (by repeat' (first | exact Lo.s _ | exact Lo.emp | exact Lo.any | exact lo_nil | exact lo_nilE | refine lo_cons ?_ ?_ | refine lo_consE ?_ ?_ | refine lo_map ?_ | refine lo_mapE ?_ | refine Lo.cells ?_ | refine Lo.agg _ ?_ | refine Lo.ref _ ?_ | refine Lo.tup _ ?_ | refine Lo.fn _ _ ?_ | refine Lo.sl _ ?_ | intro _)), .lo _ (by repeat' (first | exact Lo.s _ | exact Lo.emp | exact Lo.any | exact lo_nil | exact lo_nilE | refine lo_cons ?_ ?_ | refine lo_consE ?_ ?_ | refine lo_map ?_ | refine lo_mapE ?_ | refine Lo.cells ?_ | refine Lo.agg _ ?_ | refine Lo.ref _ ?_ | refine Lo.tup _ ?_ | refine Lo.fn _ _ ?_ | refine Lo.sl _ ?_ | intro _)), .lo _ (by repeat' (first | exact Lo.s _ | exact Lo.emp | exact Lo.any | exact lo_nil | exact lo_nilE | refine lo_cons ?_ ?_ | refine lo_consE ?_ ?_ | refine lo_map ?_ | refine lo_mapE ?_ | refine Lo.cells ?_ | refine Lo.agg _ ?_ | refine Lo.ref _ ?_ | refine Lo.tup _ ?_ | refine Lo.fn _ _ ?_ | refine Lo.sl _ ?_ | intro _)), trivial⟩⟩
      · rw [sumG_end (by omega)] at HI
        (refine aw_exit ?_; repeat (first | refine ath_x ?_ | refine abl_hit ?_ | refine abl_miss rfl ?_ | refine abl_n ?_ | refine ath_n ?_ | refine aw_seq ?_ | refine aw_skip ?_ | refine aw_block ?_))
        refine aw_region ?_
        first | refine ops_op rfl rfl (runs_none rfl) (does_load_refw rfl ta44 ti44 rfl rfl) ?_ | refine ops_op rfl rfl (runs_none rfl) (does_load_whole rfl ta44 ti44 rfl rfl rfl rfl rfl) ?_ | refine ops_op rfl rfl (runs_none rfl) (does_load_refs rfl ta44 ti44 rfl (Nat.le_of_ble_eq_true rfl)) ?_ | refine ops_op rfl rfl (runs_none rfl) (does_load_ptrs rfl ta44 ti44 rfl rfl rfl rfl (Nat.le_of_ble_eq_true rfl)) ?_
        refine ops_eff rfl (runs_none rfl) (does_store rfl ti44 rfl rfl rfl rfl rfl rfl (by decide) (by decide)) ?_
        refine ops_op rfl rfl (runs_none rfl) (mv_s (.inr rfl) rfl) ?_
        refine ops_nil ?_
        repeat (first | refine aw_seq ?_ | refine ath_n ?_ | refine aw_skip ?_ | refine abl_n ?_ | refine aw_block ?_)
        (refine aw_ret ?_; repeat (first | refine ath_r ?_ | refine abl_r ?_))
        exact post_ct (.inr rfl) ta44 ti44 rfl rfl rfl rfl rfl rfl (by rw [HI]; rfl)
  · skip
    refine aw_region ?_
    refine ops_op rfl rfl (runs_none rfl) (does_build rfl ti44 tp44 rfl rfl) ?_
    refine ops_eff rfl (runs_none rfl) (does_store rfl ti44 rfl rfl rfl rfl rfl rfl (by decide) (by decide)) ?_
    refine ops_op rfl rfl (runs_none rfl) (mv_s (.inr rfl) rfl) ?_
    refine ops_nil ?_
    repeat (first | refine aw_seq ?_ | refine ath_n ?_ | refine aw_skip ?_ | refine abl_n ?_ | refine aw_block ?_)
    (refine aw_ret ?_; repeat (first | refine ath_r ?_ | refine abl_r ?_))
    exact post_ct (.inr rfl) ta44 ti44 rfl rfl rfl rfl rfl rfl (by rw [sumsE_arg (by rw [h11]; simp)]; rfl)
end Go.Proofs.YtanfaepjamkbjaaGreat.Aw
end
section
namespace Go.Proofs.YtanfaepjamkbjaaGreat.Aw
set_option linter.unusedSimpArgs false
set_option linter.unusedVariables false
open Go.RowKit Go.Proofs
variable {P : Program} [IsP P]

def negB (a : Fr) : Bool := decide (a.n < 0)
end Go.Proofs.YtanfaepjamkbjaaGreat.Aw
end
