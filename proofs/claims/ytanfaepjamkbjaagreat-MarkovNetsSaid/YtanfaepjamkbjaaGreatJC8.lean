/-
  Texts joined: NtK, SpE, SpF. Conditions: none.
-/
import Derived.Test.YtanfaepjamkbjaaGreatJC7
section
namespace Go.Proofs.YtanfaepjamkbjaaGreat.Aw
set_option linter.unusedSimpArgs false
set_option linter.unusedVariables false
set_option linter.unusedSectionVars false
open Go Go.RowKit Go.Proofs Go.Maps Go.WideMaps
variable {P : Program} [IsP P]

theorem pvalid_pf (n : Net) : Pure P 18 [eN n] (eB (validB n)) :=
  retB_pure (ent_of Tryz.func18 rfl rfl) fun G vargs hst hsz hrep => by
    obtain ⟨vt, rfl, h1⟩ := args1 hst hsz hrep
    exact valid_any n vt _ _ G.w h1
def zCA : AV := .agg [.s (.slice none 0 0)]
theorem zCA_lo : ∀ e ∈ [zCA], ∀ c ∈ e.cells, Lo 0 c := by
  intro e he c hc
  simp at he; subst he
  simp [zCA, AV.cells] at hc; subst hc; exact .s _
theorem zC_keep (ρ : List Nat) : ObR2 ρ (.row 1 [zCA]) (.row 1 [zCA]) := .of _ _ (.row 1 _ zCA_lo)
/-- a row as the program keeps it -/
def prow (i : Nat) (r : List Int) : List Int := if lsum r = 0 then z20.set i 1 else r
structure MX (P : Program) (X : MapX) (r : List Int) : Prop where
  hX : X.P = P ∧ X.kt = 3 ∧ X.el = 3
  n : X.n ≤ 61
  mr : MR X.D r
def MXs (P : Program) (Xs : List MapX) (rows : List (List Int)) : Prop := Xs.length = rows.length ∧ ∀ j X, Xs[j]? = some X → MX P X (prow j (gti rows j))
def bindE (a : Int ⊕ WS) (K : WS → Int ⊕ WX) : Int ⊕ WX := match a with
  | .inl e => .inl e
  | .inr r => K r
def finE (a : Int ⊕ WX) : List (List Fr) × Int := match a with
  | .inl e => ([], e)
  | .inr s => (chF s, 0)
theorem netE_eq (n : Net) (wts : List Int) (most : Int) : netE n wts most = if validB n = false then ([], 1) else if wts.length ≠ n.trans.length then ([], 29) else if wtsB wts = false ∨ most < 1 ∨ 20 < most then ([], 2)
    else finE (wExp n wts most (most.toNat + 1) 0 ([(oneE n n.source).1], [])) := rfl
theorem wExp_eq (n : Net) (wts : List Int) (most : Int) (f i : Nat) (s : WX) : wExp n wts most (f + 1) i s = if i < s.1.length then
      bindE (wRow n wts most (gti s.1 i) (enabledL (gti s.1 i) 0 n.trans) (s.1, z20)) (fun r => wExp n wts most f (i + 1) (r.1, s.2 ++ [r.2]))
    else .inr s := by
  conv => lhs; unfold wExp
  unfold bindE
  rfl
theorem post_zc {N : Nat} {F : Frm} {σ : List Ob} {id : Nat} {ob : Ob} {cs : List AV} {r : List (List Fr) × Int} {m : Int} {e : Exit} (he : e = .normal ∨ e = .ret) (hp : F.get 6 = .ptr id 1 0 0) (hs : σ[id]? = some ob) (ho : rowOf ob = some (1, cs)) (hk : cs[0]? = some zCA) (hu : F.get 7 = eI m) (hr : r = ([], m)) : APost P [.cell 6 33, .tmp 7] (.tup [eChn r.1, eI r.2]) e F σ := by
  subst hr
  exact post_cs (N := 0) he ta33 ti33 hp hs ho hk rfl hu (.agg _ _ rfl (FiniL.cons .nil FiniL.nil).2) (.refl _)
theorem all01_mkN : ∀ {l : List Int}, (∀ k, k < l.length → 0 ≤ gti l k ∧ gti l k ≤ 100) → all01 l = true
  | [], _ => rfl
  | x :: l, h => by
    have h0 := h 0 (by simp)
    have e0 : gti (x :: l) 0 = x := rfl
    rw [e0] at h0
    unfold all01
    rw [if_neg (by omega)]
    exact all01_mkN (fun k hk => by have := h (k + 1) (by simpa using hk); simpa [gti] using this)
theorem one_markN {n : Net} (hv : validB n = true) (p : Int) : markB n (oneL n.places.toNat p) = true := by
  have hp := validB_places hv
  rw [markB, hv, mark2B, if_neg (by simp [oneL]; omega)]
  refine all01_mkN (fun k hk => ?_)
  unfold oneL
  rw [gti_set]
  split
  · omega
  · unfold gti
    rw [List.getElem?_replicate]
    split <;> simp
theorem wk_subE {N : Nat} {F F' : Frm} {σ σ' : List Ob} (hσ : σ = σ') (h : Sub F F') : Weak N F σ F' σ' := hσ ▸ wk_sub F' h
theorem z20_of {r : List Int} (hl : r.length = 20) (hn : ∀ j, 0 ≤ gti r j) (h0 : lsum r = 0) : r = z20 := by
  refine ext_gtiN (by rw [hl]; rfl) (fun j _ => ?_)
  rw [gti_z20]
  have h1 := hn j
  have h2 := (lsum_nn r hn).2 j
  omega
theorem MXs.snoc {Xs : List MapX} {rows : List (List Int)} {X : MapX} {r : List Int} (h : MXs P Xs rows) (hx : MX P X (prow rows.length r)) : MXs P (Xs ++ [X]) (rows ++ [r]) := by
  refine ⟨by simp [h.1], fun j Y hj => ?_⟩
  by_cases hjl : j < Xs.length
  · rw [List.getElem?_append_left hjl] at hj
    have e : gti (rows ++ [r]) j = gti rows j := by
      unfold gti; rw [List.getElem?_append_left (by have := h.1; omega)]
    rw [e]
    exact h.2 j Y hj
  · have hjl2 : j < (Xs ++ [X]).length := (List.getElem?_eq_some_iff.1 hj).1
    have e : j = rows.length := by have := h.1; simp at hjl2; omega
    subst e
    rw [← h.1] at hj
    simp at hj
    subst hj
    have e : gti (rows ++ [r]) rows.length = r := by unfold gti; simp
    rw [e]
    exact hx
theorem prow_cell {m k : Nat} {r : List Int} (h : RowOk m r) (hk : k < 20) : 0 < lsum (prow k r) ∧ lsum (prow k r) ≤ 60000 ∧ ∀ j, (0 ≤ gti (prow k r) j ∧ gti (prow k r) j ≤ lsum (prow k r)) ∧ mkF (gti (prow k r) j) (lsum (prow k r)) = some (cellF k j r) := by
  by_cases h0 : lsum r = 0
  · have e : prow k r = z20.set k 1 := by unfold prow; rw [if_pos h0]
    have e1 : lsum (z20.set k 1) = 1 := by rw [lsum_set z20 k 1 (by show k < 20; exact hk), lsum_z20, gti_z20]; rfl
    rw [e, e1]
    refine ⟨by omega, by omega, fun j => ?_⟩
    have e2 : gti (z20.set k 1) j = if k = j then 1 else 0 := by
      rw [gti_set]
      by_cases e : k = j
      · subst e; rw [if_pos ⟨rfl, hk⟩, if_pos rfl]
      · rw [if_neg (by simp [e]), if_neg e, gti_z20]
    have e3 : cellF k j r = if k = j then ⟨1, 1⟩ else ⟨0, 1⟩ := by unfold cellF; rw [if_neg (by omega)]
    rw [e2, e3]
    by_cases e : k = j
    · rw [if_pos e, if_pos e]; exact ⟨by omega, by decide⟩
    · rw [if_neg e, if_neg e]; exact ⟨by omega, by decide⟩
  · have e : prow k r = r := by unfold prow; rw [if_neg h0]
    have h1 := lsum_nn r h.nn
    have hp : 0 < lsum r := by omega
    rw [e]
    exact ⟨hp, h.big, fun j => ⟨⟨h.nn j, h1.2 j⟩, cell_make h hp⟩⟩
theorem agg_keep {ρ : List Nat} {q : Nat} (h : ρ[2]? = some 2) : ObR2 ρ (.row 1 [.agg [.own 2 1 q]]) (.row 1 [.agg [.own 2 1 q]]) := by
  refine .rowN _ _ _ rfl (fun t x x' hx hx' => ?_)
  rw [hx] at hx'
  obtain rfl := Option.some.inj hx'
  cases t with
  | succ t => simp at hx
  | zero =>
    simp at hx; subst hx
    refine ⟨rfl, fun j u v hu hv => ?_⟩
    rw [hu] at hv
    obtain rfl := Option.some.inj hv
    cases j with
    | succ j => simp [AV.cells] at hu
    | zero => simp [AV.cells] at hu; subst hu; exact .own _ _ _ _ _ h rfl
theorem rowsF_lo (l : List (List Fr)) : ∀ e ∈ l.map (eL eF), ∀ c ∈ e.cells, Lo 0 c := by
  intro e he c hc
  obtain ⟨x, _, rfl⟩ := List.mem_map.1 he
  simp [eL, AV.cells] at hc; subst hc; exact lo_map fun a => lo_F a
theorem cellsF_lo (l : List Fr) : ∀ e ∈ l.map eF, ∀ c ∈ e.cells, Lo 0 c := by
  intro e he c hc
  obtain ⟨x, _, rfl⟩ := List.mem_map.1 he
  exact (lo_F x).cells c hc
theorem wk_cast {N : Nat} {F F' : Frm} {σ σ' σ'' : List Ob} (h : σ'' = σ') (w : Weak N F σ F' σ') : Weak N F σ F' σ'' := h ▸ w
theorem rngS_get {K j i : Nat} (h : i < K) : (List.range K ++ [j])[i]? = some i := by rw [List.getElem?_append_left (by simpa using h), List.getElem?_range h]
theorem rngS_eq {K j : Nat} : (List.range K ++ [j])[K]? = some j := by rw [List.getElem?_append_right (by simp)]; simp
/-- the store while the states are gone through, and its frame -/
def stF (p : Nat × WX × List MapX) : List Ob := stoM [.row 1 [zCA]] (p.2.1.1.map (eL eI)) p.1 p.2.2
set_option maxHeartbeats 4000000 in
theorem fromNet_pf (n : Net) (wts : List Int) (most : Int) : Pure P 7 [eN n, eL eI wts, eI most] (.tup [eChn (netE n wts most).1, eI (netE n wts most).2]) := by
  have HI := netE_eq n wts most
  generalize netE n wts most = R at HI ⊢
  have hv := pvalid_pf (P := P) n
  have hw := wts_pf (P := P) wts
  have hini := initial_pf (P := P) n
  have hln : Lo 0 (.ref (eN n).cells) := .ref _ (lo_N n).cells
  refine aw_fn (by rw [IsP.eq (P := P)]; exact Tryz.func7) rfl rfl rfl rfl rfl (lo_cons (lo_N n) (lo_cons lo_I (lo_cons (.s _) lo_nil))) (.tup _ (lo_cons (lo_Ch _) (lo_cons (.s _) lo_nil))) (by simp only [argF]; rfl) ?_
  refine aw_bdm (d := 1) rfl (fun hmx1 => ?_)
  unfold maxLen at hmx1
  repeat (first | refine aw_seq ?_ | refine ath_n ?_ | refine aw_skip ?_ | refine abl_n ?_ | refine aw_block ?_)
  refine aw_region ?_
  refine ops_op rfl rfl (runs_none rfl) (does_box rfl rfl rfl rfl) ?_
  refine aops_weak (wk_froz (id := 0) rfl) (aops_weak (wk_ref (d := 3) rfl rfl rfl) ?_)
  refine ops_op rfl rfl (runs_none rfl) (does_alloc rfl ti33 rfl rfl) ?_
  refine ops_op rfl rfl (runs_none rfl) (mv_s (.inr rfl) rfl) ?_
  refine ops_nil ?_
  repeat (first | refine aw_seq ?_ | refine ath_n ?_ | refine aw_skip ?_ | refine abl_n ?_ | refine aw_block ?_)
  all_goals refine aw_region ?_
  all_goals (first | refine ops_op rfl rfl (runs_none rfl) (does_load_refw rfl ta24 ti24 rfl rfl) ?_ | refine ops_op rfl rfl (runs_none rfl) (does_load_whole rfl ta24 ti24 rfl rfl rfl rfl rfl) ?_ | refine ops_op rfl rfl (runs_none rfl) (does_load_refs rfl ta24 ti24 rfl (Nat.le_of_ble_eq_true rfl)) ?_ | refine ops_op rfl rfl (runs_none rfl) (does_load_ptrs rfl ta24 ti24 rfl rfl rfl rfl (Nat.le_of_ble_eq_true rfl)) ?_)
  all_goals (first | refine ops_opP rfl rfl (runs_none rfl) (does_call rfl rfl (hv) (evc_cons rfl evc_nil)) (fun h33 => ?_) (fun h33 => ?_) | refine ops_opB rfl rfl (runs_none rfl) (does_call rfl rfl (hv) (evc_cons rfl evc_nil)) (fun h33 => ?_) (fun h33 => ?_))
  all_goals (first | refine ops_op rfl rfl (runs_none rfl) (does_notp rfl rfl) ?_ | refine ops_op rfl rfl (runs_none rfl) (does_not rfl rfl) ?_)
  all_goals refine ops_op rfl rfl (runs_none rfl) (mv_s (.inr rfl) rfl) ?_
  all_goals refine ops_nil ?_
  all_goals (repeat (first | refine aw_seq ?_ | refine ath_n ?_ | refine aw_skip ?_ | refine abl_n ?_ | refine aw_block ?_))
  all_goals (first | refine aw_true rfl ?_ | refine aw_false rfl ?_)
  all_goals (repeat (first | refine aw_seq ?_ | refine ath_n ?_ | refine aw_skip ?_ | refine abl_n ?_ | refine aw_block ?_))
  rotate_left 1
  · have hvn : validB n = false := h33
    refine aw_region ?_
    refine ops_op rfl rfl (runs_none rfl) (does_build rfl ti33 tp33 rfl rfl) ?_
    refine ops_eff rfl (runs_none rfl) (does_store rfl ti33 rfl rfl rfl rfl rfl rfl (by decide) (by decide)) ?_
    refine ops_op rfl rfl (runs_none rfl) (mv_s (.inr rfl) rfl) ?_
    refine ops_nil ?_
    repeat (first | refine aw_seq ?_ | refine ath_n ?_ | refine aw_skip ?_ | refine abl_n ?_ | refine aw_block ?_)
    (refine aw_ret ?_; repeat (first | refine ath_r ?_ | refine abl_r ?_))
    exact post_zc (N := 0) (.inr rfl) rfl rfl rfl rfl rfl (by rw [HI, if_pos hvn])
  have hvn : validB n = true := h33
  rw [if_neg (by rw [hvn]; decide)] at HI
  all_goals refine aw_region ?_
  all_goals (first | refine ops_op rfl rfl (runs_none rfl) (mv_own (.inl rfl) rfl) ?_ | refine ops_op rfl rfl (runs_none rfl) (mv_sl (.inl rfl) rfl) ?_ | refine ops_op rfl rfl (runs_none rfl) (mv_s (.inl rfl) rfl) ?_ | refine ops_op rfl rfl (runs_none rfl) (mv_emp (.inl rfl) rfl) ?_ | refine ops_op rfl rfl (runs_none rfl) (mv_sub (.inl rfl) rfl) ?_)
  all_goals (first | refine ops_op rfl rfl (runs_none rfl) (does_len_map rfl ts25 rfl) ?_ | refine ops_op rfl rfl (runs_none rfl) (does_len_sl rfl ts25 rfl) ?_ | refine ops_op rfl rfl (runs_none rfl) (does_len_own rfl ts25 rfl) ?_ | refine ops_op rfl rfl (runs_none rfl) (does_len_s rfl ts25 rfl) ?_ | refine ops_op rfl rfl (runs_none rfl) (does_len_emp rfl ts25 rfl) ?_ | refine ops_op rfl rfl (runs_none rfl) (does_len_sub rfl ts25 rfl) ?_)
  all_goals (first | refine ops_op rfl rfl (runs_none rfl) (does_fieldAddr_ptr rfl tf24_1 (by decide) rfl) ?_ | refine ops_op rfl rfl (runs_none rfl) (does_fieldAddr_ref rfl tf24_1 (by decide) rfl) ?_)
  all_goals (first | refine ops_op rfl rfl (runs_none rfl) (does_load_ref rfl ta22 rfl) ?_ | refine ops_op rfl rfl (runs_none rfl) (does_load_ptr rfl ta22 rfl rfl rfl rfl rfl) ?_)
  all_goals (first | refine ops_op rfl rfl (runs_none rfl) (does_len_map rfl ts22 rfl) ?_ | refine ops_op rfl rfl (runs_none rfl) (does_len_sl rfl ts22 rfl) ?_ | refine ops_op rfl rfl (runs_none rfl) (does_len_own rfl ts22 rfl) ?_ | refine ops_op rfl rfl (runs_none rfl) (does_len_s rfl ts22 rfl) ?_ | refine ops_op rfl rfl (runs_none rfl) (does_len_emp rfl ts22 rfl) ?_ | refine ops_op rfl rfl (runs_none rfl) (does_len_sub rfl ts22 rfl) ?_)
  all_goals (first | refine ops_opP rfl rfl (runs_none rfl) (does_neq rfl rfl rfl) (fun h42 => ?_) (fun h42 => ?_) | refine ops_opB rfl rfl (runs_none rfl) (does_neq rfl rfl rfl) (fun h42 => ?_) (fun h42 => ?_))
  all_goals refine ops_op rfl rfl (runs_none rfl) (mv_s (.inr rfl) rfl) ?_
  all_goals refine ops_nil ?_
  all_goals (repeat (first | refine aw_seq ?_ | refine ath_n ?_ | refine aw_skip ?_ | refine abl_n ?_ | refine aw_block ?_))
  all_goals (first | refine aw_true rfl ?_ | refine aw_false rfl ?_)
  all_goals (repeat (first | refine aw_seq ?_ | refine ath_n ?_ | refine aw_skip ?_ | refine abl_n ?_ | refine aw_block ?_))
  · skip
    refine aw_region ?_
    refine ops_op rfl rfl (runs_none rfl) (does_build rfl ti33 tp33 rfl rfl) ?_
    refine ops_eff rfl (runs_none rfl) (does_store rfl ti33 rfl rfl rfl rfl rfl rfl (by decide) (by decide)) ?_
    refine ops_op rfl rfl (runs_none rfl) (mv_s (.inr rfl) rfl) ?_
    refine ops_nil ?_
    repeat (first | refine aw_seq ?_ | refine ath_n ?_ | refine aw_skip ?_ | refine abl_n ?_ | refine aw_block ?_)
    (refine aw_ret ?_; repeat (first | refine ath_r ?_ | refine abl_r ?_))
    exact post_zc (N := 0) (.inr rfl) rfl rfl rfl rfl rfl (by rw [HI, if_pos (by omega)])
  rw [if_neg (by omega)] at HI
  all_goals refine aw_region ?_
  all_goals (first | refine ops_op rfl rfl (runs_none rfl) (mv_own (.inl rfl) rfl) ?_ | refine ops_op rfl rfl (runs_none rfl) (mv_sl (.inl rfl) rfl) ?_ | refine ops_op rfl rfl (runs_none rfl) (mv_s (.inl rfl) rfl) ?_ | refine ops_op rfl rfl (runs_none rfl) (mv_emp (.inl rfl) rfl) ?_ | refine ops_op rfl rfl (runs_none rfl) (mv_sub (.inl rfl) rfl) ?_)
  all_goals (first | refine ops_opP rfl rfl (runs_none rfl) (does_call rfl rfl (hw) (evc_cons rfl (evc_cons rfl evc_nil))) (fun h46 => ?_) (fun h46 => ?_) | refine ops_opB rfl rfl (runs_none rfl) (does_call rfl rfl (hw) (evc_cons rfl (evc_cons rfl evc_nil))) (fun h46 => ?_) (fun h46 => ?_))
  all_goals refine ops_op rfl rfl (runs_none rfl) (mv_s (.inl rfl) rfl) ?_
  all_goals (first | refine ops_op rfl rfl (runs_y rfl rfl rfl) (mv_s (.inl rfl) rfl) ?_ | refine ops_skip rfl rfl (runs_nf rfl rfl rfl) ?_ | refine ops_skip rfl rfl (runs_nu rfl rfl rfl) ?_)
  all_goals (first | refine ops_opP rfl rfl (runs_y rfl rfl rfl) (does_lss rfl rfl rfl) (fun h49 => ?_) (fun h49 => ?_) | refine ops_opB rfl rfl (runs_y rfl rfl rfl) (does_lss rfl rfl rfl) (fun h49 => ?_) (fun h49 => ?_) | refine ops_skip rfl rfl (runs_nf rfl rfl rfl) ?_ | refine ops_skip rfl rfl (runs_nu rfl rfl rfl) ?_)
  all_goals (first | refine ops_op rfl rfl (runs_none rfl) (pickT_s rfl rfl rfl) ?_ | refine ops_op rfl rfl (runs_none rfl) (pickF_s rfl rfl rfl) ?_ | refine ops_op rfl rfl (runs_none rfl) (does_pickT rfl rfl rfl) ?_ | refine ops_op rfl rfl (runs_none rfl) (does_pickF rfl rfl rfl) ?_)
  all_goals refine ops_op rfl rfl (runs_none rfl) (mv_s (.inl rfl) rfl) ?_
  all_goals (first | refine ops_op rfl rfl (runs_y rfl rfl rfl) (mv_s (.inl rfl) rfl) ?_ | refine ops_skip rfl rfl (runs_nf rfl rfl rfl) ?_ | refine ops_skip rfl rfl (runs_nu rfl rfl rfl) ?_)
  all_goals (first | refine ops_opP rfl rfl (runs_y rfl rfl rfl) (does_gtr rfl rfl rfl) (fun h53 => ?_) (fun h53 => ?_) | refine ops_opB rfl rfl (runs_y rfl rfl rfl) (does_gtr rfl rfl rfl) (fun h53 => ?_) (fun h53 => ?_) | refine ops_skip rfl rfl (runs_nf rfl rfl rfl) ?_ | refine ops_skip rfl rfl (runs_nu rfl rfl rfl) ?_)
  all_goals (first | refine ops_op rfl rfl (runs_none rfl) (pickT_s rfl rfl rfl) ?_ | refine ops_op rfl rfl (runs_none rfl) (pickF_s rfl rfl rfl) ?_ | refine ops_op rfl rfl (runs_none rfl) (does_pickT rfl rfl rfl) ?_ | refine ops_op rfl rfl (runs_none rfl) (does_pickF rfl rfl rfl) ?_)
  all_goals refine ops_op rfl rfl (runs_none rfl) (mv_s (.inr rfl) rfl) ?_
  all_goals refine ops_nil ?_
  all_goals (repeat (first | refine aw_seq ?_ | refine ath_n ?_ | refine aw_skip ?_ | refine abl_n ?_ | refine aw_block ?_))
  all_goals (first | refine aw_true rfl ?_ | refine aw_false rfl ?_)
  all_goals (repeat (first | refine aw_seq ?_ | refine ath_n ?_ | refine aw_skip ?_ | refine abl_n ?_ | refine aw_block ?_))
  all_goals first
    | skip
      refine aw_region ?_
      refine ops_op rfl rfl (runs_none rfl) (does_build rfl ti33 tp33 rfl rfl) ?_
      refine ops_eff rfl (runs_none rfl) (does_store rfl ti33 rfl rfl rfl rfl rfl rfl (by decide) (by decide)) ?_
      refine ops_op rfl rfl (runs_none rfl) (mv_s (.inr rfl) rfl) ?_
      refine ops_nil ?_
      repeat (first | refine aw_seq ?_ | refine ath_n ?_ | refine aw_skip ?_ | refine abl_n ?_ | refine aw_block ?_)
      (refine aw_ret ?_; repeat (first | refine ath_r ?_ | refine abl_r ?_))
      exact post_zc (N := 0) (.inr rfl) rfl rfl rfl rfl rfl (by rw [HI, if_pos (by first | exact .inr (.inl (by omega)) | exact .inr (.inr (by omega)) | exact .inl (by simpa using h46))])
    | skip
  have hwt : wtsB wts = true := by simpa using h46
  rw [if_neg (by rw [hwt]; simp; omega)] at HI
  have hpl := validB_places hvn
  have hon1 : oneE n n.source = (oneL n.places.toNat n.source, 0) := by rw [oneE, hvn]; rfl
  have hmk1 := one_markN hvn n.source
  rw [hon1] at hini HI
  generalize oneL n.places.toNat n.source = m0 at hini HI hmk1
  replace hini : Pure P 21 [eN n] (.tup [eL eI m0, eI 0]) := hini
  refine aw_region ?_
  first | refine ops_op rfl rfl (runs_none rfl) (does_load_refw rfl ta24 ti24 rfl rfl) ?_ | refine ops_op rfl rfl (runs_none rfl) (does_load_whole rfl ta24 ti24 rfl rfl rfl rfl rfl) ?_ | refine ops_op rfl rfl (runs_none rfl) (does_load_refs rfl ta24 ti24 rfl (Nat.le_of_ble_eq_true rfl)) ?_ | refine ops_op rfl rfl (runs_none rfl) (does_load_ptrs rfl ta24 ti24 rfl rfl rfl rfl (Nat.le_of_ble_eq_true rfl)) ?_
  refine ops_op rfl rfl (runs_none rfl) (does_call rfl rfl (hini) (evc_cons rfl evc_nil)) ?_
  first | refine ops_op rfl rfl (runs_none rfl) (mv_tup (.inl rfl) rfl) ?_ | refine ops_op rfl rfl (runs_none rfl) (mv_s (.inl rfl) rfl) ?_
  refine ops_op rfl rfl (runs_none rfl) (does_extract rfl rfl rfl) ?_
  refine ops_op rfl rfl (runs_none rfl) (does_extract rfl rfl rfl) ?_
  first | refine ops_op rfl rfl (runs_none rfl) (mv_own (.inr rfl) rfl) ?_ | refine ops_op rfl rfl (runs_none rfl) (mv_sl (.inr rfl) rfl) ?_ | refine ops_op rfl rfl (runs_none rfl) (mv_s (.inr rfl) rfl) ?_ | refine ops_op rfl rfl (runs_none rfl) (mv_emp (.inr rfl) rfl) ?_ | refine ops_op rfl rfl (runs_none rfl) (mv_sub (.inr rfl) rfl) ?_
  refine ops_op rfl rfl (runs_none rfl) (mv_s (.inr rfl) rfl) ?_
  refine ops_nil ?_
  repeat (first | refine aw_seq ?_ | refine ath_n ?_ | refine aw_skip ?_ | refine abl_n ?_ | refine aw_block ?_)
  refine aw_region ?_
  refine ops_op rfl rfl (runs_none rfl) (mv_s (.inl rfl) rfl) ?_
  refine ops_op rfl rfl (runs_none rfl) (dec_f (fun h => h rfl) (does_neq rfl rfl rfl)) ?_
  refine ops_nil ?_
  repeat (first | refine aw_seq ?_ | refine ath_n ?_ | refine aw_skip ?_ | refine abl_n ?_ | refine aw_block ?_)
  refine aw_false rfl ?_
  repeat (first | refine aw_seq ?_ | refine ath_n ?_ | refine aw_skip ?_ | refine abl_n ?_ | refine aw_block ?_)
  refine aw_region ?_
  first | refine ops_op rfl rfl (runs_none rfl) (mv_own (.inl rfl) rfl) ?_ | refine ops_op rfl rfl (runs_none rfl) (mv_sl (.inl rfl) rfl) ?_ | refine ops_op rfl rfl (runs_none rfl) (mv_s (.inl rfl) rfl) ?_ | refine ops_op rfl rfl (runs_none rfl) (mv_emp (.inl rfl) rfl) ?_ | refine ops_op rfl rfl (runs_none rfl) (mv_sub (.inl rfl) rfl) ?_
  first | refine ops_op rfl rfl (runs_none rfl) (lit1_s rfl ts56 ti25 rfl rfl rfl rfl) ?_ | refine ops_op rfl rfl (runs_none rfl) (lit1_sl rfl ts56 ti25 rfl rfl rfl rfl) ?_ | refine ops_op rfl rfl (runs_none rfl) (does_litA rfl ts56 ti25 rfl rfl (by decide) (by decide) rfl rfl rfl) ?_
  first | refine ops_op rfl rfl (runs_none rfl) (mv_own (.inr rfl) rfl) ?_ | refine ops_op rfl rfl (runs_none rfl) (mv_sl (.inr rfl) rfl) ?_ | refine ops_op rfl rfl (runs_none rfl) (mv_s (.inr rfl) rfl) ?_ | refine ops_op rfl rfl (runs_none rfl) (mv_emp (.inr rfl) rfl) ?_ | refine ops_op rfl rfl (runs_none rfl) (mv_sub (.inr rfl) rfl) ?_
  refine ops_nil ?_
  repeat (first | refine aw_seq ?_ | refine ath_n ?_ | refine aw_skip ?_ | refine abl_n ?_ | refine aw_block ?_)
  refine aw_region ?_
  first | refine ops_op rfl rfl (runs_none rfl) (mv_own (.inr rfl) rfl) ?_ | refine ops_op rfl rfl (runs_none rfl) (mv_sl (.inr rfl) rfl) ?_ | refine ops_op rfl rfl (runs_none rfl) (mv_s (.inr rfl) rfl) ?_ | refine ops_op rfl rfl (runs_none rfl) (mv_emp (.inr rfl) rfl) ?_ | refine ops_op rfl rfl (runs_none rfl) (mv_sub (.inr rfl) rfl) ?_
  refine ops_nil ?_
  repeat (first | refine aw_seq ?_ | refine ath_n ?_ | refine aw_skip ?_ | refine abl_n ?_ | refine aw_block ?_)
  refine aw_weak (wk_own (d := 11) 1 rfl (.inr rfl)) ?_
  refine aw_region ?_
  refine ops_op rfl rfl (runs_none rfl) (mv_s (.inr rfl) rfl) ?_
  refine ops_nil ?_
  repeat (first | refine aw_seq ?_ | refine ath_n ?_ | refine aw_skip ?_ | refine abl_n ?_ | refine aw_block ?_)
  obtain ⟨R0, hR0⟩ : ∃ R0, wExp n wts most (most.toNat + 1) 0 ([m0], []) = R0 := ⟨_, rfl⟩
  rw [hR0] at HI
  refine aw_loops (S := Nat × WX × List MapX) (fun p => [(1, eL eI wts), (2, eI most), (3, .ref (eN n).cells), (6, .ptr 0 1 0 0), (10, .own 1 1 p.2.1.1.length), (11, .own 2 1 p.1), (12, eI p.1)]) stF
    (fun p => WE n most p.2.1 ∧ p.2.1.2.length = p.1 ∧ MXs P p.2.2 p.2.1.2 ∧ wExp n wts most (most.toNat + 1 - p.1) p.1 p.2.1 = R0) (fun p => most.toNat + 1 - p.1) (0, ([m0], []), [])
    (wk_st [1, 2, 3] (by decide) ⟨⟨_, rfl, .rowE zCA_lo rfl⟩, ⟨_, rfl, .rowE (rows_lo [m0]) rfl⟩, ⟨_, rfl, .rowE (by simp [mpR]) rfl⟩, trivial⟩ ⟨.lo _ (by repeat' (first | exact Lo.s _ | exact Lo.emp | exact Lo.any | exact lo_nil | exact lo_nilE | refine lo_cons ?_ ?_ | refine lo_consE ?_ ?_ | refine lo_map ?_ | refine lo_mapE ?_ | refine Lo.cells ?_ | refine Lo.agg _ ?_ | refine Lo.ref _ ?_ | refine Lo.tup _ ?_ | refine Lo.fn _ _ ?_ | refine Lo.sl _ ?_ | intro _)), .lo _ (by repeat' (first | exact Lo.s _ | exact Lo.emp | exact Lo.any | exact lo_nil | exact lo_nilE | refine lo_cons ?_ ?_ | refine lo_consE ?_ ?_ | refine lo_map ?_ | refine lo_mapE ?_ | refine Lo.cells ?_ | refine Lo.agg _ ?_ | refine Lo.ref _ ?_ | refine Lo.tup _ ?_ | refine Lo.fn _ _ ?_ | refine Lo.sl _ ?_ | intro _)), .lo _ hln, .ptr 1 0 1 0 0 rfl, .own _ _ _ _ _ rfl rfl, .own _ _ _ _ _ rfl rfl, .lo _ (by repeat' (first | exact Lo.s _ | exact Lo.emp | exact Lo.any | exact lo_nil | exact lo_nilE | refine lo_cons ?_ ?_ | refine lo_consE ?_ ?_ | refine lo_map ?_ | refine lo_mapE ?_ | refine Lo.cells ?_ | refine Lo.agg _ ?_ | refine Lo.ref _ ?_ | refine Lo.tup _ ?_ | refine Lo.fn _ _ ?_ | refine Lo.sl _ ?_ | intro _)), trivial⟩) ⟨⟨fun m hm => by simp at hm; subst hm; exact hmk1, by show (1 : Int) ≤ most; omega, by simp, by simp⟩, rfl, ⟨rfl, by simp⟩, hR0⟩ (fun p hp => ?_)
  obtain ⟨i, s, Xs⟩ := p
  obtain ⟨hs, hi, hX, hE⟩ := hp
  replace hs : WE n most s := hs
  replace hi : s.2.length = i := hi
  replace hX : MXs P Xs s.2 := hX
  replace hE : wExp n wts most (most.toNat + 1 - i) i s = R0 := hE
  have hXl := hX.1
  have hle := hs.len
  have hle2 := hs.le
  repeat (first | refine aw_seq ?_ | refine ath_n ?_ | refine aw_skip ?_ | refine abl_n ?_ | refine aw_block ?_)
  all_goals refine aw_region ?_
  all_goals refine ops_op rfl rfl (runs_none rfl) (mv_s (.inl rfl) rfl) ?_
  all_goals (first | refine ops_op rfl rfl (runs_none rfl) (mv_own (.inl rfl) rfl) ?_ | refine ops_op rfl rfl (runs_none rfl) (mv_sl (.inl rfl) rfl) ?_ | refine ops_op rfl rfl (runs_none rfl) (mv_s (.inl rfl) rfl) ?_ | refine ops_op rfl rfl (runs_none rfl) (mv_emp (.inl rfl) rfl) ?_ | refine ops_op rfl rfl (runs_none rfl) (mv_sub (.inl rfl) rfl) ?_)
  all_goals (first | refine ops_op rfl rfl (runs_none rfl) (does_len_map rfl ts56 rfl) ?_ | refine ops_op rfl rfl (runs_none rfl) (does_len_sl rfl ts56 rfl) ?_ | refine ops_op rfl rfl (runs_none rfl) (does_len_own rfl ts56 rfl) ?_ | refine ops_op rfl rfl (runs_none rfl) (does_len_s rfl ts56 rfl) ?_ | refine ops_op rfl rfl (runs_none rfl) (does_len_emp rfl ts56 rfl) ?_ | refine ops_op rfl rfl (runs_none rfl) (does_len_sub rfl ts56 rfl) ?_)
  all_goals (first | refine ops_opP rfl rfl (runs_none rfl) (does_lss rfl rfl rfl) (fun h70 => ?_) (fun h70 => ?_) | refine ops_opB rfl rfl (runs_none rfl) (does_lss rfl rfl rfl) (fun h70 => ?_) (fun h70 => ?_))
  all_goals refine ops_nil ?_
  all_goals (repeat (first | refine aw_seq ?_ | refine ath_n ?_ | refine aw_skip ?_ | refine abl_n ?_ | refine aw_block ?_))
  all_goals (first | refine aw_true rfl ?_ | refine aw_false rfl ?_)
  all_goals (repeat (first | refine aw_seq ?_ | refine ath_n ?_ | refine aw_skip ?_ | refine abl_n ?_ | refine aw_block ?_))
  all_goals dsimp only at h70
  rotate_left 1
  · have e : i = s.1.length := by omega
    have hR : R0 = .inr s := by
      rw [← hE, show most.toNat + 1 - i = most.toNat - i + 1 by omega, wExp_eq, if_neg (by omega)]
    rw [hR] at HI
    replace HI : R = (chF s, 0) := HI
    subst HI
    clear hE hR hR0 hw hini hmk1 hv
    have hrow : ∀ k, k < i → RowOk i (gti s.2 k) := fun k hk => by rw [e]; exact hs.rows _ (gti_mem (by omega))
    have hi20 : i ≤ 20 := by omega
    have hlen : (stoM [.row 1 [zCA]] (s.1.map (eL eI)) i Xs).length = 3 + i := by rw [stoM_len]; show 1 + 2 + Xs.length = _; omega
    have hXi : Xs.length = i := by omega
    (refine aw_exit ?_; repeat (first | refine ath_x ?_ | refine abl_hit ?_ | refine abl_miss rfl ?_ | refine abl_n ?_ | refine ath_n ?_ | refine aw_seq ?_ | refine aw_skip ?_ | refine aw_block ?_))
    refine aw_region ?_
    refine ops_op rfl rfl (runs_none rfl) (does_alloc rfl ti33 rfl rfl) ?_
    refine ops_nil ?_
    repeat (first | refine aw_seq ?_ | refine ath_n ?_ | refine aw_skip ?_ | refine abl_n ?_ | refine aw_block ?_)
    refine aw_weak (wk_outC (L := 3 + i) (F' := [(6, .ptr 0 1 0 0), (10, .own 3 1 i), (11, .own 4 1 i), (21, .ptr 1 1 0 0)]) rfl (by show 3 + i = 3 + Xs.length; omega) (by show i ≤ Xs.length; omega) zC_keep (rows_lo s.1)
      ⟨.ptr _ _ _ _ _ rfl, .own _ _ _ _ _ (rhoI_3 (t := 0) (by omega)) e.symm, .own _ _ _ _ _ (rhoI_3 (t := 1) (by omega)) rfl, .ptr _ _ _ _ _ (by show some (3 + i) = some _; congr 1; exact hlen.symm), trivial⟩) ?_
    refine aw_region ?_
    first | refine ops_op rfl rfl (runs_none rfl) (mv_own (.inl rfl) rfl) ?_ | refine ops_op rfl rfl (runs_none rfl) (mv_sl (.inl rfl) rfl) ?_ | refine ops_op rfl rfl (runs_none rfl) (mv_s (.inl rfl) rfl) ?_ | refine ops_op rfl rfl (runs_none rfl) (mv_emp (.inl rfl) rfl) ?_ | refine ops_op rfl rfl (runs_none rfl) (mv_sub (.inl rfl) rfl) ?_
    first | refine ops_op rfl rfl (runs_none rfl) (does_len_map rfl ts57 rfl) ?_ | refine ops_op rfl rfl (runs_none rfl) (does_len_sl rfl ts57 rfl) ?_ | refine ops_op rfl rfl (runs_none rfl) (does_len_own rfl ts57 rfl) ?_ | refine ops_op rfl rfl (runs_none rfl) (does_len_s rfl ts57 rfl) ?_ | refine ops_op rfl rfl (runs_none rfl) (does_len_emp rfl ts57 rfl) ?_ | refine ops_op rfl rfl (runs_none rfl) (does_len_sub rfl ts57 rfl) ?_
    refine ops_op rfl rfl (runs_none rfl) (mv_s (.inl rfl) rfl) ?_
    refine ops_nil ?_
    repeat (first | refine aw_seq ?_ | refine ath_n ?_ | refine aw_skip ?_ | refine abl_n ?_ | refine aw_block ?_)
    refine aw_loops (S := Nat) (fun k => [(6, .ptr 0 1 0 0), (10, .own 3 1 i), (21, .ptr 1 1 0 0), (140, .own 4 1 i), (141, eI i), (142, eI k)])
      (fun k => stoM [.row 1 [zCA], .row 1 [.agg [.own 2 1 k]], .row 1 (((chF s).take k).map (eL eF))] (s.1.map (eL eI)) i Xs) (fun k => k ≤ i) (fun k => i - k) 0 (wk_sub _ ⟨rfl, rfl, rfl, rfl, rfl, rfl, trivial⟩) (Nat.zero_le _) (fun k hk => ?_)
    have hlen2 : (stoM [.row 1 [zCA], .row 1 [.agg [.own 2 1 k]], .row 1 (((chF s).take k).map (eL eF))] (s.1.map (eL eI)) i Xs).length = 5 + i := by rw [stoM_len]; show 3 + 2 + Xs.length = _; omega
    repeat (first | refine aw_seq ?_ | refine ath_n ?_ | refine aw_skip ?_ | refine abl_n ?_ | refine aw_block ?_)
    all_goals refine aw_region ?_
    all_goals (first | refine ops_opP rfl rfl (runs_none rfl) (does_lss rfl rfl rfl) (fun h143 => ?_) (fun h143 => ?_) | refine ops_opB rfl rfl (runs_none rfl) (does_lss rfl rfl rfl) (fun h143 => ?_) (fun h143 => ?_))
    all_goals refine ops_nil ?_
    all_goals (repeat (first | refine aw_seq ?_ | refine ath_n ?_ | refine aw_skip ?_ | refine abl_n ?_ | refine aw_block ?_))
    all_goals (first | refine aw_true rfl ?_ | refine aw_false rfl ?_)
    all_goals (repeat (first | refine aw_seq ?_ | refine ath_n ?_ | refine aw_skip ?_ | refine abl_n ?_ | refine aw_block ?_))
    · have hlt : k < i := by omega
      obtain ⟨Y, hY⟩ : ∃ Y, Xs[k]? = some Y := ⟨Xs[k]'(by omega), List.getElem?_eq_getElem (by omega)⟩
      have hMX := hX.2 k Y hY
      have hcell := prow_cell (m := i) (hrow k hlt) (k := k) (by omega)
      refine aw_region ?_
      first | refine ops_op rfl rfl (runs_none rfl) (does_index_sl rfl ts57 ti59 rfl rfl rfl hlt rfl) ?_ | refine ops_op rfl rfl (runs_none rfl) (does_index_own rfl ts57 ti59 rfl rfl rfl hlt) ?_ | refine ops_op rfl rfl (runs_none rfl) (does_index_sub rfl ts57 ti59 rfl rfl rfl hlt) ?_
      first | refine ops_op rfl rfl (runs_none rfl) (does_load_ref rfl ta59 rfl) ?_ | refine ops_op rfl rfl (runs_none rfl) (does_load_ptr rfl ta59 rfl rfl rfl (mpR_get hlt) rfl) ?_
      first | refine ops_op rfl rfl (runs_none rfl) (mv_mp (.inr rfl) rfl) ?_ | refine ops_op rfl rfl (runs_none rfl) (mv_s (.inr rfl) rfl) ?_
      refine ops_nil ?_
      repeat (first | refine aw_seq ?_ | refine ath_n ?_ | refine aw_skip ?_ | refine abl_n ?_ | refine aw_block ?_)
      obtain ⟨r, hr⟩ : ∃ r, gti s.2 k = r := ⟨_, rfl⟩
      rw [hr] at hMX hcell
      generalize hp : prow k r = pr at hMX hcell
      obtain ⟨h0, hb, hc⟩ := hcell
      refine aw_region ?_
      refine ops_op rfl rfl (runs_none rfl) (mv_s (.inr rfl) rfl) ?_
      refine ops_nil ?_
      refine ath_n ?_
      refine aw_seq ?_
      refine aw_mapsum (id := 5 + k) (X := Y) (S := lsum pr) ⟨rfl, rfl, rfl⟩ ⟨rfl, rfl, rfl⟩ ⟨rfl, rfl, rfl⟩ ⟨rfl, rfl, rfl⟩ ⟨rfl, rfl, rfl⟩ ⟨rfl, rfl, rfl⟩ ⟨rfl, rfl, rfl⟩ ⟨rfl, rfl, rfl⟩ ⟨rfl, rfl, rfl⟩ ⟨rfl, rfl, rfl⟩ ⟨rfl, rfl, rfl⟩ (by decide) rfl (stoM_map hY) hMX.hX tm59 tn3 rfl (fun L hL => ⟨hMX.mr.nn L hL, hMX.mr.sum L hL⟩) (by omega) ?_
      refine ath_n ?_
      repeat (first | refine aw_seq ?_ | refine ath_n ?_ | refine aw_skip ?_ | refine abl_n ?_ | refine aw_block ?_)
      refine aw_region ?_
      first | refine ops_op rfl rfl (runs_none rfl) (mv_own (.inr rfl) rfl) ?_ | refine ops_op rfl rfl (runs_none rfl) (mv_sl (.inr rfl) rfl) ?_ | refine ops_op rfl rfl (runs_none rfl) (mv_s (.inr rfl) rfl) ?_ | refine ops_op rfl rfl (runs_none rfl) (mv_emp (.inr rfl) rfl) ?_ | refine ops_op rfl rfl (runs_none rfl) (mv_sub (.inr rfl) rfl) ?_
      refine ops_nil ?_
      repeat (first | refine aw_seq ?_ | refine ath_n ?_ | refine aw_skip ?_ | refine abl_n ?_ | refine aw_block ?_)
      refine aw_weak (wk_own (d := 27) 2 rfl (.inr rfl)) ?_
      refine aw_region ?_
      first | refine ops_op rfl rfl (runs_none rfl) (mv_own (.inl rfl) rfl) ?_ | refine ops_op rfl rfl (runs_none rfl) (mv_sl (.inl rfl) rfl) ?_ | refine ops_op rfl rfl (runs_none rfl) (mv_s (.inl rfl) rfl) ?_ | refine ops_op rfl rfl (runs_none rfl) (mv_emp (.inl rfl) rfl) ?_ | refine ops_op rfl rfl (runs_none rfl) (mv_sub (.inl rfl) rfl) ?_
      first | refine ops_op rfl rfl (runs_none rfl) (does_len_map rfl ts56 rfl) ?_ | refine ops_op rfl rfl (runs_none rfl) (does_len_sl rfl ts56 rfl) ?_ | refine ops_op rfl rfl (runs_none rfl) (does_len_own rfl ts56 rfl) ?_ | refine ops_op rfl rfl (runs_none rfl) (does_len_s rfl ts56 rfl) ?_ | refine ops_op rfl rfl (runs_none rfl) (does_len_emp rfl ts56 rfl) ?_ | refine ops_op rfl rfl (runs_none rfl) (does_len_sub rfl ts56 rfl) ?_
      refine ops_op rfl rfl (runs_none rfl) (mv_s (.inl rfl) rfl) ?_
      refine ops_nil ?_
      repeat (first | refine aw_seq ?_ | refine ath_n ?_ | refine aw_skip ?_ | refine abl_n ?_ | refine aw_block ?_)
      refine aw_loops (S := Nat) (fun j => [(6, .ptr 0 1 0 0), (10, .own 3 1 i), (21, .ptr 1 1 0 0), (140, .own 4 1 i), (141, eI i), (142, eI k), (23, .mp (5 + k)), (24, eI (lsum pr)), (27, .own (5 + i) 2 j), (156, eI i), (157, eI j)])
        (fun j => stoM [.row 1 [zCA], .row 1 [.agg [.own 2 1 k]], .row 1 (((chF s).take k).map (eL eF))] (s.1.map (eL eI)) i Xs ++ [Ob.row 2 (((rowF i k r).take j).map eF)]) (fun j => j ≤ i) (fun j => i - j) 0 (wk_sub _ ⟨rfl, rfl, rfl, rfl, rfl, rfl, rfl, rfl, congrArg (fun x => AV.own x 2 0) hlen2, rfl, rfl, trivial⟩) (Nat.zero_le _) (fun j hj => ?_)
      have hrl : (rowF i k r).length = i := by simp [rowF]
      have htl : ((rowF i k r).take j).length = j := by rw [List.length_take, hrl]; omega
      have hrow2 : (stoM [.row 1 [zCA], .row 1 [.agg [.own 2 1 k]], .row 1 (((chF s).take k).map (eL eF))] (s.1.map (eL eI)) i Xs ++ [Ob.row 2 (((rowF i k r).take j).map eF)])[5 + i]? = some (.row 2 (((rowF i k r).take j).map eF)) := by
        rw [List.getElem?_append_right (by omega), hlen2, Nat.sub_self]; rfl
      have hkeep : ∀ ρ : List Nat, (∀ t, t < 5 + i → ρ[t]? = some t) → ∀ a ∈ stoM [.row 1 [zCA], .row 1 [.agg [.own 2 1 k]], .row 1 (((chF s).take k).map (eL eF))] (s.1.map (eL eI)) i Xs, ObR2 ρ a a := fun ρ hρ =>
        stoM_keep (K := 5 + i) hρ (by show 3 + 2 + Xs.length ≤ _; omega) (by omega) (fun a ha => by
          simp only [List.mem_cons, List.not_mem_nil, or_false] at ha
          rcases ha with rfl | rfl | rfl
          · exact zC_keep _
          · exact agg_keep (hρ 2 (by omega))
          · exact .of _ _ (.row 1 _ (rowsF_lo _))) (rows_lo _)
      repeat (first | refine aw_seq ?_ | refine ath_n ?_ | refine aw_skip ?_ | refine abl_n ?_ | refine aw_block ?_)
      all_goals refine aw_region ?_
      all_goals (first | refine ops_opP rfl rfl (runs_none rfl) (does_lss rfl rfl rfl) (fun h158 => ?_) (fun h158 => ?_) | refine ops_opB rfl rfl (runs_none rfl) (does_lss rfl rfl rfl) (fun h158 => ?_) (fun h158 => ?_))
      all_goals refine ops_nil ?_
      all_goals (repeat (first | refine aw_seq ?_ | refine ath_n ?_ | refine aw_skip ?_ | refine abl_n ?_ | refine aw_block ?_))
      all_goals (first | refine aw_true rfl ?_ | refine aw_false rfl ?_)
      all_goals (repeat (first | refine aw_seq ?_ | refine ath_n ?_ | refine aw_skip ?_ | refine abl_n ?_ | refine aw_block ?_))
      · have hjt : j < i := by omega
        have hcj := hc j
        obtain ⟨⟨g1, g2⟩, g3⟩ := hcj
        have hmk := fMake_pf (P := P) (gti pr j) (lsum pr) ⟨by omega, by omega⟩ ⟨by omega, by omega⟩
        rw [makeE_some (by omega) g3] at hmk
        have hat := hMX.mr.at_ j (by omega)
        generalize gti pr j = u at hmk hat g1 g2 g3
        have hcell2 : (rowF i k r)[j]? = some (cellF k j r) := by
          unfold rowF
          rw [List.getElem?_map, List.getElem?_range hjt]; rfl
        have htk : (rowF i k r).take (j + 1) = (rowF i k r).take j ++ [cellF k j r] := by rw [List.take_succ_eq_append_getElem (by omega)]; congr 2; exact (List.getElem?_eq_some_iff.1 hcell2).2
        generalize cellF k j r = c at hmk g3 hcell2 htk
        replace hmk : Pure P 27 [eI u, eI (lsum pr)] (.tup [eF c, eI 0]) := hmk
        have hget : (stoM [.row 1 [zCA], .row 1 [.agg [.own 2 1 k]], .row 1 (((chF s).take k).map (eL eF))] (s.1.map (eL eI)) i Xs ++ [Ob.row 2 (((rowF i k r).take j).map eF)])[5 + k]? = some (.mp Y) := by
          rw [List.getElem?_append_left (by omega)]; exact stoM_map hY
        have hwfk : (Lit.int .i64 (j : Int)).wf = true := wf_len (by omega)
        refine aw_region ?_
        refine ops_op rfl rfl (runs_none rfl) (mv_s (.inl rfl) rfl) ?_
        refine ops_op rfl rfl (runs_none rfl) (mv_s (.inr rfl) rfl) ?_
        refine ops_nil ?_
        repeat (first | refine aw_seq ?_ | refine ath_n ?_ | refine aw_skip ?_ | refine abl_n ?_ | refine aw_block ?_)
        refine aw_region ?_
        first | refine ops_op rfl rfl (runs_none rfl) (mv_mp (.inl rfl) rfl) ?_ | refine ops_op rfl rfl (runs_none rfl) (mv_s (.inl rfl) rfl) ?_
        refine ops_op rfl rfl (runs_none rfl) (mv_s (.inl rfl) rfl) ?_
        refine ops_op rfl rfl (runs_none rfl) (does_lookup rfl tm59 tK3 rfl hget hMX.hX rfl (keyOf_int_mk tn3 hwfk) ti3 (plainElem_int tn3 rfl) hat) ?_
        refine ops_op rfl rfl (runs_none rfl) (mv_s (.inl rfl) rfl) ?_
        refine ops_op rfl rfl (runs_none rfl) (does_call rfl rfl (hmk) (evc_cons rfl (evc_cons rfl evc_nil))) ?_
        first | refine ops_op rfl rfl (runs_none rfl) (mv_tup (.inl rfl) rfl) ?_ | refine ops_op rfl rfl (runs_none rfl) (mv_s (.inl rfl) rfl) ?_
        refine ops_op rfl rfl (runs_none rfl) (does_extract rfl rfl rfl) ?_
        refine ops_op rfl rfl (runs_none rfl) (does_extract rfl rfl rfl) ?_
        refine ops_op rfl rfl (runs_none rfl) (does_alloc rfl ti44 rfl rfl) ?_
        refine ops_eff rfl (runs_none rfl) (does_store rfl ti44 rfl rfl (List.getElem?_concat_length) rfl rfl rfl (by decide) (by decide)) ?_
        refine ops_op rfl rfl (runs_none rfl) (mv_s (.inr rfl) rfl) ?_
        refine ops_nil ?_
        repeat (first | refine aw_seq ?_ | refine ath_n ?_ | refine aw_skip ?_ | refine abl_n ?_ | refine aw_block ?_)
        refine aw_weak (wk_boxD (d := 29) (K := 6 + i) (F' := [(6, .ptr 0 1 0 0), (10, .own 3 1 i), (21, .ptr 1 1 0 0), (140, .own 4 1 i), (141, eI i), (142, eI k), (23, .mp (5 + k)), (24, eI (lsum pr)), (27, .own (5 + i) 2 j), (156, eI i), (157, eI j), (29, .ref (eF c).cells), (30, eI 0)]) (by rw [List.length_append, hlen2]; show 5 + i + 1 = 6 + i; omega) rfl (fun a ha => by
            rcases List.mem_append.1 ha with ha | ha
            · exact hkeep _ (fun t ht => rng_get (by omega)) a ha
            · rw [List.mem_singleton.1 ha]; exact .of _ _ (.row 2 _ (cellsF_lo _)))
          ⟨.ptr _ _ _ _ _ (rng_get (by omega)), .own _ _ _ _ _ (rng_get (by omega)) rfl, .ptr _ _ _ _ _ (rng_get (by omega)), .own _ _ _ _ _ (rng_get (by omega)) rfl, .lo _ (.s _), .lo _ (.s _), .mp _ _ (rng_get (by omega)), .lo _ (.s _), .own _ _ _ _ _ (rng_get (by omega)) rfl, .lo _ (.s _), .lo _ (.s _), .lo _ (.ref _ (lo_F c).cells), .lo _ (.s _), trivial⟩) ?_
        refine aw_region ?_
        refine ops_op rfl rfl (runs_none rfl) (mv_s (.inl rfl) rfl) ?_
        refine ops_op rfl rfl (runs_none rfl) (dec_f (fun h => h rfl) (does_neq rfl rfl rfl)) ?_
        refine ops_nil ?_
        repeat (first | refine aw_seq ?_ | refine ath_n ?_ | refine aw_skip ?_ | refine abl_n ?_ | refine aw_block ?_)
        refine aw_false rfl ?_
        repeat (first | refine aw_seq ?_ | refine ath_n ?_ | refine aw_skip ?_ | refine abl_n ?_ | refine aw_block ?_)
        refine aw_region ?_
        first | refine ops_op rfl rfl (runs_none rfl) (mv_own (.inl rfl) rfl) ?_ | refine ops_op rfl rfl (runs_none rfl) (mv_sl (.inl rfl) rfl) ?_ | refine ops_op rfl rfl (runs_none rfl) (mv_s (.inl rfl) rfl) ?_ | refine ops_op rfl rfl (runs_none rfl) (mv_emp (.inl rfl) rfl) ?_ | refine ops_op rfl rfl (runs_none rfl) (mv_sub (.inl rfl) rfl) ?_
        first | refine ops_op rfl rfl (runs_none rfl) (does_load_refw rfl ta44 ti44 rfl rfl) ?_ | refine ops_op rfl rfl (runs_none rfl) (does_load_whole rfl ta44 ti44 rfl rfl rfl rfl rfl) ?_ | refine ops_op rfl rfl (runs_none rfl) (does_load_refs rfl ta44 ti44 rfl (Nat.le_of_ble_eq_true rfl)) ?_ | refine ops_op rfl rfl (runs_none rfl) (does_load_ptrs rfl ta44 ti44 rfl rfl rfl rfl (Nat.le_of_ble_eq_true rfl)) ?_
        first | refine ops_op rfl rfl (runs_none rfl) (lit1_sF rfl ts46 ti44 rfl rfl rfl rfl) ?_ | refine ops_op rfl rfl (runs_none rfl) (lit1_slF rfl ts46 ti44 rfl rfl rfl rfl (by repeat' (first | exact Lo.s _ | exact Lo.emp | exact Lo.any | exact lo_nil | exact lo_nilE | refine lo_cons ?_ ?_ | refine lo_consE ?_ ?_ | refine lo_map ?_ | refine lo_mapE ?_ | refine Lo.cells ?_ | refine Lo.agg _ ?_ | refine Lo.ref _ ?_ | refine Lo.tup _ ?_ | refine Lo.fn _ _ ?_ | refine Lo.sl _ ?_ | intro _))) ?_ | refine ops_op rfl rfl (runs_none rfl) (does_litAF rfl ts46 ti44 rfl rfl (by decide) (by decide) rfl rfl rfl (by repeat' (first | exact Lo.s _ | exact Lo.emp | exact Lo.any | exact lo_nil | exact lo_nilE | refine lo_cons ?_ ?_ | refine lo_consE ?_ ?_ | refine lo_map ?_ | refine lo_mapE ?_ | refine Lo.cells ?_ | refine Lo.agg _ ?_ | refine Lo.ref _ ?_ | refine Lo.tup _ ?_ | refine Lo.fn _ _ ?_ | refine Lo.sl _ ?_ | intro _))) ?_
        refine ops_op rfl rfl (runs_none rfl) (does_append rfl ts46 ti44 rfl (by decide) rfl hrow2 (by rw [List.length_map, htl]) rfl (by first | exact .own _ _ _ rfl rfl _ (by first | rfl | simp) | exact .emp | exact .nil | exact .sl _ (by first | simp; done | intro e he; simp at he; obtain ⟨_, _, rfl⟩ := he; rfl)) (by first | omega | (simp; omega) | (unfold maxLen; simp; omega)) (by first | omega | (simp; omega) | (unfold maxLen; simp; omega))) ?_
        first | refine ops_op rfl rfl (runs_none rfl) (mv_own (.inr rfl) rfl) ?_ | refine ops_op rfl rfl (runs_none rfl) (mv_sl (.inr rfl) rfl) ?_ | refine ops_op rfl rfl (runs_none rfl) (mv_s (.inr rfl) rfl) ?_ | refine ops_op rfl rfl (runs_none rfl) (mv_emp (.inr rfl) rfl) ?_ | refine ops_op rfl rfl (runs_none rfl) (mv_sub (.inr rfl) rfl) ?_
        refine ops_nil ?_
        repeat (first | refine aw_seq ?_ | refine ath_n ?_ | refine aw_skip ?_ | refine abl_n ?_ | refine aw_block ?_)
        refine aw_region ?_
        refine ops_op rfl rfl (runs_none rfl) (does_add rfl rfl rfl (IntWalk.i64_in _ (by omega))) ?_
        refine ops_op rfl rfl (runs_none rfl) (mv_s (.inl rfl) rfl) ?_
        refine ops_nil ?_
        repeat (first | refine aw_seq ?_ | refine ath_n ?_ | refine aw_skip ?_ | refine abl_n ?_ | refine aw_block ?_)
        refine ⟨j + 1, by omega, by omega, wk_cast (by rw [htk, List.map_append]; rfl) (wk_lastA hlen2 hkeep (fun ρ => .of _ _ (.row 2 _ (by have h := cellsF_lo ((rowF i k r).take j ++ [c]); rw [List.map_append] at h; exact h)))
          ⟨.ptr _ _ _ _ _ (rngS_get (by omega)), .own _ _ _ _ _ (rngS_get (by omega)) rfl, .ptr _ _ _ _ _ (rngS_get (by omega)), .own _ _ _ _ _ (rngS_get (by omega)) rfl, .lo _ (.s _), .lo _ (.s _), .mp _ _ (rngS_get (by omega)), .lo _ (.s _), .own _ _ _ _ _ (by rw [List.length_append, hlen2]; exact rngS_eq) (by rw [List.length_map, htl]; rfl), .lo _ (.s _), .lo _ (by repeat' (first | exact Lo.s _ | exact Lo.emp | exact Lo.any | exact lo_nil | exact lo_nilE | refine lo_cons ?_ ?_ | refine lo_consE ?_ ?_ | refine lo_map ?_ | refine lo_mapE ?_ | refine Lo.cells ?_ | refine Lo.agg _ ?_ | refine Lo.ref _ ?_ | refine Lo.tup _ ?_ | refine Lo.fn _ _ ?_ | refine Lo.sl _ ?_ | intro _)), trivial⟩)⟩
      · have ej : j = i := by omega
        subst ej
        have hall : (rowF j k r).take j = rowF j k r := List.take_of_length_le (by omega)
        have hchl : (chF s).length = j := by unfold chF; simp; omega
        have hck : (chF s)[k]? = some (rowF j k r) := by
          unfold chF
          rw [List.getElem?_map, List.getElem?_range (by omega), ← e]
          show some (rowF j k (gti s.2 k)) = _
          rw [hr]
        have htk : (chF s).take (k + 1) = (chF s).take k ++ [rowF j k r] := by rw [List.take_succ_eq_append_getElem (by omega)]; congr 2; exact (List.getElem?_eq_some_iff.1 hck).2
        have hckl : ((chF s).take k).length = k := by rw [List.length_take]; omega
        rw [hall]
        (refine aw_exit ?_; repeat (first | refine ath_x ?_ | refine abl_hit ?_ | refine abl_miss rfl ?_ | refine abl_n ?_ | refine ath_n ?_ | refine aw_seq ?_ | refine aw_skip ?_ | refine aw_block ?_))
        refine aw_weak (wk_rowD (d := 27) (F' := [(6, .ptr 0 1 0 0), (10, .own 3 1 j), (21, .ptr 1 1 0 0), (140, .own 4 1 j), (141, eI j), (142, eI k), (27, eL eF (rowF j k r))]) hlen2 (by rw [List.length_map, hrl]; rfl) (hkeep _ (fun t ht => rng_get ht))
          ⟨.ptr _ _ _ _ _ (rng_get (by omega)), .own _ _ _ _ _ (rng_get (by omega)) rfl, .ptr _ _ _ _ _ (rng_get (by omega)), .own _ _ _ _ _ (rng_get (by omega)) rfl, .lo _ (.s _), .lo _ (.s _), .lo _ (lo_map fun a => lo_F a), trivial⟩) ?_
        have hrow3 : (((chF s).take k).map (eL eF)).length = k := by rw [List.length_map, hckl]
        refine aw_region ?_
        first | refine ops_op rfl rfl (runs_none rfl) (does_fieldAddr_ptr rfl tf33_0 (by decide) rfl) ?_ | refine ops_op rfl rfl (runs_none rfl) (does_fieldAddr_ref rfl tf33_0 (by decide) rfl) ?_
        first | refine ops_op rfl rfl (runs_none rfl) (does_load_ref rfl ta31 rfl) ?_ | refine ops_op rfl rfl (runs_none rfl) (does_load_ptr rfl ta31 rfl rfl rfl rfl rfl) ?_
        first | refine ops_op rfl rfl (runs_none rfl) (mv_own (.inl rfl) rfl) ?_ | refine ops_op rfl rfl (runs_none rfl) (mv_sl (.inl rfl) rfl) ?_ | refine ops_op rfl rfl (runs_none rfl) (mv_s (.inl rfl) rfl) ?_ | refine ops_op rfl rfl (runs_none rfl) (mv_emp (.inl rfl) rfl) ?_ | refine ops_op rfl rfl (runs_none rfl) (mv_sub (.inl rfl) rfl) ?_
        first | refine ops_op rfl rfl (runs_none rfl) (lit1_sF rfl ts31 ti46 rfl rfl rfl rfl) ?_ | refine ops_op rfl rfl (runs_none rfl) (lit1_slF rfl ts31 ti46 rfl rfl rfl rfl (by repeat' (first | exact Lo.s _ | exact Lo.emp | exact Lo.any | exact lo_nil | exact lo_nilE | refine lo_cons ?_ ?_ | refine lo_consE ?_ ?_ | refine lo_map ?_ | refine lo_mapE ?_ | refine Lo.cells ?_ | refine Lo.agg _ ?_ | refine Lo.ref _ ?_ | refine Lo.tup _ ?_ | refine Lo.fn _ _ ?_ | refine Lo.sl _ ?_ | intro _))) ?_ | refine ops_op rfl rfl (runs_none rfl) (does_litAF rfl ts31 ti46 rfl rfl (by decide) (by decide) rfl rfl rfl (by repeat' (first | exact Lo.s _ | exact Lo.emp | exact Lo.any | exact lo_nil | exact lo_nilE | refine lo_cons ?_ ?_ | refine lo_consE ?_ ?_ | refine lo_map ?_ | refine lo_mapE ?_ | refine Lo.cells ?_ | refine Lo.agg _ ?_ | refine Lo.ref _ ?_ | refine Lo.tup _ ?_ | refine Lo.fn _ _ ?_ | refine Lo.sl _ ?_ | intro _))) ?_
        first | refine ops_op rfl rfl (runs_none rfl) (does_append rfl ts31 ti46 rfl (by decide) rfl rfl (by first | rfl | (simp; done) | (simp; omega)) rfl (by first | exact .own _ _ _ rfl rfl _ (by first | rfl | simp) | exact .emp | exact .nil | exact .sl _ (by first | simp; done | intro e he; simp at he; obtain ⟨_, _, rfl⟩ := he; rfl)) (by first | omega | (simp; omega) | (unfold maxLen; simp; omega)) (by first | omega | (simp; omega) | (unfold maxLen; simp; omega))) ?_ | refine ops_op rfl rfl (runs_none rfl) (does_append0 rfl ts31 ti46 rfl (by decide) rfl (.inl rfl) rfl (by first | exact .own _ _ _ rfl rfl _ (by first | rfl | simp) | exact .emp | exact .nil | exact .sl _ (by first | simp; done | intro e he; simp at he; obtain ⟨_, _, rfl⟩ := he; rfl)) (by first | omega | (simp; omega) | (unfold maxLen; simp; omega)) (by first | omega | (simp; omega) | (unfold maxLen; simp; omega))) ?_ | refine ops_op rfl rfl (runs_none rfl) (does_append0 rfl ts31 ti46 rfl (by decide) rfl (.inr rfl) rfl (by first | exact .own _ _ _ rfl rfl _ (by first | rfl | simp) | exact .emp | exact .nil | exact .sl _ (by first | simp; done | intro e he; simp at he; obtain ⟨_, _, rfl⟩ := he; rfl)) (by first | omega | (simp; omega) | (unfold maxLen; simp; omega)) (by first | omega | (simp; omega) | (unfold maxLen; simp; omega))) ?_
        first | refine ops_op rfl rfl (runs_none rfl) (does_fieldAddr_ptr rfl tf33_0 (by decide) rfl) ?_ | refine ops_op rfl rfl (runs_none rfl) (does_fieldAddr_ref rfl tf33_0 (by decide) rfl) ?_
        refine ops_eff rfl (runs_none rfl) (does_store rfl ti31 rfl rfl rfl rfl rfl rfl (by decide) (by decide)) ?_
        refine ops_nil ?_
        repeat (first | refine aw_seq ?_ | refine ath_n ?_ | refine aw_skip ?_ | refine abl_n ?_ | refine aw_block ?_)
        refine aw_region ?_
        refine ops_op rfl rfl (runs_none rfl) (does_add rfl rfl rfl (IntWalk.i64_in _ (by omega))) ?_
        refine ops_op rfl rfl (runs_none rfl) (mv_s (.inl rfl) rfl) ?_
        refine ops_nil ?_
        repeat (first | refine aw_seq ?_ | refine ath_n ?_ | refine aw_skip ?_ | refine abl_n ?_ | refine aw_block ?_)
        have hlo5 := rowsF_lo ((chF s).take k ++ [rowF j k r])
        rw [List.map_append] at hlo5
        refine ⟨k + 1, by omega, by omega, wk_ren2 (mv (5 + j) 2) (mv_nd _ _) (by
            rw [htk, List.map_append]
            refine stoM_mvOut (K := 5 + j) (q := k + 1) ?_ (by omega) (by omega) zC_keep (rows_lo _) hlo5
            show [AV.own (stoM _ _ _ _).length 1 _] = _
            rw [hlen2, hrow3]; rfl)
          ⟨.ptr _ _ _ _ _ (mv_ne (by omega) (by omega)), .own _ _ _ _ _ (mv_ne (by omega) (by omega)) rfl, .ptr _ _ _ _ _ (mv_ne (by omega) (by omega)), .own _ _ _ _ _ (mv_ne (by omega) (by omega)) rfl, .lo _ (.s _), .lo _ (by repeat' (first | exact Lo.s _ | exact Lo.emp | exact Lo.any | exact lo_nil | exact lo_nilE | refine lo_cons ?_ ?_ | refine lo_consE ?_ ?_ | refine lo_map ?_ | refine lo_mapE ?_ | refine Lo.cells ?_ | refine Lo.agg _ ?_ | refine Lo.ref _ ?_ | refine Lo.tup _ ?_ | refine Lo.fn _ _ ?_ | refine Lo.sl _ ?_ | intro _)), trivial⟩⟩
    · have ek : k = i := by omega
      subst ek
      have hchl : (chF s).length = k := by unfold chF; simp; omega
      have hall : (chF s).take k = chF s := List.take_of_length_le (by omega)
      rw [hall]
      (refine aw_exit ?_; repeat (first | refine ath_x ?_ | refine abl_hit ?_ | refine abl_miss rfl ?_ | refine abl_n ?_ | refine ath_n ?_ | refine aw_seq ?_ | refine aw_skip ?_ | refine aw_block ?_))
      refine aw_region ?_
      first | refine ops_op rfl rfl (runs_none rfl) (does_load_refw rfl ta33 ti33 rfl rfl) ?_ | refine ops_op rfl rfl (runs_none rfl) (does_load_whole rfl ta33 ti33 rfl rfl rfl rfl rfl) ?_ | refine ops_op rfl rfl (runs_none rfl) (does_load_refs rfl ta33 ti33 rfl (Nat.le_of_ble_eq_true rfl)) ?_ | refine ops_op rfl rfl (runs_none rfl) (does_load_ptrs rfl ta33 ti33 rfl rfl rfl rfl (Nat.le_of_ble_eq_true rfl)) ?_
      refine ops_eff rfl (runs_none rfl) (does_store rfl ti33 rfl rfl rfl rfl rfl rfl (by decide) (by decide)) ?_
      refine ops_op rfl rfl (runs_none rfl) (mv_s (.inr rfl) rfl) ?_
      refine ops_nil ?_
      repeat (first | refine aw_seq ?_ | refine ath_n ?_ | refine aw_skip ?_ | refine abl_n ?_ | refine aw_block ?_)
      (refine aw_ret ?_; repeat (first | refine ath_r ?_ | refine abl_r ?_))
      exact post_cs (N := 0) (.inr rfl) ta33 ti33 rfl rfl rfl rfl rfl rfl (.agg _ _ rfl (FiniL.cons (.own _ _ _ _ _ rfl rfl (by rw [List.length_map]; exact hchl.symm)) FiniL.nil).2) (.refl _)
  have hlt : i < s.1.length := by omega
  have hf : most.toNat + 1 - i = most.toNat - i + 1 := by omega
  rw [hf, wExp_eq, if_pos hlt] at hE
  obtain ⟨hx0⟩ : Nonempty (markB n (gti s.1 i) = true) := ⟨hs.mks _ (gti_mem hlt)⟩
  have hxi : s.1[i]? = some (gti s.1 i) := gti_get hlt
  have hix : (s.1.map (eL eI))[i]? = some (eL eI (gti s.1 i)) := ix_map hlt
  have hnext := fun r h => hs.next (i := i) (r := r) (by omega) hwt hpl.2.2 hi.symm hlt h
  have hpos := fun r => wRow_pos (n := n) (wts := wts) (most := most) (x := gti s.1 i) (by omega) hx0 hwt (by omega) (enabledL (gti s.1 i) 0 n.trans) (s.1, z20) r (fun t ht => by have := enabledL_in _ 0 n.trans t ht; omega) (WI.start hs.mks hle)
  have henl := enabledL_len (gti s.1 i) 0 n.trans
  have heni := fun t ht => enabledL_in (gti s.1 i) 0 n.trans t ht
  generalize gti s.1 i = x at hE hx0 hxi hix hnext hpos henl heni
  have hen := enabled_pf (P := P) n x
  have hoe : enabledE n x = (enabledL x 0 n.trans, 0) := by unfold enabledE; rw [if_pos hx0]
  rw [hoe] at hen
  generalize enabledL x 0 n.trans = on at hE hen hnext hpos henl heni
  replace hen : Pure P 22 [eN n, eL eI x] (.tup [eL eI on, eI 0]) := hen
  generalize hK : (fun r : WS => wExp n wts most (most.toNat - i) (i + 1) (r.1, s.2 ++ [r.2])) = K at hE
  have hsl : (s.1.map (eL eI)).length = s.1.length := by simp
  all_goals refine aw_draw hmix ?_
  all_goals refine adraw_ex ?_
  all_goals (first | refine ex_free rfl rfl (runs_none rfl) (fun _ => (does_load_refw rfl ta24 ti24 rfl rfl)) ?_ | refine ex_look rfl rfl (runs_none rfl) (look_whole rfl ta24 ti24 rfl rfl rfl rfl rfl) ?_ | refine ex_free rfl rfl (runs_none rfl) (fun _ => (does_load_refs rfl ta24 ti24 rfl (Nat.le_of_ble_eq_true rfl))) ?_ | refine ex_look rfl rfl (runs_none rfl) (look_ptrs rfl ta24 ti24 rfl rfl rfl rfl (Nat.le_of_ble_eq_true rfl)) ?_)
  all_goals (first | refine ex_free rfl rfl (runs_none rfl) (fun _ => (mv_own (.inl rfl) rfl)) ?_ | refine ex_free rfl rfl (runs_none rfl) (fun _ => (mv_sl (.inl rfl) rfl)) ?_ | refine ex_free rfl rfl (runs_none rfl) (fun _ => (mv_s (.inl rfl) rfl)) ?_ | refine ex_free rfl rfl (runs_none rfl) (fun _ => (mv_emp (.inl rfl) rfl)) ?_ | refine ex_free rfl rfl (runs_none rfl) (fun _ => (mv_sub (.inl rfl) rfl)) ?_)
  all_goals refine ex_free rfl rfl (runs_none rfl) (fun _ => (mv_s (.inl rfl) rfl)) ?_
  all_goals (first | refine ex_free rfl rfl (runs_none rfl) (fun _ => (does_index_sl rfl ts56 ti25 rfl rfl rfl hlt rfl)) ?_ | refine ex_free rfl rfl (runs_none rfl) (fun _ => (does_index_own rfl ts56 ti25 rfl rfl rfl hlt)) ?_ | refine ex_free rfl rfl (runs_none rfl) (fun _ => (does_index_sub rfl ts56 ti25 rfl rfl rfl hlt)) ?_)
  all_goals (first | refine ex_free rfl rfl (runs_none rfl) (fun _ => (does_load_ref rfl ta25 rfl)) ?_ | refine ex_look rfl rfl (runs_none rfl) (look_ptr rfl ta25 rfl rfl rfl hix rfl) ?_)
  all_goals refine ex_free rfl rfl (runs_none rfl) (fun _ => (does_call rfl rfl (hen) (evc_cons rfl (evc_cons rfl evc_nil)))) ?_
  all_goals (first | refine ex_free rfl rfl (runs_none rfl) (fun _ => (mv_tup (.inl rfl) rfl)) ?_ | refine ex_free rfl rfl (runs_none rfl) (fun _ => (mv_s (.inl rfl) rfl)) ?_)
  all_goals refine ex_free rfl rfl (runs_none rfl) (fun _ => (does_extract rfl rfl rfl)) ?_
  all_goals refine ex_free rfl rfl (runs_none rfl) (fun _ => (does_extract rfl rfl rfl)) ?_
  all_goals (first | refine ex_free rfl rfl (runs_none rfl) (fun _ => (mv_own (.inr rfl) rfl)) ?_ | refine ex_free rfl rfl (runs_none rfl) (fun _ => (mv_sl (.inr rfl) rfl)) ?_ | refine ex_free rfl rfl (runs_none rfl) (fun _ => (mv_s (.inr rfl) rfl)) ?_ | refine ex_free rfl rfl (runs_none rfl) (fun _ => (mv_emp (.inr rfl) rfl)) ?_ | refine ex_free rfl rfl (runs_none rfl) (fun _ => (mv_sub (.inr rfl) rfl)) ?_)
  all_goals refine ex_free rfl rfl (runs_none rfl) (fun _ => (mv_s (.inr rfl) rfl)) ?_
  all_goals refine ex_nil (by kernel_rfl) ?_
  all_goals (repeat (first | refine aw_seq ?_ | refine ath_n ?_ | refine aw_skip ?_ | refine abl_n ?_ | refine aw_block ?_))
  refine aw_region ?_
  refine ops_op rfl rfl (runs_none rfl) (mv_s (.inl rfl) rfl) ?_
  refine ops_op rfl rfl (runs_none rfl) (dec_f (fun h => h rfl) (does_neq rfl rfl rfl)) ?_
  refine ops_nil ?_
  repeat (first | refine aw_seq ?_ | refine ath_n ?_ | refine aw_skip ?_ | refine abl_n ?_ | refine aw_block ?_)
  refine aw_false rfl ?_
  repeat (first | refine aw_seq ?_ | refine ath_n ?_ | refine aw_skip ?_ | refine abl_n ?_ | refine aw_block ?_)
  refine aw_region ?_
  refine ops_op rfl rfl (runs_none rfl) (does_mkmap rfl tm59) ?_
  first | refine ops_op rfl rfl (runs_none rfl) (mv_mp (.inr rfl) rfl) ?_ | refine ops_op rfl rfl (runs_none rfl) (mv_s (.inr rfl) rfl) ?_
  refine ops_nil ?_
  repeat (first | refine aw_seq ?_ | refine ath_n ?_ | refine aw_skip ?_ | refine abl_n ?_ | refine aw_block ?_)
  refine aw_region ?_
  first | refine ops_op rfl rfl (runs_none rfl) (mv_own (.inl rfl) rfl) ?_ | refine ops_op rfl rfl (runs_none rfl) (mv_sl (.inl rfl) rfl) ?_ | refine ops_op rfl rfl (runs_none rfl) (mv_s (.inl rfl) rfl) ?_ | refine ops_op rfl rfl (runs_none rfl) (mv_emp (.inl rfl) rfl) ?_ | refine ops_op rfl rfl (runs_none rfl) (mv_sub (.inl rfl) rfl) ?_
  first | refine ops_op rfl rfl (runs_none rfl) (does_len_map rfl ts25 rfl) ?_ | refine ops_op rfl rfl (runs_none rfl) (does_len_sl rfl ts25 rfl) ?_ | refine ops_op rfl rfl (runs_none rfl) (does_len_own rfl ts25 rfl) ?_ | refine ops_op rfl rfl (runs_none rfl) (does_len_s rfl ts25 rfl) ?_ | refine ops_op rfl rfl (runs_none rfl) (does_len_emp rfl ts25 rfl) ?_ | refine ops_op rfl rfl (runs_none rfl) (does_len_sub rfl ts25 rfl) ?_
  refine ops_op rfl rfl (runs_none rfl) (mv_s (.inl rfl) rfl) ?_
  refine ops_nil ?_
  repeat (first | refine aw_seq ?_ | refine ath_n ?_ | refine aw_skip ?_ | refine abl_n ?_ | refine aw_block ?_)
  refine aw_bdm (d := 13) rfl (fun hmx => ?_)
  unfold maxLen at hmx
  refine aw_loops (S := Nat × WS × MapX) (fun p => [(1, eL eI wts), (2, eI most), (3, .ref (eN n).cells), (6, .ptr 0 1 0 0), (10, .own 1 1 p.2.1.1.length), (11, .own 2 1 i), (12, eI i), (13, eL eI on), (15, .mp (3 + i)), (87, eL eI on), (88, eI on.length), (89, eI p.1)])
    (fun p => stoM [.row 1 [zCA]] (p.2.1.1.map (eL eI)) i (Xs ++ [p.2.2]))
    (fun p => p.1 ≤ on.length ∧ WI n most p.2.1 ∧ p.2.1.1[i]? = some x ∧ (p.2.2.P = P ∧ p.2.2.kt = 3 ∧ p.2.2.el = 3) ∧ p.2.2.n ≤ p.1 ∧ MR p.2.2.D p.2.1.2 ∧ lsum p.2.1.2 ≤ 1000 * p.1 ∧ bindE (wRow n wts most x (on.drop p.1) p.2.1) K = R0 ∧ wRow n wts most x (on.drop p.1) p.2.1 = wRow n wts most x on (s.1, z20)) (fun p => on.length - p.1) (0, (s.1, z20), ⟨P, 3, 3, 0, .map []⟩) ?_ ?_ (fun p hp => ?_)
  · exact wk_subE (stoM_new _ _ _ _ _) ⟨rfl, rfl, rfl, rfl, rfl, rfl, rfl, rfl, congrArg AV.mp (by unfold stF; rw [stoM_len]; show 1 + 2 + Xs.length = 3 + i; omega), rfl, rfl, rfl, trivial⟩
  · exact ⟨Nat.zero_le _, WI.start hs.mks hle, hxi, ⟨rfl, rfl, rfl⟩, Nat.le_refl _, MR.zero, by show lsum z20 ≤ _; rw [lsum_z20]; simp, hE, rfl⟩
  clear hE hix hxi hsl
  obtain ⟨q, ⟨mk, r⟩, X⟩ := p
  obtain ⟨hq, hw8, hxi, hXp, hXn, hMR, hsm, hE, hW⟩ := hp
  replace hW : wRow n wts most x (on.drop q) (mk, r) = wRow n wts most x on (s.1, z20) := hW
  replace hq : q ≤ on.length := hq
  replace hxi : mk[i]? = some x := hxi
  replace hXp : X.P = P ∧ X.kt = 3 ∧ X.el = 3 := hXp
  replace hXn : X.n ≤ q := hXn
  replace hMR : MR X.D r := hMR
  replace hsm : lsum r ≤ 1000 * q := hsm
  replace hE : bindE (wRow n wts most x (on.drop q) (mk, r)) K = R0 := hE
  have hml : (mk.length : Int) ≤ most := hw8.len
  have hrl : r.length = 20 := hw8.r20
  have hil : i < mk.length := (List.getElem?_eq_some_iff.1 hxi).1
  have hix : (mk.map (eL eI))[i]? = some (eL eI x) := by rw [List.getElem?_map, hxi]; rfl
  have hsl : (mk.map (eL eI)).length = mk.length := by simp
  repeat (first | refine aw_seq ?_ | refine ath_n ?_ | refine aw_skip ?_ | refine abl_n ?_ | refine aw_block ?_)
  all_goals refine aw_region ?_
  all_goals (first | refine ops_opP rfl rfl (runs_none rfl) (does_lss rfl rfl rfl) (fun h90 => ?_) (fun h90 => ?_) | refine ops_opB rfl rfl (runs_none rfl) (does_lss rfl rfl rfl) (fun h90 => ?_) (fun h90 => ?_))
  all_goals refine ops_nil ?_
  all_goals (repeat (first | refine aw_seq ?_ | refine ath_n ?_ | refine aw_skip ?_ | refine abl_n ?_ | refine aw_block ?_))
  all_goals (first | refine aw_true rfl ?_ | refine aw_false rfl ?_)
  all_goals (repeat (first | refine aw_seq ?_ | refine ath_n ?_ | refine aw_skip ?_ | refine abl_n ?_ | refine aw_block ?_))
  all_goals dsimp only at h90
  rotate_left 1
  · have e : q = on.length := by omega
    subst e
    rw [List.drop_length] at hE hW
    replace hW : wRow n wts most x on (s.1, z20) = .inr (mk, r) := hW.symm
    have hnextq := hnext _ hW
    replace hE : K (mk, r) = R0 := hE
    (refine aw_exit ?_; repeat (first | refine ath_x ?_ | refine abl_hit ?_ | refine abl_miss rfl ?_ | refine abl_n ?_ | refine ath_n ?_ | refine aw_seq ?_ | refine aw_skip ?_ | refine aw_block ?_))
    refine aw_region ?_
    first | refine ops_op rfl rfl (runs_none rfl) (mv_own (.inl rfl) rfl) ?_ | refine ops_op rfl rfl (runs_none rfl) (mv_sl (.inl rfl) rfl) ?_ | refine ops_op rfl rfl (runs_none rfl) (mv_s (.inl rfl) rfl) ?_ | refine ops_op rfl rfl (runs_none rfl) (mv_emp (.inl rfl) rfl) ?_ | refine ops_op rfl rfl (runs_none rfl) (mv_sub (.inl rfl) rfl) ?_
    first | refine ops_op rfl rfl (runs_none rfl) (does_len_map rfl ts25 rfl) ?_ | refine ops_op rfl rfl (runs_none rfl) (does_len_sl rfl ts25 rfl) ?_ | refine ops_op rfl rfl (runs_none rfl) (does_len_own rfl ts25 rfl) ?_ | refine ops_op rfl rfl (runs_none rfl) (does_len_s rfl ts25 rfl) ?_ | refine ops_op rfl rfl (runs_none rfl) (does_len_emp rfl ts25 rfl) ?_ | refine ops_op rfl rfl (runs_none rfl) (does_len_sub rfl ts25 rfl) ?_
    refine ops_op rfl rfl (runs_none rfl) (does_eql rfl rfl rfl) ?_
    refine ops_nil ?_
    repeat (first | refine aw_seq ?_ | refine ath_n ?_ | refine aw_skip ?_ | refine abl_n ?_ | refine aw_block ?_)
    refine aw_cuts (S := MapX) (fun Y => [(1, eL eI wts), (2, eI most), (3, .ref (eN n).cells), (6, .ptr 0 1 0 0), (10, .own 1 1 mk.length), (11, .own 2 1 i), (12, eI i), (15, .mp (3 + i))])
      (fun Y => stoM [.row 1 [zCA]] (mk.map (eL eI)) i (Xs ++ [Y])) (fun Y => MX P Y (prow i r)) ?_ (fun Y hY => ?_)
    · have hget : (stoM [.row 1 [zCA]] (mk.map (eL eI)) i (Xs ++ [X]))[3 + i]? = some (.mp X) := stoM_map (A := [.row 1 [zCA]]) (by rw [show i = Xs.length by omega]; simp)
      refine aw_if rfl (fun h133 => ?_) (fun h133 => ?_)
      · have hr0 : r = z20 := z20_of hrl hw8.nn (by have := (lsum_nn r hw8.nn).1; omega)
        subst hr0
        have hp : prow i z20 = z20.set i 1 := by unfold prow; rw [if_pos lsum_z20]
        have hput := hMR.put (k := i) (by omega) hrl (v := 1) (by omega)
        have hwfk : (Lit.int .i64 (i : Int)).wf = true := wf_len (by omega)
        have hnX : X.n < maxLen := by unfold maxLen; omega
        repeat (first | refine aw_seq ?_ | refine ath_n ?_ | refine aw_skip ?_ | refine abl_n ?_ | refine aw_block ?_)
        refine aw_region ?_
        first | refine ops_op rfl rfl (runs_none rfl) (mv_mp (.inl rfl) rfl) ?_ | refine ops_op rfl rfl (runs_none rfl) (mv_s (.inl rfl) rfl) ?_
        refine ops_op rfl rfl (runs_none rfl) (mv_s (.inl rfl) rfl) ?_
        refine ops_eff rfl (runs_none rfl) (does_mapput (.inl rfl) tm59 tK3 rfl hget hXp hnX rfl rfl (keyOf_int_mk tn3 hwfk) (plainElem_int tn3 rfl)) ?_
        refine ops_nil ?_
        repeat (first | refine aw_seq ?_ | refine ath_n ?_ | refine aw_skip ?_ | refine abl_n ?_ | refine aw_block ?_)
        refine ⟨{ X with n := X.n + 1, D := X.D.put (kI i) (.lit (.int .i64 1)) }, ⟨hXp, by show X.n + 1 ≤ 61; omega, by rw [hp]; exact hput⟩, wk_subE ?_ ⟨rfl, rfl, rfl, rfl, rfl, rfl, rfl, rfl, trivial⟩⟩
        have e := stoM_set (A := [.row 1 [zCA]]) (mk := mk.map (eL eI)) (n := i) (Xs := Xs ++ [X]) (j := i) { X with n := X.n + 1, D := X.D.put (kI i) (.lit (.int .i64 1)) }
        have e2 : (Xs ++ [X]).set i { X with n := X.n + 1, D := X.D.put (kI i) (.lit (.int .i64 1)) } = Xs ++ [{ X with n := X.n + 1, D := X.D.put (kI i) (.lit (.int .i64 1)) }] := by
          rw [List.set_append_right _ _ (by omega), show i - Xs.length = 0 by omega]; rfl
        rw [e2] at e
        exact e
      · have hp : prow i r = r := by
          unfold prow
          have hp0 : 0 < lsum r := hpos _ hW (fun h => by rw [h] at h133; exact h133 rfl)
          rw [if_neg (by omega)]
        repeat (first | refine aw_seq ?_ | refine ath_n ?_ | refine aw_skip ?_ | refine abl_n ?_ | refine aw_block ?_)
        exact ⟨X, ⟨hXp, by omega, by rw [hp]; exact hMR⟩, wk_sub _ ⟨rfl, rfl, rfl, rfl, rfl, rfl, rfl, rfl, trivial⟩⟩
    have hml2 : (stoM [.row 1 [zCA]] (mk.map (eL eI)) i (Xs ++ [Y])).length = 4 + i := by rw [stoM_len]; simp; omega
    refine aw_region ?_
    first | refine ops_op rfl rfl (runs_none rfl) (mv_own (.inl rfl) rfl) ?_ | refine ops_op rfl rfl (runs_none rfl) (mv_sl (.inl rfl) rfl) ?_ | refine ops_op rfl rfl (runs_none rfl) (mv_s (.inl rfl) rfl) ?_ | refine ops_op rfl rfl (runs_none rfl) (mv_emp (.inl rfl) rfl) ?_ | refine ops_op rfl rfl (runs_none rfl) (mv_sub (.inl rfl) rfl) ?_
    first | refine ops_op rfl rfl (runs_none rfl) (mv_mp (.inl rfl) rfl) ?_ | refine ops_op rfl rfl (runs_none rfl) (mv_s (.inl rfl) rfl) ?_
    refine ops_op rfl rfl (runs_none rfl) (does_lit1 rfl ts57 ti59 rfl rfl rfl rfl) ?_
    refine ops_op rfl rfl (runs_none rfl) (does_append rfl ts57 ti59 rfl (by decide) rfl rfl (mpR_len _ _).symm rfl (.own _ _ _ (List.getElem?_concat_length) rfl _ rfl) (by rw [mpR_len]; unfold maxLen; simp; omega) (by rw [mpR_len]; simp; omega)) ?_
    first | refine ops_op rfl rfl (runs_none rfl) (mv_own (.inr rfl) rfl) ?_ | refine ops_op rfl rfl (runs_none rfl) (mv_sl (.inr rfl) rfl) ?_ | refine ops_op rfl rfl (runs_none rfl) (mv_s (.inr rfl) rfl) ?_ | refine ops_op rfl rfl (runs_none rfl) (mv_emp (.inr rfl) rfl) ?_ | refine ops_op rfl rfl (runs_none rfl) (mv_sub (.inr rfl) rfl) ?_
    refine ops_nil ?_
    repeat (first | refine aw_seq ?_ | refine ath_n ?_ | refine aw_skip ?_ | refine abl_n ?_ | refine aw_block ?_)
    refine aw_region ?_
    refine ops_op rfl rfl (runs_none rfl) (mv_s (.inl rfl) rfl) ?_
    refine ops_op rfl rfl (runs_none rfl) (does_add rfl rfl rfl (IntWalk.i64_in _ (by omega))) ?_
    refine ops_op rfl rfl (runs_none rfl) (mv_s (.inr rfl) rfl) ?_
    refine ops_nil ?_
    repeat (first | refine aw_seq ?_ | refine ath_n ?_ | refine aw_skip ?_ | refine abl_n ?_ | refine aw_block ?_)
    refine ⟨(i + 1, (mk, s.2 ++ [r]), Xs ++ [Y]), ⟨hnextq, by simp; omega, hX.snoc (by rw [hi]; exact hY), ?_⟩, by show most.toNat + 1 - (i + 1) < most.toNat + 1 - i; omega, wk_ren2 (mvTo (4 + i) 2 (4 + i + 1)) (mvTo_nd (by omega)) (stoM_toRows (by simp; omega) (by simp; omega) zC_keep (rows_lo mk)) ⟨.lo _ lo_I, .lo _ (.s _), .lo _ hln, .ptr _ _ _ _ _ (mvTo_ne (by omega) (by omega)), .own _ _ _ _ _ (mvTo_ne (by omega) (by omega)) rfl, .own _ _ _ _ _ (by rw [List.length_append, hml2]; exact mvTo_eq (by omega)) (by rw [mpR_len]; rfl), .lo _ (by repeat' (first | exact Lo.s _ | exact Lo.emp | exact Lo.any | exact lo_nil | exact lo_nilE | refine lo_cons ?_ ?_ | refine lo_consE ?_ ?_ | refine lo_map ?_ | refine lo_mapE ?_ | refine Lo.cells ?_ | refine Lo.agg _ ?_ | refine Lo.ref _ ?_ | refine Lo.tup _ ?_ | refine Lo.fn _ _ ?_ | refine Lo.sl _ ?_ | intro _)), trivial⟩⟩
    show wExp n wts most (most.toNat + 1 - (i + 1)) (i + 1) (mk, s.2 ++ [r]) = R0
    rw [show most.toNat + 1 - (i + 1) = most.toNat - i by omega]
    rw [← hK] at hE
    exact hE
  have hqt : q < on.length := by omega
  rw [drop_gti hqt] at hE hW
  have hiq : (on.map eI)[q]? = some (eI (gti on q)) := ix_map hqt
  have htr := heni _ (gti_mem hqt)
  generalize gti on q = t0 at hE hiq htr hW
  obtain ⟨t, rfl⟩ := Int.eq_ofNat_of_zero_le (show 0 ≤ t0 by omega)
  have hF := Fire_pf (P := P) n x t
  have hst : wRow n wts most x (t :: on.drop (q + 1)) (mk, r) = (match wStep n wts most x t (mk, r) with | .inl e => .inl e | .inr s' => wRow n wts most x (on.drop (q + 1)) s') := rfl
  rw [hst] at hE hW
  have hstep := fun s' h => hw8.step (n := n) (wts := wts) (x := x) (t := t) (s' := s') (by omega) hx0 (wtsB_gti hwt _).1.1 h
  have hwS : wStep n wts most x t (mk, r) = if (FireE n x t).2 ≠ 0 then .inl (FireE n x t).2
      else if findI mk (FireE n x t).1 < 0 then (if most ≤ mk.length then .inl 13 else .inr (mk ++ [(FireE n x t).1], addR r mk.length (gti wts t)))
      else .inr (mk, addR r (findI mk (FireE n x t).1).toNat (gti wts t)) := rfl
  have hwt2 := wtsB_gti hwt t
  generalize FireE n x t = y at hF hwS
  have hfy := yfind_pf (P := P) mk y.1
  refine aw_region ?_
  first | refine ops_op rfl rfl (runs_none rfl) (does_index_sl rfl ts25 ti3 rfl rfl rfl hiq rfl) ?_ | refine ops_op rfl rfl (runs_none rfl) (does_index_own rfl ts25 ti3 rfl rfl rfl hiq) ?_ | refine ops_op rfl rfl (runs_none rfl) (does_index_sub rfl ts25 ti3 rfl rfl rfl hiq) ?_
  first | refine ops_op rfl rfl (runs_none rfl) (does_load_ref rfl ta3 rfl) ?_ | refine ops_op rfl rfl (runs_none rfl) (does_load_ptr rfl ta3 rfl rfl rfl rfl rfl) ?_
  refine ops_op rfl rfl (runs_none rfl) (mv_s (.inr rfl) rfl) ?_
  refine ops_nil ?_
  repeat (first | refine aw_seq ?_ | refine ath_n ?_ | refine aw_skip ?_ | refine abl_n ?_ | refine aw_block ?_)
  all_goals refine aw_draw hmix ?_
  all_goals refine adraw_ex ?_
  all_goals (first | refine ex_free rfl rfl (runs_none rfl) (fun _ => (does_load_refw rfl ta24 ti24 rfl rfl)) ?_ | refine ex_look rfl rfl (runs_none rfl) (look_whole rfl ta24 ti24 rfl rfl rfl rfl rfl) ?_ | refine ex_free rfl rfl (runs_none rfl) (fun _ => (does_load_refs rfl ta24 ti24 rfl (Nat.le_of_ble_eq_true rfl))) ?_ | refine ex_look rfl rfl (runs_none rfl) (look_ptrs rfl ta24 ti24 rfl rfl rfl rfl (Nat.le_of_ble_eq_true rfl)) ?_)
  all_goals (first | refine ex_free rfl rfl (runs_none rfl) (fun _ => (mv_own (.inl rfl) rfl)) ?_ | refine ex_free rfl rfl (runs_none rfl) (fun _ => (mv_sl (.inl rfl) rfl)) ?_ | refine ex_free rfl rfl (runs_none rfl) (fun _ => (mv_s (.inl rfl) rfl)) ?_ | refine ex_free rfl rfl (runs_none rfl) (fun _ => (mv_emp (.inl rfl) rfl)) ?_ | refine ex_free rfl rfl (runs_none rfl) (fun _ => (mv_sub (.inl rfl) rfl)) ?_)
  all_goals refine ex_free rfl rfl (runs_none rfl) (fun _ => (mv_s (.inl rfl) rfl)) ?_
  all_goals (first | refine ex_free rfl rfl (runs_none rfl) (fun _ => (does_index_sl rfl ts56 ti25 rfl rfl rfl hil rfl)) ?_ | refine ex_free rfl rfl (runs_none rfl) (fun _ => (does_index_own rfl ts56 ti25 rfl rfl rfl hil)) ?_ | refine ex_free rfl rfl (runs_none rfl) (fun _ => (does_index_sub rfl ts56 ti25 rfl rfl rfl hil)) ?_)
  all_goals (first | refine ex_free rfl rfl (runs_none rfl) (fun _ => (does_load_ref rfl ta25 rfl)) ?_ | refine ex_look rfl rfl (runs_none rfl) (look_ptr rfl ta25 rfl rfl rfl hix rfl) ?_)
  all_goals refine ex_free rfl rfl (runs_none rfl) (fun _ => (mv_s (.inl rfl) rfl)) ?_
  all_goals refine ex_free rfl rfl (runs_none rfl) (fun _ => (does_call rfl rfl (hF) (evc_cons rfl (evc_cons rfl (evc_cons rfl evc_nil))))) ?_
  all_goals (first | refine ex_free rfl rfl (runs_none rfl) (fun _ => (mv_tup (.inl rfl) rfl)) ?_ | refine ex_free rfl rfl (runs_none rfl) (fun _ => (mv_s (.inl rfl) rfl)) ?_)
  all_goals refine ex_free rfl rfl (runs_none rfl) (fun _ => (does_extract rfl rfl rfl)) ?_
  all_goals refine ex_free rfl rfl (runs_none rfl) (fun _ => (does_extract rfl rfl rfl)) ?_
  all_goals refine ex_eff rfl rfl (runs_none rfl) (does_alloc rfl ti25 rfl rfl) (fun _ h => app_other h) ?_
  all_goals refine ex_eff0 rfl (runs_none rfl) (does_store rfl ti25 rfl rfl (List.getElem?_concat_length) rfl rfl rfl (by decide) (by decide)) (fun _ h => set_other h) ?_
  all_goals refine ex_free rfl rfl (runs_none rfl) (fun _ => (mv_s (.inr rfl) rfl)) ?_
  all_goals refine ex_nil (by kernel_rfl) ?_
  all_goals (repeat (first | refine aw_seq ?_ | refine ath_n ?_ | refine aw_skip ?_ | refine abl_n ?_ | refine aw_block ?_))
  have hKl : (stoM [.row 1 [zCA]] (mk.map (eL eI)) i (Xs ++ [X])).length = 4 + i := by rw [stoM_len]; simp; omega
  have hXi : (Xs ++ [X])[i]? = some X := by rw [show i = Xs.length by omega]; simp
  refine aw_weak (wk_boxD (d := 18) (K := 4 + i) (F' := [(1, eL eI wts), (2, eI most), (3, .ref (eN n).cells), (6, .ptr 0 1 0 0), (10, .own 1 1 mk.length), (11, .own 2 1 i), (12, eI i), (13, eL eI on), (15, .mp (3 + i)), (87, eL eI on), (88, eI on.length), (89, eI q), (17, eI t), (18, .ref (eL eI y.1).cells), (19, eI y.2)]) hKl rfl
    (stoM_keep (K := 4 + i) (fun j hj => rng_get hj) (by simp; omega) (by simp; omega) (by intro a ha; simp at ha; subst ha; exact zC_keep _) (rows_lo mk))
    ⟨.lo _ lo_I, .lo _ (.s _), .lo _ hln, .ptr _ _ _ _ _ (rng_get (by omega)), .own _ _ _ _ _ (rng_get (by omega)) rfl, .own _ _ _ _ _ (rng_get (by omega)) rfl, .lo _ (.s _), .lo _ lo_I, .mp _ _ (rng_get (by omega)), .lo _ lo_I, .lo _ (.s _), .lo _ (.s _), .lo _ (.s _), .lo _ (.ref _ lo_I.cells), .lo _ (.s _), trivial⟩) ?_
  all_goals refine aw_region ?_
  all_goals refine ops_op rfl rfl (runs_none rfl) (mv_s (.inl rfl) rfl) ?_
  all_goals (first | refine ops_opP rfl rfl (runs_none rfl) (does_neq rfl rfl rfl) (fun h104 => ?_) (fun h104 => ?_) | refine ops_opB rfl rfl (runs_none rfl) (does_neq rfl rfl rfl) (fun h104 => ?_) (fun h104 => ?_))
  all_goals refine ops_nil ?_
  all_goals (repeat (first | refine aw_seq ?_ | refine ath_n ?_ | refine aw_skip ?_ | refine abl_n ?_ | refine aw_block ?_))
  all_goals (first | refine aw_true rfl ?_ | refine aw_false rfl ?_)
  all_goals (repeat (first | refine aw_seq ?_ | refine ath_n ?_ | refine aw_skip ?_ | refine abl_n ?_ | refine aw_block ?_))
  · have hR : R0 = .inl y.2 := by rw [← hE, hwS, if_pos (by omega)]; rfl
    refine aw_region ?_
    refine ops_op rfl rfl (runs_none rfl) (does_build rfl ti33 tp33 rfl rfl) ?_
    refine ops_op rfl rfl (runs_none rfl) (mv_s (.inl rfl) rfl) ?_
    refine ops_eff rfl (runs_none rfl) (does_store rfl ti33 rfl rfl rfl rfl rfl rfl (by decide) (by decide)) ?_
    refine ops_op rfl rfl (runs_none rfl) (mv_s (.inr rfl) rfl) ?_
    refine ops_nil ?_
    repeat (first | refine aw_seq ?_ | refine ath_n ?_ | refine aw_skip ?_ | refine abl_n ?_ | refine aw_block ?_)
    (refine aw_ret ?_; repeat (first | refine ath_r ?_ | refine abl_r ?_))
    exact post_zc (N := 0) (.inr rfl) rfl rfl rfl rfl rfl (by rw [HI, hR]; rfl)
  have hy0 : ¬ y.2 ≠ 0 := by omega
  rw [if_neg hy0] at hwS
  refine aw_region ?_
  first | refine ops_op rfl rfl (runs_none rfl) (mv_own (.inl rfl) rfl) ?_ | refine ops_op rfl rfl (runs_none rfl) (mv_sl (.inl rfl) rfl) ?_ | refine ops_op rfl rfl (runs_none rfl) (mv_s (.inl rfl) rfl) ?_ | refine ops_op rfl rfl (runs_none rfl) (mv_emp (.inl rfl) rfl) ?_ | refine ops_op rfl rfl (runs_none rfl) (mv_sub (.inl rfl) rfl) ?_
  refine ops_op rfl rfl (runs_none rfl) (does_func rfl rfl) ?_
  refine ops_op rfl rfl (runs_none rfl) (does_callb rfl rfl (hfy) (by repeat' (first | exact FiniL.nil | refine FiniL.cons ?_ ?_ | exact .own _ _ _ _ _ rfl rfl (by first | rfl | simp) | exact .refl _)) (by repeat' (first | exact Flat.s _ | exact flat_nil | refine flat_cons ?_ ?_ | refine Flat.agg ?_ | refine Flat.tup ?_))) ?_
  refine ops_op rfl rfl (runs_none rfl) (mv_s (.inr rfl) rfl) ?_
  refine ops_nil ?_
  repeat (first | refine aw_seq ?_ | refine ath_n ?_ | refine aw_skip ?_ | refine abl_n ?_ | refine aw_block ?_)
  refine aw_region ?_
  refine ops_op rfl rfl (runs_none rfl) (mv_s (.inl rfl) rfl) ?_
  refine ops_op rfl rfl (runs_none rfl) (does_lss rfl rfl rfl) ?_
  refine ops_nil ?_
  repeat (first | refine aw_seq ?_ | refine ath_n ?_ | refine aw_skip ?_ | refine abl_n ?_ | refine aw_block ?_)
  refine aw_cuts (S := List (List Int) × Nat) (fun p => [(1, eL eI wts), (2, eI most), (3, .ref (eN n).cells), (6, .ptr 0 1 0 0), (10, .own 1 1 p.1.length), (11, .own 2 1 i), (12, eI i), (13, eL eI on), (15, .mp (3 + i)), (87, eL eI on), (88, eI on.length), (89, eI q), (17, eI t), (20, eI p.2)])
    (fun p => stoM [.row 1 [zCA]] (p.1.map (eL eI)) i (Xs ++ [X])) (fun p => p.2 < 20 ∧ mk <+: p.1 ∧ wStep n wts most x t (mk, r) = .inr (p.1, addR r p.2 (gti wts t))) ?_ (fun p hp => ?_)
  · refine aw_if rfl (fun h111 => ?_) (fun h111 => ?_)
    · rw [if_pos h111] at hwS
      repeat (first | refine aw_seq ?_ | refine ath_n ?_ | refine aw_skip ?_ | refine abl_n ?_ | refine aw_block ?_)
      refine aw_region ?_
      first | refine ops_op rfl rfl (runs_none rfl) (mv_own (.inl rfl) rfl) ?_ | refine ops_op rfl rfl (runs_none rfl) (mv_sl (.inl rfl) rfl) ?_ | refine ops_op rfl rfl (runs_none rfl) (mv_s (.inl rfl) rfl) ?_ | refine ops_op rfl rfl (runs_none rfl) (mv_emp (.inl rfl) rfl) ?_ | refine ops_op rfl rfl (runs_none rfl) (mv_sub (.inl rfl) rfl) ?_
      first | refine ops_op rfl rfl (runs_none rfl) (does_len_map rfl ts56 rfl) ?_ | refine ops_op rfl rfl (runs_none rfl) (does_len_sl rfl ts56 rfl) ?_ | refine ops_op rfl rfl (runs_none rfl) (does_len_own rfl ts56 rfl) ?_ | refine ops_op rfl rfl (runs_none rfl) (does_len_s rfl ts56 rfl) ?_ | refine ops_op rfl rfl (runs_none rfl) (does_len_emp rfl ts56 rfl) ?_ | refine ops_op rfl rfl (runs_none rfl) (does_len_sub rfl ts56 rfl) ?_
      refine ops_op rfl rfl (runs_none rfl) (mv_s (.inr rfl) rfl) ?_
      refine ops_nil ?_
      repeat (first | refine aw_seq ?_ | refine ath_n ?_ | refine aw_skip ?_ | refine abl_n ?_ | refine aw_block ?_)
      all_goals refine aw_region ?_
      all_goals refine ops_op rfl rfl (runs_none rfl) (mv_s (.inl rfl) rfl) ?_
      all_goals refine ops_op rfl rfl (runs_none rfl) (mv_s (.inl rfl) rfl) ?_
      all_goals (first | refine ops_opP rfl rfl (runs_none rfl) (does_eql rfl rfl rfl) (fun h116 => ?_) (fun h116 => ?_) | refine ops_opB rfl rfl (runs_none rfl) (does_eql rfl rfl rfl) (fun h116 => ?_) (fun h116 => ?_))
      all_goals refine ops_nil ?_
      all_goals (repeat (first | refine aw_seq ?_ | refine ath_n ?_ | refine aw_skip ?_ | refine abl_n ?_ | refine aw_block ?_))
      all_goals (first | refine aw_true rfl ?_ | refine aw_false rfl ?_)
      all_goals (repeat (first | refine aw_seq ?_ | refine ath_n ?_ | refine aw_skip ?_ | refine abl_n ?_ | refine aw_block ?_))
      · have hR : R0 = .inl 13 := by rw [← hE, hwS, if_pos (by omega)]; rfl
        refine aw_region ?_
        refine ops_op rfl rfl (runs_none rfl) (does_build rfl ti33 tp33 rfl rfl) ?_
        refine ops_eff rfl (runs_none rfl) (does_store rfl ti33 rfl rfl rfl rfl rfl rfl (by decide) (by decide)) ?_
        refine ops_op rfl rfl (runs_none rfl) (mv_s (.inr rfl) rfl) ?_
        refine ops_nil ?_
        repeat (first | refine aw_seq ?_ | refine ath_n ?_ | refine aw_skip ?_ | refine abl_n ?_ | refine aw_block ?_)
        (refine aw_ret ?_; repeat (first | refine ath_r ?_ | refine abl_r ?_))
        exact post_zc (N := 0) (.inr rfl) rfl rfl rfl rfl rfl (by rw [HI, hR]; rfl)
      rw [if_neg (by omega)] at hwS
      refine aw_region ?_
      first | refine ops_op rfl rfl (runs_none rfl) (mv_own (.inl rfl) rfl) ?_ | refine ops_op rfl rfl (runs_none rfl) (mv_sl (.inl rfl) rfl) ?_ | refine ops_op rfl rfl (runs_none rfl) (mv_s (.inl rfl) rfl) ?_ | refine ops_op rfl rfl (runs_none rfl) (mv_emp (.inl rfl) rfl) ?_ | refine ops_op rfl rfl (runs_none rfl) (mv_sub (.inl rfl) rfl) ?_
      first | refine ops_op rfl rfl (runs_none rfl) (does_load_ref rfl ta25 rfl) ?_ | refine ops_op rfl rfl (runs_none rfl) (does_load_ptr rfl ta25 rfl rfl rfl rfl rfl) ?_
      first | refine ops_op rfl rfl (runs_none rfl) (lit1_sF rfl ts56 ti25 rfl rfl rfl rfl) ?_ | refine ops_op rfl rfl (runs_none rfl) (lit1_slF rfl ts56 ti25 rfl rfl rfl rfl (by repeat' (first | exact Lo.s _ | exact Lo.emp | exact Lo.any | exact lo_nil | exact lo_nilE | refine lo_cons ?_ ?_ | refine lo_consE ?_ ?_ | refine lo_map ?_ | refine lo_mapE ?_ | refine Lo.cells ?_ | refine Lo.agg _ ?_ | refine Lo.ref _ ?_ | refine Lo.tup _ ?_ | refine Lo.fn _ _ ?_ | refine Lo.sl _ ?_ | intro _))) ?_ | refine ops_op rfl rfl (runs_none rfl) (does_litAF rfl ts56 ti25 rfl rfl (by decide) (by decide) rfl rfl rfl (by repeat' (first | exact Lo.s _ | exact Lo.emp | exact Lo.any | exact lo_nil | exact lo_nilE | refine lo_cons ?_ ?_ | refine lo_consE ?_ ?_ | refine lo_map ?_ | refine lo_mapE ?_ | refine Lo.cells ?_ | refine Lo.agg _ ?_ | refine Lo.ref _ ?_ | refine Lo.tup _ ?_ | refine Lo.fn _ _ ?_ | refine Lo.sl _ ?_ | intro _))) ?_
      first | refine ops_op rfl rfl (runs_none rfl) (does_append rfl ts56 ti25 rfl (by decide) rfl rfl (by first | rfl | (simp; done) | (simp; omega)) rfl (by first | exact .own _ _ _ rfl rfl _ (by first | rfl | simp) | exact .emp | exact .nil | exact .sl _ (by first | simp; done | intro e he; simp at he; obtain ⟨_, _, rfl⟩ := he; rfl)) (by first | omega | (simp; omega) | (unfold maxLen; simp; omega)) (by first | omega | (simp; omega) | (unfold maxLen; simp; omega))) ?_ | refine ops_op rfl rfl (runs_none rfl) (does_append0 rfl ts56 ti25 rfl (by decide) rfl (.inl rfl) rfl (by first | exact .own _ _ _ rfl rfl _ (by first | rfl | simp) | exact .emp | exact .nil | exact .sl _ (by first | simp; done | intro e he; simp at he; obtain ⟨_, _, rfl⟩ := he; rfl)) (by first | omega | (simp; omega) | (unfold maxLen; simp; omega)) (by first | omega | (simp; omega) | (unfold maxLen; simp; omega))) ?_ | refine ops_op rfl rfl (runs_none rfl) (does_append0 rfl ts56 ti25 rfl (by decide) rfl (.inr rfl) rfl (by first | exact .own _ _ _ rfl rfl _ (by first | rfl | simp) | exact .emp | exact .nil | exact .sl _ (by first | simp; done | intro e he; simp at he; obtain ⟨_, _, rfl⟩ := he; rfl)) (by first | omega | (simp; omega) | (unfold maxLen; simp; omega)) (by first | omega | (simp; omega) | (unfold maxLen; simp; omega))) ?_
      first | refine ops_op rfl rfl (runs_none rfl) (mv_own (.inr rfl) rfl) ?_ | refine ops_op rfl rfl (runs_none rfl) (mv_sl (.inr rfl) rfl) ?_ | refine ops_op rfl rfl (runs_none rfl) (mv_s (.inr rfl) rfl) ?_ | refine ops_op rfl rfl (runs_none rfl) (mv_emp (.inr rfl) rfl) ?_ | refine ops_op rfl rfl (runs_none rfl) (mv_sub (.inr rfl) rfl) ?_
      refine ops_nil ?_
      repeat (first | refine aw_seq ?_ | refine ath_n ?_ | refine aw_skip ?_ | refine abl_n ?_ | refine aw_block ?_)
      refine ⟨(mk ++ [y.1], mk.length), ⟨by show mk.length < 20; omega, List.prefix_append _ _, hwS⟩, wk_ren2 (mv (1 + 2 + (Xs ++ [X]).length) 1) (mv_nd _ _) (by
          show StR2 _ _ (stoM _ ((mk ++ [y.1]).map (eL eI)) i (Xs ++ [X]))
          rw [List.map_append]
          exact stoM_mvMarks (A := [.row 1 [zCA]]) rfl (by simp; omega) (by intro a ha; simp at ha; subst ha; exact zC_keep _) (by have h := rows_lo (mk ++ [y.1]); rw [List.map_append] at h; exact h))
        ⟨.lo _ lo_I, .lo _ (.s _), .lo _ hln, .ptr _ _ _ _ _ (mv_ne (by omega) (by omega)), .own _ _ _ _ _ (by rw [stoM_len]; exact mv_eq (by omega)) (by simp), .own _ _ _ _ _ (mv_ne (by omega) (by omega)) rfl, .lo _ (.s _), .lo _ lo_I, .mp _ _ (mv_ne (by simp; omega) (by omega)), .lo _ lo_I, .lo _ (.s _), .lo _ (.s _), .lo _ (.s _), .lo _ (.s _), trivial⟩⟩
    · rw [if_neg h111] at hwS
      obtain ⟨kf, hkf, _, hkl⟩ := findI_pos (S := mk) (m := y.1) (by omega)
      rw [hkf] at hwS
      repeat (first | refine aw_seq ?_ | refine ath_n ?_ | refine aw_skip ?_ | refine abl_n ?_ | refine aw_block ?_)
      exact ⟨(mk, kf), ⟨by show kf < 20; omega, List.prefix_refl _, hwS⟩, wk_sub _ ⟨rfl, rfl, rfl, rfl, rfl, rfl, rfl, rfl, rfl, rfl, rfl, rfl, rfl, congrArg eI hkf, trivial⟩⟩
  clear hwS hfy hF hix hsl hil
  obtain ⟨mk', kf⟩ := p
  obtain ⟨hkf, hpre, hwS⟩ := hp
  replace hkf : kf < 20 := hkf
  replace hpre : mk <+: mk' := hpre
  replace hwS : wStep n wts most x t (mk, r) = .inr (mk', addR r kf (gti wts t)) := hwS
  obtain ⟨hw8', hls, _⟩ := hstep _ hwS
  rw [hwS] at hE hW
  replace hW : wRow n wts most x (on.drop (q + 1)) (mk', addR r kf (gti wts t)) = wRow n wts most x on (s.1, z20) := hW
  replace hE : bindE (wRow n wts most x (on.drop (q + 1)) (mk', addR r kf (gti wts t))) K = R0 := hE
  have hxi' : mk'[i]? = some x := by
    obtain ⟨z, rfl⟩ := hpre
    rw [List.getElem?_append_left (List.getElem?_eq_some_iff.1 hxi).1]; exact hxi
  have hgw := hwt2.1
  have hr0 : 0 ≤ gti r kf := hw8.nn kf
  have hrS := (lsum_nn r hw8.nn).2 kf
  replace hrS : gti r kf ≤ lsum r := hrS
  have hiw : (wts.map eI)[t]? = some (eI (gti wts t)) := ix_map (by omega)
  have hadd := hMR.add hkf hrl (w := gti wts t) (by omega)
  have hget : (stoM [.row 1 [zCA]] (mk'.map (eL eI)) i (Xs ++ [X]))[3 + i]? = some (.mp X) := stoM_map (A := [.row 1 [zCA]]) hXi
  have hwfk : (Lit.int .i64 (kf : Int)).wf = true := wf_len (by omega)
  have hwfv : (Lit.int .i64 (gti r kf + gti wts t)).wf = true := by
    unfold Lit.wf
    rw [Bool.and_eq_true]
    exact ⟨decide_eq_true (by show (-9223372036854775808 : Int) ≤ _; omega), decide_eq_true (by show _ ≤ (9223372036854775807 : Int); omega)⟩
  have hnX : X.n < maxLen := by unfold maxLen; omega
  refine aw_draw hmix ?_
  refine adraw_lastT rfl (by kernel_rfl) ?_
  refine adraw_quiet (by kernel_rfl) ?_
  simp only [List.dropLast]
  first | refine qx_op rfl rfl (runs_none rfl) (mv_mp (.inl rfl) rfl) ?_ | refine qx_op rfl rfl (runs_none rfl) (mv_s (.inl rfl) rfl) ?_
  refine qx_op rfl rfl (runs_none rfl) (mv_s (.inl rfl) rfl) ?_
  refine qx_op rfl rfl (runs_none rfl) (does_lookup rfl tm59 tK3 rfl hget hXp rfl (keyOf_int_mk tn3 hwfk) ti3 (plainElem_int tn3 rfl) (hMR.at_ kf hkf)) ?_
  first | refine qx_op rfl rfl (runs_none rfl) (mv_own (.inl rfl) rfl) ?_ | refine qx_op rfl rfl (runs_none rfl) (mv_sl (.inl rfl) rfl) ?_ | refine qx_op rfl rfl (runs_none rfl) (mv_s (.inl rfl) rfl) ?_ | refine qx_op rfl rfl (runs_none rfl) (mv_emp (.inl rfl) rfl) ?_ | refine qx_op rfl rfl (runs_none rfl) (mv_sub (.inl rfl) rfl) ?_
  refine qx_op rfl rfl (runs_none rfl) (mv_s (.inl rfl) rfl) ?_
  first | refine qx_op rfl rfl (runs_none rfl) (does_index_sl rfl ts25 ti3 rfl rfl rfl hiw rfl) ?_ | refine qx_op rfl rfl (runs_none rfl) (does_index_own rfl ts25 ti3 rfl rfl rfl hiw) ?_ | refine qx_op rfl rfl (runs_none rfl) (does_index_sub rfl ts25 ti3 rfl rfl rfl hiw) ?_
  first | refine qx_op rfl rfl (runs_none rfl) (does_load_ref rfl ta3 rfl) ?_ | refine qx_op rfl rfl (runs_none rfl) (does_load_ptr rfl ta3 rfl rfl rfl rfl rfl) ?_
  refine qx_op rfl rfl (runs_none rfl) (does_add rfl rfl rfl (IntWalk.i64_in _ (by omega))) ?_
  refine qx_nil ?_
  refine ath_n ?_
  refine ops_eff rfl (runs_none rfl) (does_mapput (.inl rfl) tm59 tK3 rfl hget hXp hnX rfl rfl (keyOf_int_mk tn3 hwfk) (plainElem_int tn3 hwfv)) ?_
  refine ops_nil ?_
  repeat (first | refine aw_seq ?_ | refine ath_n ?_ | refine aw_skip ?_ | refine abl_n ?_ | refine aw_block ?_)
  refine aw_region ?_
  refine ops_op rfl rfl (runs_none rfl) (does_add rfl rfl rfl (IntWalk.i64_in _ (by omega))) ?_
  refine ops_op rfl rfl (runs_none rfl) (mv_s (.inl rfl) rfl) ?_
  refine ops_nil ?_
  repeat (first | refine aw_seq ?_ | refine ath_n ?_ | refine aw_skip ?_ | refine abl_n ?_ | refine aw_block ?_)
  refine ⟨(q + 1, (mk', addR r kf (gti wts t)), { X with n := X.n + 1, D := X.D.put (kI kf) (.lit (.int .i64 (gti r kf + gti wts t))) }), ⟨by show q + 1 ≤ on.length; omega, hw8', hxi', hXp, by show X.n + 1 ≤ q + 1; omega, hadd, ?_, hE, hW⟩, by show on.length - (q + 1) < on.length - q; omega, wk_subE ?_ ⟨rfl, rfl, rfl, rfl, rfl, rfl, rfl, rfl, rfl, rfl, rfl, rfl, trivial⟩⟩
  · have e : lsum (addR r kf (gti wts t)) = lsum r + gti wts t := hls
    show lsum (addR r kf (gti wts t)) ≤ 1000 * ((q + 1 : Nat) : Int)
    rw [e]; omega
  · have e := stoM_set (A := [.row 1 [zCA]]) (mk := mk'.map (eL eI)) (n := i) (Xs := Xs ++ [X]) (j := i) { X with n := X.n + 1, D := X.D.put (kI kf) (.lit (.int .i64 (gti r kf + gti wts t))) }
    have e2 : (Xs ++ [X]).set i { X with n := X.n + 1, D := X.D.put (kI kf) (.lit (.int .i64 (gti r kf + gti wts t))) } = Xs ++ [{ X with n := X.n + 1, D := X.D.put (kI kf) (.lit (.int .i64 (gti r kf + gti wts t))) }] := by
      rw [List.set_append_right _ _ (by omega), show i - Xs.length = 0 by omega]; rfl
    rw [e2] at e
    exact e
end Go.Proofs.YtanfaepjamkbjaaGreat.Aw
end
section
namespace Go.Proofs.YtanfaepjamkbjaaGreat.Aw
set_option linter.unusedSimpArgs false
set_option linter.unusedVariables false
set_option linter.unusedSectionVars false
open Go Go.RowKit Go.Proofs
variable {P : Program} [IsP P]

end Go.Proofs.YtanfaepjamkbjaaGreat.Aw
end
section
namespace Go.Proofs.YtanfaepjamkbjaaGreat.Aw
set_option linter.unusedSimpArgs false
set_option linter.unusedVariables false
set_option linter.unusedSectionVars false
open Go Go.RowKit Go.Proofs
variable {P : Program} [IsP P]

theorem can_en (n : Net) (x : List Int) (q : Nat) (hx : markB n x = true) (hq : q < n.trans.length) : Pure P 29 [eN n, eL eI x, eI q] (eB (enB (gti n.trans q) x)) := by
  have hx2 : validB n = true ∧ mark2B n x = true := by unfold markB at hx; simpa only [Bool.and_eq_true] using hx
  have htr := validB_tr hx2.1 (gti_mem (l := n.trans) (k := q) hq)
  have hl := markB_len hx
  have h := can_pf (P := P) n x q hq (fun k hk => by have := placesB_at htr.2.1 hk; omega)
  have e : canL x (gti n.trans q).inn = enB (gti n.trans q) x := by rw [canL_en (fun i => (mark2B_at hx2.2 i).1)]; rfl
  rwa [e] at h
end Go.Proofs.YtanfaepjamkbjaaGreat.Aw
end
