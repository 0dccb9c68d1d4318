/-
  Texts joined: SpD, EvE, EvH, EvI. Conditions: none.
-/
import Derived.Test.YthdpacbjbdkemaaJC5
section
namespace Go.Proofs.Ythdpacbjbdkemaa.Aw
set_option linter.unusedSimpArgs false
set_option linter.unusedVariables false
set_option linter.unusedSectionVars false
open Go Go.RowKit Go.Proofs Go.Maps Go.WideMaps
variable {P : Program} [IsP P]

def eMv (v : Mvx) : AV := .agg [eI v.fr, eI v.tt, eI v.sym]
def eSpc (s : Spc) : AV := .agg [eL (eL eI) s.st, eL eMv s.mv, eB s.full]
def eSE (r : Spc × Int) : AV := .tup [eSpc r.1, eI r.2]
def zSA : AV := .agg [.s (.slice none 0 0), .s (.slice none 0 0), .s (.bool false)]
theorem lo_II {k : Nat} (l : List (List Int)) : Lo k (eL (eL eI) l) := lo_map fun _ => lo_I
theorem lo_Mv {k : Nat} (v : Mvx) : Lo k (eMv v) := .agg _ (by intro c hc; simp [eI] at hc; rcases hc with rfl | rfl | rfl <;> exact .s _)
theorem lo_Mvs {k : Nat} (l : List Mvx) : Lo k (eL eMv l) := lo_map fun v => lo_Mv v
theorem lo_Spc (s : Spc) : Lo 0 (eSpc s) := .agg _ (lo_cons (lo_II _) (lo_cons (lo_Mvs _) (lo_cons (.s _) lo_nil)))
theorem lo_T (t : Tr) : Lo 0 (eT t) := .agg _ (lo_cons (.s _) (lo_cons lo_I (lo_cons lo_I lo_nil)))
theorem lo_N (n : Net) : Lo 0 (eN n) := .agg _ (lo_cons (.s _) (lo_cons (lo_map fun t => lo_T t) (lo_cons (.s _) (lo_cons (.s _) lo_nil))))
theorem zSA_lo : ∀ e ∈ [zSA], ∀ c ∈ e.cells, Lo 0 c := by
  intro e he c hc
  simp at he; subst he
  simp [zSA, AV.cells] at hc; rcases hc with rfl | rfl <;> exact .s _
theorem rows_lo (l : List (List Int)) : ∀ e ∈ l.map (eL eI), ∀ c ∈ e.cells, Lo 0 c := by
  intro e he c hc
  obtain ⟨x, _, rfl⟩ := List.mem_map.1 he
  simp [eL, AV.cells] at hc; subst hc; exact lo_I
theorem mvs_lo (l : List Mvx) : ∀ e ∈ l.map eMv, ∀ c ∈ e.cells, Lo 0 c := by
  intro e he c hc
  obtain ⟨x, _, rfl⟩ := List.mem_map.1 he
  simp [eMv, AV.cells, eI] at hc; rcases hc with rfl | rfl | rfl <;> exact .s _
theorem post_cs {N : Nat} {F : Frm} {σ : List Ob} {ad u : Nat} {ty : TypeId} {id sz k n bt : Nat} {z : Option Value} {ob : Ob} {cs : List AV} {e1 r1 y r2 : AV} {e : Exit} (he : e = .normal ∨ e = .ret) (ha : tyAgg P ty = some true) (hi : tyInfo P ty = some (z, n, bt)) (hp : F.get ad = .ptr id sz k 0) (hs : σ[id]? = some ob) (ho : rowOf ob = some (sz, cs)) (hk : cs[k]? = some e1) (hn : e1.cells.length = n) (hu : F.get u = y) (hr1 : Fini σ (.agg e1.cells) r1) (hr2 : Fini σ y r2) : APost P [.cell ad ty, .tmp u] (.tup [r1, r2]) e F σ :=
  ⟨he, [.agg e1.cells, y], .cons _ _ _ _ (.cells ad ty id sz k n bt z ob cs e1 ha hi hp hs ho hk hn) (.cons _ _ _ _ (.tmp u y hu) .nil), .tup _ _ rfl (FiniL.cons hr1 (FiniL.cons hr2 FiniL.nil)).2⟩
theorem post_zs {N : Nat} {F : Frm} {σ : List Ob} {ad u : Nat} {ty : TypeId} {id sz n bt : Nat} {z : Option Value} {ob : Ob} {cs : List AV} {r : Spc × Int} {m : Int} {e : Exit} (he : e = .normal ∨ e = .ret) (ha : tyAgg P ty = some true) (hi : tyInfo P ty = some (z, n, bt)) (hp : F.get ad = .ptr id sz 0 0) (hs : σ[id]? = some ob) (ho : rowOf ob = some (sz, cs)) (hk : cs[0]? = some zSA) (hn : zSA.cells.length = n) (hu : F.get u = eI m) (hr : r = (zSp, m)) : APost P [.cell ad ty, .tmp u] (eSE r) e F σ := by
  subst hr
  exact post_cs (N := 0) he ha hi hp hs ho hk hn hu (.agg _ _ rfl (FiniL.cons .nil (FiniL.cons .nil (FiniL.cons (.refl _) FiniL.nil))).2) (.refl _)
/-! ## the map of the states that were met -/
def atD (S : List (List Int)) : DataW Unit := S.zipIdx.foldl (fun D p => D.put (.string (keyL p.1)) (.lit (.int .i64 (p.2 : Nat)))) (.map [])
theorem atD_snoc (S : List (List Int)) (m : List Int) : atD (S ++ [m]) = (atD S).put (.string (keyL m)) (.lit (.int .i64 (S.length : Nat))) := by
  unfold atD
  rw [List.zipIdx_append, List.foldl_append]
  simp
theorem atD_map : ∀ (k : Nat) (S : List (List Int)), S.length = k → IsMap (atD S)
  | 0, S, h => by rw [List.eq_nil_of_length_eq_zero h]; exact isMap_empty
  | k + 1, S, h => by
    have hne : S ≠ [] := fun e => by rw [e] at h; simp at h
    rw [← List.dropLast_concat_getLast hne, atD_snoc]
    exact (atD_map k S.dropLast (by simp [h])).put _ _
def Small (m : List Int) : Prop := ∀ x ∈ m, 0 ≤ x ∧ x ≤ 255
theorem key_lit {a b : List Int} (ha : Small a) (hb : Small b) (h : a ≠ b) : Lit.string (keyL a) ≠ Lit.string (keyL b) := fun e => h (keyL_inj ha hb (by injection e))
theorem atD_no {x : List Int} (hx : Small x) : ∀ (k : Nat) (S : List (List Int)), S.length = k → (∀ y ∈ S, Small y) → x ∉ S → Maps.has (atD S) (.string (keyL x)) = false
  | 0, S, h, _, _ => by rw [List.eq_nil_of_length_eq_zero h]; rfl
  | k + 1, S, h, hs, hn => by
    have hne : S ≠ [] := fun e => by rw [e] at h; simp at h
    have e := List.dropLast_concat_getLast hne
    have hl : S.getLast hne ∈ S := List.getLast_mem hne
    rw [← e, atD_snoc, has_put_other (key_lit hx (hs _ hl) (fun e => hn (e ▸ hl)))]
    exact atD_no hx k S.dropLast (by simp [h]) (fun y hy => hs y (List.dropLast_subset _ hy)) (fun hm => hn (List.dropLast_subset _ hm))
theorem atD_yes {x : List Int} (hx : Small x) : ∀ (k : Nat) (S : List (List Int)), S.length = k → (∀ y ∈ S, Small y) → S.Nodup → x ∈ S → Maps.has (atD S) (.string (keyL x)) = true ∧ ∀ z, (atD S).atKey (.string (keyL x)) z = .lit (.int .i64 (findI S x))
  | 0, S, h, _, _, hm => by rw [List.eq_nil_of_length_eq_zero h] at hm; simp at hm
  | k + 1, S, h, hs, hnd, hm => by
    have hne : S ≠ [] := fun e => by rw [e] at h; simp at h
    have e := List.dropLast_concat_getLast hne
    have hl : S.getLast hne ∈ S := List.getLast_mem hne
    generalize S.getLast hne = y at e hl
    generalize hS : S.dropLast = T at e
    have hTl : T.length = k := by rw [← hS]; simp [h]
    subst e
    have hiM := atD_map k T hTl
    rw [atD_snoc]
    by_cases he : x = y
    · subst he
      have hnT : x ∉ T := fun hT => by
        have := List.nodup_append.1 hnd
        exact this.2.2 x hT x (by simp) rfl
      refine ⟨has_put_same hiM (show WideAt.IsKeyLit (.string _) from trivial) _, fun z => ?_⟩
      rw [atKey_put_same hiM (show WideAt.IsKeyLit (.string _) from trivial), findI_snoc_self hnT]
    · have hmT : x ∈ T := by
        rcases List.mem_append.1 hm with h1 | h1
        · exact h1
        · simp at h1; exact absurd h1 he
      obtain ⟨h1, h2⟩ := atD_yes hx k T hTl (fun z hz => hs z (List.mem_append_left _ hz)) (List.nodup_append.1 hnd).1 hmT
      have hk := key_lit hx (hs y hl) he
      refine ⟨by rw [has_put_other hk]; exact h1, fun z => ?_⟩
      rw [atKey_put_other hk, h2, findI_snoc_old hmT]
def atX (P : Program) (S : List (List Int)) : MapX := ⟨P, 9, 3, S.length, atD S⟩
theorem atX_snoc (P : Program) (S : List (List Int)) (m : List Int) : atX P (S ++ [m]) = { atX P S with n := (atX P S).n + 1, D := (atX P S).D.put (.string (keyL m)) (.lit (.int .i64 (S.length : Nat))) } := by
  unfold atX
  rw [atD_snoc]
  simp
theorem ob_mp {ρ : List Nat} {X Y : MapX} (h : X = Y) : ObRn ρ (.mp X) (.mp Y) := by subst h; exact .mp X X.n (Nat.le_refl _)
theorem wf_len {k : Nat} (h : k ≤ 2000) : (Lit.int .i64 (k : Nat)).wf = true := by
  unfold Lit.wf
  rw [Bool.and_eq_true]
  exact ⟨decide_eq_true (by show (-9223372036854775808 : Int) ≤ _; omega), decide_eq_true (by show _ ≤ (9223372036854775807 : Int); omega)⟩
/-- the store while the space is made -/
def stX (P : Program) (s : Spc) : List Ob := [.row 3 [zSA], .row 3 [.agg [.own 2 1 s.st.length, .own 3 3 s.mv.length, eB s.full]], .row 1 (s.st.map (eL eI)), .row 3 (s.mv.map eMv), .mp (atX P s.st)]
set_option maxHeartbeats 4000000 in
theorem explore_pf (n : Net) (m : List Int) (most : Int) : Pure P 10 [eN n, eL eI m, eI most] (eSE (explE n m most)) := by
  have HI : explE n m most = if markB n m = true then (if most < 1 ∨ 2000 < most then (zSp, 2) else explR (expS n most (most.toNat + 1) 0 ⟨[m], [], true⟩)) else (zSp, 1) := rfl
  generalize explE n m most = R at HI ⊢
  have hE0 := enabled_pf (P := P) n m
  have hEe : (enabledE n m).2 = if markB n m = true then 0 else 1 := by unfold enabledE; split <;> rfl
  generalize enabledE n m = e0 at hE0 hEe
  have hln : Lo 0 (.ref (eN n).cells) := .ref _ (lo_N n).cells
  refine aw_fn (by rw [IsP.eq (P := P)]; exact Try.func10) rfl rfl rfl rfl rfl (lo_cons (lo_N n) (lo_cons lo_I (lo_cons (.s _) lo_nil))) (.tup _ (lo_cons (lo_Spc _) (lo_cons (.s _) lo_nil))) (by simp only [argF]; rfl) ?_
  repeat (first | refine aw_seq ?_ | refine ath_n ?_ | refine aw_skip ?_ | refine abl_n ?_ | refine aw_block ?_)
  refine aw_region ?_
  refine ops_op rfl rfl (runs_none rfl) (does_box rfl rfl rfl rfl) ?_
  refine aops_weak (wk_froz (id := 0) rfl) (aops_weak (wk_ref (d := 3) rfl rfl rfl) ?_)
  refine ops_op rfl rfl (runs_none rfl) (does_alloc rfl ti29 rfl rfl) ?_
  refine ops_op rfl rfl (runs_none rfl) (mv_s (.inr rfl) rfl) ?_
  refine ops_nil ?_
  repeat (first | refine aw_seq ?_ | refine ath_n ?_ | refine aw_skip ?_ | refine abl_n ?_ | refine aw_block ?_)
  refine aw_region ?_
  first | refine ops_op rfl rfl (runs_none rfl) (does_load_refw rfl ta24 ti24 rfl rfl) ?_ | refine ops_op rfl rfl (runs_none rfl) (does_load_whole rfl ta24 ti24 rfl rfl rfl rfl rfl) ?_ | refine ops_op rfl rfl (runs_none rfl) (does_load_refs rfl ta24 ti24 rfl (Nat.le_of_ble_eq_true rfl)) ?_ | refine ops_op rfl rfl (runs_none rfl) (does_load_ptrs rfl ta24 ti24 rfl rfl rfl rfl (Nat.le_of_ble_eq_true rfl)) ?_
  first | refine ops_op rfl rfl (runs_none rfl) (mv_own (.inl rfl) rfl) ?_ | refine ops_op rfl rfl (runs_none rfl) (mv_sl (.inl rfl) rfl) ?_ | refine ops_op rfl rfl (runs_none rfl) (mv_s (.inl rfl) rfl) ?_ | refine ops_op rfl rfl (runs_none rfl) (mv_emp (.inl rfl) rfl) ?_
  refine ops_op rfl rfl (runs_none rfl) (does_call rfl rfl (hE0) (evc_cons rfl (evc_cons rfl evc_nil))) ?_
  first | refine ops_op rfl rfl (runs_none rfl) (mv_tup (.inl rfl) rfl) ?_ | refine ops_op rfl rfl (runs_none rfl) (mv_s (.inl rfl) rfl) ?_
  refine ops_op rfl rfl (runs_none rfl) (does_extract rfl rfl rfl) ?_
  refine ops_op rfl rfl (runs_none rfl) (does_extract rfl rfl rfl) ?_
  first | refine ops_op rfl rfl (runs_none rfl) (mv_own (.inr rfl) rfl) ?_ | refine ops_op rfl rfl (runs_none rfl) (mv_sl (.inr rfl) rfl) ?_ | refine ops_op rfl rfl (runs_none rfl) (mv_s (.inr rfl) rfl) ?_ | refine ops_op rfl rfl (runs_none rfl) (mv_emp (.inr rfl) rfl) ?_
  refine ops_op rfl rfl (runs_none rfl) (mv_s (.inr rfl) rfl) ?_
  refine ops_nil ?_
  repeat (first | refine aw_seq ?_ | refine ath_n ?_ | refine aw_skip ?_ | refine abl_n ?_ | refine aw_block ?_)
  all_goals refine aw_region ?_
  all_goals refine ops_op rfl rfl (runs_none rfl) (mv_s (.inl rfl) rfl) ?_
  all_goals (first | refine ops_opP rfl rfl (runs_none rfl) (does_neq rfl rfl rfl) (fun h28 => ?_) (fun h28 => ?_) | refine ops_opB rfl rfl (runs_none rfl) (does_neq rfl rfl rfl) (fun h28 => ?_) (fun h28 => ?_))
  all_goals refine ops_nil ?_
  all_goals (repeat (first | refine aw_seq ?_ | refine ath_n ?_ | refine aw_skip ?_ | refine abl_n ?_ | refine aw_block ?_))
  all_goals (first | refine aw_true rfl ?_ | refine aw_false rfl ?_)
  all_goals (repeat (first | refine aw_seq ?_ | refine ath_n ?_ | refine aw_skip ?_ | refine abl_n ?_ | refine aw_block ?_))
  · have hmk : ¬ markB n m = true := fun h => h28 (by rw [hEe, if_pos h])
    refine aw_region ?_
    refine ops_op rfl rfl (runs_none rfl) (does_build rfl ti29 tp29 rfl rfl) ?_
    refine ops_eff rfl (runs_none rfl) (does_store rfl ti29 rfl rfl rfl rfl rfl rfl (by decide) (by decide)) ?_
    refine ops_op rfl rfl (runs_none rfl) (mv_s (.inr rfl) rfl) ?_
    refine ops_nil ?_
    repeat (first | refine aw_seq ?_ | refine ath_n ?_ | refine aw_skip ?_ | refine abl_n ?_ | refine aw_block ?_)
    (refine aw_ret ?_; repeat (first | refine ath_r ?_ | refine abl_r ?_))
    exact post_zs (N := 0) (.inr rfl) ta29 ti29 rfl rfl rfl rfl rfl rfl (by rw [HI, if_neg hmk])
  have hmk : markB n m = true := Classical.byContradiction fun h => h28 (by rw [hEe, if_neg h]; decide)
  rw [if_pos hmk] at HI
  have hml := markB_len hmk
  all_goals refine aw_region ?_
  all_goals refine ops_op rfl rfl (runs_none rfl) (mv_s (.inl rfl) rfl) ?_
  all_goals (first | refine ops_opP rfl rfl (runs_none rfl) (does_lss rfl rfl rfl) (fun h31 => ?_) (fun h31 => ?_) | refine ops_opB rfl rfl (runs_none rfl) (does_lss rfl rfl rfl) (fun h31 => ?_) (fun h31 => ?_))
  all_goals refine ops_op rfl rfl (runs_none rfl) (mv_s (.inl rfl) rfl) ?_
  all_goals (first | refine ops_op rfl rfl (runs_y rfl rfl rfl) (mv_s (.inl rfl) rfl) ?_ | refine ops_skip rfl rfl (runs_nf rfl rfl rfl) ?_ | refine ops_skip rfl rfl (runs_nu rfl rfl rfl) ?_)
  all_goals (first | refine ops_opP rfl rfl (runs_y rfl rfl rfl) (does_gtr rfl rfl rfl) (fun h34 => ?_) (fun h34 => ?_) | refine ops_opB rfl rfl (runs_y rfl rfl rfl) (does_gtr rfl rfl rfl) (fun h34 => ?_) (fun h34 => ?_) | refine ops_skip rfl rfl (runs_nf rfl rfl rfl) ?_ | refine ops_skip rfl rfl (runs_nu rfl rfl rfl) ?_)
  all_goals (first | refine ops_op rfl rfl (runs_none rfl) (pickT_s rfl rfl rfl) ?_ | refine ops_op rfl rfl (runs_none rfl) (pickF_s rfl rfl rfl) ?_ | refine ops_op rfl rfl (runs_none rfl) (does_pickT rfl rfl rfl) ?_ | refine ops_op rfl rfl (runs_none rfl) (does_pickF rfl rfl rfl) ?_)
  all_goals refine ops_nil ?_
  all_goals (repeat (first | refine aw_seq ?_ | refine ath_n ?_ | refine aw_skip ?_ | refine abl_n ?_ | refine aw_block ?_))
  all_goals (first | refine aw_true rfl ?_ | refine aw_false rfl ?_)
  all_goals (repeat (first | refine aw_seq ?_ | refine ath_n ?_ | refine aw_skip ?_ | refine abl_n ?_ | refine aw_block ?_))
  all_goals first
    | skip
      refine aw_region ?_
      refine ops_op rfl rfl (runs_none rfl) (does_build rfl ti29 tp29 rfl rfl) ?_
      refine ops_eff rfl (runs_none rfl) (does_store rfl ti29 rfl rfl rfl rfl rfl rfl (by decide) (by decide)) ?_
      refine ops_op rfl rfl (runs_none rfl) (mv_s (.inr rfl) rfl) ?_
      refine ops_nil ?_
      repeat (first | refine aw_seq ?_ | refine ath_n ?_ | refine aw_skip ?_ | refine abl_n ?_ | refine aw_block ?_)
      (refine aw_ret ?_; repeat (first | refine ath_r ?_ | refine abl_r ?_))
      exact post_zs (N := 0) (.inr rfl) ta29 ti29 rfl rfl rfl rfl rfl rfl (by rw [HI, if_pos (by omega)])
    | skip
  rw [if_neg (by omega)] at HI
  have hc := cloneI_pf (P := P) m (by omega) hml.1
  have hk := key_pf (P := P) m (markB_small hmk) hml.2.1
  have hks : (keyS m).size ≤ maxLen := by rw [keyS_size]; unfold maxLen; omega
  refine aw_region ?_
  first | refine ops_op rfl rfl (runs_none rfl) (mv_own (.inl rfl) rfl) ?_ | refine ops_op rfl rfl (runs_none rfl) (mv_sl (.inl rfl) rfl) ?_ | refine ops_op rfl rfl (runs_none rfl) (mv_s (.inl rfl) rfl) ?_ | refine ops_op rfl rfl (runs_none rfl) (mv_emp (.inl rfl) rfl) ?_
  refine ops_op rfl rfl (runs_none rfl) (does_call rfl rfl (hc) (evc_cons rfl evc_nil)) ?_
  first | refine ops_op rfl rfl (runs_none rfl) (lit1_s rfl ts26 ti25 rfl rfl rfl rfl) ?_ | refine ops_op rfl rfl (runs_none rfl) (lit1_sl rfl ts26 ti25 rfl rfl rfl rfl) ?_ | refine ops_op rfl rfl (runs_none rfl) (does_litA rfl ts26 ti25 rfl rfl (by decide) (by decide) rfl rfl rfl) ?_
  refine ops_op rfl rfl (runs_none rfl) (does_build rfl ti29 tp29 rfl rfl) ?_
  refine ops_op rfl rfl (runs_none rfl) (does_alloc rfl ti29 rfl rfl) ?_
  refine ops_eff rfl (runs_none rfl) (does_store rfl ti29 rfl rfl rfl rfl rfl rfl (by decide) (by decide)) ?_
  refine ops_nil ?_
  repeat (first | refine aw_seq ?_ | refine ath_n ?_ | refine aw_skip ?_ | refine abl_n ?_ | refine aw_block ?_)
  refine aw_region ?_
  refine ops_op rfl rfl (runs_none rfl) (does_mkmap rfl tm72) ?_
  first | refine ops_op rfl rfl (runs_none rfl) (mv_own (.inl rfl) rfl) ?_ | refine ops_op rfl rfl (runs_none rfl) (mv_sl (.inl rfl) rfl) ?_ | refine ops_op rfl rfl (runs_none rfl) (mv_s (.inl rfl) rfl) ?_ | refine ops_op rfl rfl (runs_none rfl) (mv_emp (.inl rfl) rfl) ?_
  refine ops_op rfl rfl (runs_none rfl) (does_call rfl rfl (hk) (evc_cons rfl evc_nil)) ?_
  refine ops_eff rfl (runs_none rfl) (does_mapput (.inr rfl) tm72 tK9 rfl rfl ⟨rfl, rfl, rfl⟩ (by (try dsimp only); unfold maxLen; omega) rfl rfl (keyOf_string_mk tn9 (by first | assumption | (unfold maxLen; omega))) (plainElem_int tn3 (by first | rfl | assumption))) ?_
  first | refine ops_op rfl rfl (runs_none rfl) (mv_mp (.inl rfl) rfl) ?_ | refine ops_op rfl rfl (runs_none rfl) (mv_s (.inl rfl) rfl) ?_
  first | refine ops_op rfl rfl (runs_none rfl) (mv_mp (.inr rfl) rfl) ?_ | refine ops_op rfl rfl (runs_none rfl) (mv_s (.inr rfl) rfl) ?_
  refine ops_nil ?_
  repeat (first | refine aw_seq ?_ | refine ath_n ?_ | refine aw_skip ?_ | refine abl_n ?_ | refine aw_block ?_)
  refine aw_weak (wk_ownC (id := 3) (sz2 := 3) (e' := .agg [.own 2 1 1, .own 5 3 0, eB true]) (pre := [.own 2 1 1]) (post := [eB true]) rfl rfl rfl) ?_
  obtain ⟨R0, hR0⟩ : ∃ R0, expS n most (most.toNat + 1) 0 ⟨[m], [], true⟩ = R0 := ⟨_, rfl⟩
  rw [hR0] at HI
  refine aw_region ?_
  refine ops_op rfl rfl (runs_none rfl) (mv_s (.inr rfl) rfl) ?_
  refine ops_nil ?_
  repeat (first | refine aw_seq ?_ | refine ath_n ?_ | refine aw_skip ?_ | refine abl_n ?_ | refine aw_block ?_)
  refine aw_loops (S := Nat × Spc) (fun p => [(2, eI most), (3, .ref (eN n).cells), (6, .ptr 0 3 0 0), (10, .ptr 1 3 0 0), (11, .mp 4), (12, eI p.1)]) (fun p => stX P p.2) (fun p => SI n most p.2 ∧ p.1 ≤ p.2.st.length ∧ expS n most (most.toNat + 1 - p.1) p.1 p.2 = R0) (fun p => most.toNat + 1 - p.1) (0, ⟨[m], [], true⟩)
    (wk_st [1, 3, 2, 5, 4] (by decide) ⟨⟨_, rfl, .rowE zSA_lo rfl⟩, ⟨_, rfl, obRn_agg (.cons (.own _ _ _ _ _ rfl rfl) (.cons (.own _ _ _ _ _ rfl rfl) (.cons (.lo _ (.s _)) .nil)))⟩, ⟨_, rfl, .rowE (rows_lo _) rfl⟩, ⟨_, rfl, .rowE (by simp) rfl⟩, ⟨_, rfl, ob_mp rfl⟩, trivial⟩ ⟨.lo _ (by repeat' (first | exact Lo.s _ | exact Lo.emp | exact Lo.any | exact lo_nil | exact lo_nilE | refine lo_cons ?_ ?_ | refine lo_consE ?_ ?_ | refine lo_map ?_ | refine lo_mapE ?_ | refine Lo.cells ?_ | refine Lo.agg _ ?_ | refine Lo.ref _ ?_ | refine Lo.tup _ ?_ | refine Lo.fn _ _ ?_ | refine Lo.sl _ ?_ | intro _)), .lo _ hln, .ptr 1 0 3 0 0 rfl, .ptr 3 1 3 0 0 rfl, .mp 4 4 rfl, .lo _ (by repeat' (first | exact Lo.s _ | exact Lo.emp | exact Lo.any | exact lo_nil | exact lo_nilE | refine lo_cons ?_ ?_ | refine lo_consE ?_ ?_ | refine lo_map ?_ | refine lo_mapE ?_ | refine Lo.cells ?_ | refine Lo.agg _ ?_ | refine Lo.ref _ ?_ | refine Lo.tup _ ?_ | refine Lo.fn _ _ ?_ | refine Lo.sl _ ?_ | intro _)), trivial⟩) ⟨SI.init hmk (by omega), by simp, hR0⟩ (fun p hp => ?_)
  obtain ⟨i, s⟩ := p
  obtain ⟨hs, hi, hE⟩ := hp
  replace hi : i ≤ s.st.length := hi
  replace hE : expS n most (most.toNat + 1 - i) i s = R0 := hE
  replace hs : SI n most s := hs
  have hle : (s.st.length : Int) ≤ most := hs.le
  have hmv : s.mv.length ≤ 20000 := hs.mvs
  repeat (first | refine aw_seq ?_ | refine ath_n ?_ | refine aw_skip ?_ | refine abl_n ?_ | refine aw_block ?_)
  all_goals refine aw_region ?_
  all_goals refine ops_op rfl rfl (runs_none rfl) (mv_s (.inl rfl) rfl) ?_
  all_goals (first | refine ops_op rfl rfl (runs_none rfl) (does_fieldAddr_ptr rfl tf29_0 (by decide) rfl) ?_ | refine ops_op rfl rfl (runs_none rfl) (does_fieldAddr_ref rfl tf29_0 (by decide) rfl) ?_)
  all_goals (first | refine ops_op rfl rfl (runs_none rfl) (does_load_ref rfl ta26 rfl) ?_ | refine ops_op rfl rfl (runs_none rfl) (does_load_ptr rfl ta26 rfl rfl rfl rfl rfl) ?_)
  all_goals (first | refine ops_op rfl rfl (runs_none rfl) (does_len_map rfl ts26 rfl) ?_ | refine ops_op rfl rfl (runs_none rfl) (does_len_sl rfl ts26 rfl) ?_ | refine ops_op rfl rfl (runs_none rfl) (does_len_own rfl ts26 rfl) ?_ | refine ops_op rfl rfl (runs_none rfl) (does_len_s rfl ts26 rfl) ?_ | refine ops_op rfl rfl (runs_none rfl) (does_len_emp rfl ts26 rfl) ?_)
  all_goals (first | refine ops_opP rfl rfl (runs_none rfl) (does_lss rfl rfl rfl) (fun h49 => ?_) (fun h49 => ?_) | refine ops_opB rfl rfl (runs_none rfl) (does_lss rfl rfl rfl) (fun h49 => ?_) (fun h49 => ?_))
  all_goals refine ops_nil ?_
  all_goals (repeat (first | refine aw_seq ?_ | refine ath_n ?_ | refine aw_skip ?_ | refine abl_n ?_ | refine aw_block ?_))
  all_goals (first | refine aw_true rfl ?_ | refine aw_false rfl ?_)
  all_goals (repeat (first | refine aw_seq ?_ | refine ath_n ?_ | refine aw_skip ?_ | refine abl_n ?_ | refine aw_block ?_))
  all_goals dsimp only at h49
  rotate_left 1
  · have e : i = s.st.length := by omega
    subst e
    have hf : most.toNat + 1 - s.st.length = most.toNat - s.st.length + 1 := by omega
    rw [hf] at hE
    unfold expS at hE
    rw [if_neg (by omega)] at hE
    rw [← hE] at HI
    replace HI : R = (s, 0) := HI
    subst HI
    (refine aw_exit ?_; repeat (first | refine ath_x ?_ | refine abl_hit ?_ | refine abl_miss rfl ?_ | refine abl_n ?_ | refine ath_n ?_ | refine aw_seq ?_ | refine aw_skip ?_ | refine aw_block ?_))
    refine aw_region ?_
    first | refine ops_op rfl rfl (runs_none rfl) (does_load_refw rfl ta29 ti29 rfl rfl) ?_ | refine ops_op rfl rfl (runs_none rfl) (does_load_whole rfl ta29 ti29 rfl rfl rfl rfl rfl) ?_ | refine ops_op rfl rfl (runs_none rfl) (does_load_refs rfl ta29 ti29 rfl (Nat.le_of_ble_eq_true rfl)) ?_ | refine ops_op rfl rfl (runs_none rfl) (does_load_ptrs rfl ta29 ti29 rfl rfl rfl rfl (Nat.le_of_ble_eq_true rfl)) ?_
    refine ops_eff rfl (runs_none rfl) (does_store rfl ti29 rfl rfl rfl rfl rfl rfl (by decide) (by decide)) ?_
    refine ops_op rfl rfl (runs_none rfl) (mv_s (.inr rfl) rfl) ?_
    refine ops_nil ?_
    repeat (first | refine aw_seq ?_ | refine ath_n ?_ | refine aw_skip ?_ | refine abl_n ?_ | refine aw_block ?_)
    (refine aw_ret ?_; repeat (first | refine ath_r ?_ | refine abl_r ?_))
    exact post_cs (N := 0) (.inr rfl) ta29 ti29 rfl rfl rfl rfl rfl rfl (.agg _ _ rfl (FiniL.cons (.own _ _ _ _ _ rfl rfl (by simp)) (FiniL.cons (.own _ _ _ _ _ rfl rfl (by simp)) (FiniL.cons (.refl _) FiniL.nil))).2) (.refl _)
  have hlt : i < s.st.length := by omega
  have hf : most.toNat + 1 - i = most.toNat - i + 1 := by omega
  rw [hf] at hE
  unfold expS at hE
  rw [if_pos hlt] at hE
  have hx0 := hs.gti hlt
  have hxi : s.st[i]? = some (gti s.st i) := gti_get hlt
  generalize gti s.st i = x at hE hx0 hxi
  have hix : (s.st.map (eL eI))[i]? = some (eL eI x) := by rw [List.getElem?_map, hxi]; rfl
  have hon := enabled_pf (P := P) n x
  have hoe : enabledE n x = (enabledL x 0 n.trans, 0) := by unfold enabledE; rw [if_pos hx0]
  rw [hoe] at hon
  generalize enabledL x 0 n.trans = on at hE hon
  replace hon : Pure P 23 [eN n, eL eI x] (.tup [eL eI on, eI 0]) := hon
  generalize hK : expS n most (most.toNat - i) (i + 1) = K at hE
  all_goals refine aw_draw hmix ?_
  all_goals refine adraw_ex ?_
  all_goals (first | refine ex_free rfl rfl (runs_none rfl) (fun _ => (does_load_refw rfl ta24 ti24 rfl rfl)) ?_ | refine ex_look rfl rfl (runs_none rfl) (look_whole rfl ta24 ti24 rfl rfl rfl rfl rfl) ?_ | refine ex_free rfl rfl (runs_none rfl) (fun _ => (does_load_refs rfl ta24 ti24 rfl (Nat.le_of_ble_eq_true rfl))) ?_ | refine ex_look rfl rfl (runs_none rfl) (look_ptrs rfl ta24 ti24 rfl rfl rfl rfl (Nat.le_of_ble_eq_true rfl)) ?_)
  all_goals (first | refine ex_free rfl rfl (runs_none rfl) (fun _ => (does_fieldAddr_ptr rfl tf29_0 (by decide) rfl)) ?_ | refine ex_free rfl rfl (runs_none rfl) (fun _ => (does_fieldAddr_ref rfl tf29_0 (by decide) rfl)) ?_)
  all_goals (first | refine ex_free rfl rfl (runs_none rfl) (fun _ => (does_load_ref rfl ta26 rfl)) ?_ | refine ex_look rfl rfl (runs_none rfl) (look_ptr rfl ta26 rfl rfl rfl rfl rfl) ?_)
  all_goals refine ex_free rfl rfl (runs_none rfl) (fun _ => (mv_s (.inl rfl) rfl)) ?_
  all_goals (first | refine ex_free rfl rfl (runs_none rfl) (fun _ => (does_index_sl rfl ts26 ti25 rfl rfl rfl hlt rfl)) ?_ | refine ex_free rfl rfl (runs_none rfl) (fun _ => (does_index_own rfl ts26 ti25 rfl rfl rfl hlt)) ?_)
  all_goals (first | refine ex_free rfl rfl (runs_none rfl) (fun _ => (does_load_ref rfl ta25 rfl)) ?_ | refine ex_look rfl rfl (runs_none rfl) (look_ptr rfl ta25 rfl rfl rfl hix rfl) ?_)
  all_goals refine ex_free rfl rfl (runs_none rfl) (fun _ => (does_call rfl rfl (hon) (evc_cons rfl (evc_cons rfl evc_nil)))) ?_
  all_goals (first | refine ex_free rfl rfl (runs_none rfl) (fun _ => (mv_tup (.inl rfl) rfl)) ?_ | refine ex_free rfl rfl (runs_none rfl) (fun _ => (mv_s (.inl rfl) rfl)) ?_)
  all_goals refine ex_free rfl rfl (runs_none rfl) (fun _ => (does_extract rfl rfl rfl)) ?_
  all_goals refine ex_free rfl rfl (runs_none rfl) (fun _ => (does_extract rfl rfl rfl)) ?_
  all_goals (first | refine ex_free rfl rfl (runs_none rfl) (fun _ => (mv_own (.inr rfl) rfl)) ?_ | refine ex_free rfl rfl (runs_none rfl) (fun _ => (mv_sl (.inr rfl) rfl)) ?_ | refine ex_free rfl rfl (runs_none rfl) (fun _ => (mv_s (.inr rfl) rfl)) ?_ | refine ex_free rfl rfl (runs_none rfl) (fun _ => (mv_emp (.inr rfl) rfl)) ?_)
  all_goals refine ex_free rfl rfl (runs_none rfl) (fun _ => (mv_s (.inr rfl) rfl)) ?_
  all_goals refine ex_nil (by kernel_rfl) ?_
  all_goals (repeat (first | refine aw_seq ?_ | refine ath_n ?_ | refine aw_skip ?_ | refine abl_n ?_ | refine aw_block ?_))
  refine aw_region ?_
  first | refine ops_op rfl rfl (runs_none rfl) (mv_own (.inl rfl) rfl) ?_ | refine ops_op rfl rfl (runs_none rfl) (mv_sl (.inl rfl) rfl) ?_ | refine ops_op rfl rfl (runs_none rfl) (mv_s (.inl rfl) rfl) ?_ | refine ops_op rfl rfl (runs_none rfl) (mv_emp (.inl rfl) rfl) ?_
  first | refine ops_op rfl rfl (runs_none rfl) (does_len_map rfl ts25 rfl) ?_ | refine ops_op rfl rfl (runs_none rfl) (does_len_sl rfl ts25 rfl) ?_ | refine ops_op rfl rfl (runs_none rfl) (does_len_own rfl ts25 rfl) ?_ | refine ops_op rfl rfl (runs_none rfl) (does_len_s rfl ts25 rfl) ?_ | refine ops_op rfl rfl (runs_none rfl) (does_len_emp rfl ts25 rfl) ?_
  refine ops_op rfl rfl (runs_none rfl) (mv_s (.inl rfl) rfl) ?_
  refine ops_nil ?_
  repeat (first | refine aw_seq ?_ | refine ath_n ?_ | refine aw_skip ?_ | refine abl_n ?_ | refine aw_block ?_)
  refine aw_bdm (d := 62) rfl (fun hmx => ?_)
  unfold maxLen at hmx
  refine aw_loops (S := Nat × Spc) (fun p => [(2, eI most), (3, .ref (eN n).cells), (6, .ptr 0 3 0 0), (10, .ptr 1 3 0 0), (11, .mp 4), (12, eI i), (62, eL eI on), (63, eI on.length), (64, eI p.1)]) (fun p => stX P p.2) (fun p => p.1 ≤ on.length ∧ SI n most p.2 ∧ p.2.st[i]? = some x ∧ (rowS n most i x (on.drop p.1) p.2).bind K = R0) (fun p => on.length - p.1) (0, s) (wk_sub _ ⟨rfl, rfl, rfl, rfl, rfl, rfl, rfl, rfl, rfl, trivial⟩) ⟨Nat.zero_le _, hs, hxi, hE⟩ (fun p hp => ?_)
  clear hE hs hle hmv hxi hix hlt hi hf
  obtain ⟨q, s⟩ := p
  obtain ⟨hq, hs, hxi, hE⟩ := hp
  replace hq : q ≤ on.length := hq
  replace hs : SI n most s := hs
  replace hxi : s.st[i]? = some x := hxi
  replace hE : (rowS n most i x (on.drop q) s).bind K = R0 := hE
  have hlt : i < s.st.length := (List.getElem?_eq_some_iff.1 hxi).1
  have hle : (s.st.length : Int) ≤ most := hs.le
  have hmv : s.mv.length ≤ 20000 := hs.mvs
  have hix : (s.st.map (eL eI))[i]? = some (eL eI x) := by rw [List.getElem?_map, hxi]; rfl
  have hsl : (s.st.map (eL eI)).length = s.st.length := by simp
  have hsm : (s.mv.map eMv).length = s.mv.length := by simp
  repeat (first | refine aw_seq ?_ | refine ath_n ?_ | refine aw_skip ?_ | refine abl_n ?_ | refine aw_block ?_)
  all_goals refine aw_region ?_
  all_goals (first | refine ops_opP rfl rfl (runs_none rfl) (does_lss rfl rfl rfl) (fun h65 => ?_) (fun h65 => ?_) | refine ops_opB rfl rfl (runs_none rfl) (does_lss rfl rfl rfl) (fun h65 => ?_) (fun h65 => ?_))
  all_goals refine ops_nil ?_
  all_goals (repeat (first | refine aw_seq ?_ | refine ath_n ?_ | refine aw_skip ?_ | refine abl_n ?_ | refine aw_block ?_))
  all_goals (first | refine aw_true rfl ?_ | refine aw_false rfl ?_)
  all_goals (repeat (first | refine aw_seq ?_ | refine ath_n ?_ | refine aw_skip ?_ | refine abl_n ?_ | refine aw_block ?_))
  all_goals dsimp only at h65
  rotate_left 1
  · have e : q = on.length := by omega
    subst e
    rw [List.drop_length] at hE
    (refine aw_exit ?_; repeat (first | refine ath_x ?_ | refine abl_hit ?_ | refine abl_miss rfl ?_ | refine abl_n ?_ | refine ath_n ?_ | refine aw_seq ?_ | refine aw_skip ?_ | refine aw_block ?_))
    refine aw_region ?_
    refine ops_op rfl rfl (runs_none rfl) (mv_s (.inl rfl) rfl) ?_
    refine ops_op rfl rfl (runs_none rfl) (does_add rfl rfl rfl (IntWalk.i64_in _ (by omega))) ?_
    refine ops_op rfl rfl (runs_none rfl) (mv_s (.inr rfl) rfl) ?_
    refine ops_nil ?_
    repeat (first | refine aw_seq ?_ | refine ath_n ?_ | refine aw_skip ?_ | refine abl_n ?_ | refine aw_block ?_)
    refine ⟨(i + 1, s), ⟨hs, by show i + 1 ≤ s.st.length; omega, ?_⟩, by show most.toNat + 1 - (i + 1) < most.toNat + 1 - i; omega, wk_sub _ ⟨rfl, rfl, rfl, rfl, rfl, rfl, trivial⟩⟩
    show expS n most (most.toNat + 1 - (i + 1)) (i + 1) s = R0
    rw [show most.toNat + 1 - (i + 1) = most.toNat - i by omega, hK]
    exact hE
  have hqt : q < on.length := by omega
  rw [drop_gti hqt] at hE
  have hiq : (on.map eI)[q]? = some (eI (gti on q)) := ix_map hqt
  generalize gti on q = t at hE hiq
  have hF := Fire_pf (P := P) n x t
  have hFm := fun h => FireE_mark (t := t) hx0 h
  have hst : (rowS n most i x (t :: on.drop (q + 1)) s) = (stepS most i s (FireE n x t) t).bind (rowS n most i x (on.drop (q + 1))) := rfl
  rw [hst] at hE
  have hSI := fun s' h => SI.step (i := i) (t := t) (s' := s') hs hx0 h
  generalize FireE n x t = r at hE hF hFm hSI
  have key : ∀ s', stepS most i s r t = some s' → SI n most s' ∧ (rowS n most i x (on.drop (q + 1)) s').bind K = R0 := fun s' h => ⟨hSI s' h, by rw [h] at hE; exact hE⟩
  refine aw_region ?_
  first | refine ops_op rfl rfl (runs_none rfl) (does_index_sl rfl ts25 ti3 rfl rfl rfl hiq rfl) ?_ | refine ops_op rfl rfl (runs_none rfl) (does_index_own rfl ts25 ti3 rfl rfl rfl hiq) ?_
  first | refine ops_op rfl rfl (runs_none rfl) (does_load_ref rfl ta3 rfl) ?_ | refine ops_op rfl rfl (runs_none rfl) (does_load_ptr rfl ta3 rfl rfl rfl rfl rfl) ?_
  refine ops_op rfl rfl (runs_none rfl) (mv_s (.inr rfl) rfl) ?_
  refine ops_nil ?_
  repeat (first | refine aw_seq ?_ | refine ath_n ?_ | refine aw_skip ?_ | refine abl_n ?_ | refine aw_block ?_)
  all_goals refine aw_draw hmix ?_
  all_goals refine adraw_ex ?_
  all_goals (first | refine ex_free rfl rfl (runs_none rfl) (fun _ => (does_load_refw rfl ta24 ti24 rfl rfl)) ?_ | refine ex_look rfl rfl (runs_none rfl) (look_whole rfl ta24 ti24 rfl rfl rfl rfl rfl) ?_ | refine ex_free rfl rfl (runs_none rfl) (fun _ => (does_load_refs rfl ta24 ti24 rfl (Nat.le_of_ble_eq_true rfl))) ?_ | refine ex_look rfl rfl (runs_none rfl) (look_ptrs rfl ta24 ti24 rfl rfl rfl rfl (Nat.le_of_ble_eq_true rfl)) ?_)
  all_goals (first | refine ex_free rfl rfl (runs_none rfl) (fun _ => (does_fieldAddr_ptr rfl tf29_0 (by decide) rfl)) ?_ | refine ex_free rfl rfl (runs_none rfl) (fun _ => (does_fieldAddr_ref rfl tf29_0 (by decide) rfl)) ?_)
  all_goals (first | refine ex_free rfl rfl (runs_none rfl) (fun _ => (does_load_ref rfl ta26 rfl)) ?_ | refine ex_look rfl rfl (runs_none rfl) (look_ptr rfl ta26 rfl rfl rfl rfl rfl) ?_)
  all_goals refine ex_free rfl rfl (runs_none rfl) (fun _ => (mv_s (.inl rfl) rfl)) ?_
  all_goals (first | refine ex_free rfl rfl (runs_none rfl) (fun _ => (does_index_sl rfl ts26 ti25 rfl rfl rfl hlt rfl)) ?_ | refine ex_free rfl rfl (runs_none rfl) (fun _ => (does_index_own rfl ts26 ti25 rfl rfl rfl hlt)) ?_)
  all_goals (first | refine ex_free rfl rfl (runs_none rfl) (fun _ => (does_load_ref rfl ta25 rfl)) ?_ | refine ex_look rfl rfl (runs_none rfl) (look_ptr rfl ta25 rfl rfl rfl hix rfl) ?_)
  all_goals refine ex_free rfl rfl (runs_none rfl) (fun _ => (mv_s (.inl rfl) rfl)) ?_
  all_goals refine ex_free rfl rfl (runs_none rfl) (fun _ => (does_call rfl rfl (hF) (evc_cons rfl (evc_cons rfl (evc_cons rfl evc_nil))))) ?_
  all_goals (first | refine ex_free rfl rfl (runs_none rfl) (fun _ => (mv_tup (.inl rfl) rfl)) ?_ | refine ex_free rfl rfl (runs_none rfl) (fun _ => (mv_s (.inl rfl) rfl)) ?_)
  all_goals refine ex_free rfl rfl (runs_none rfl) (fun _ => (does_extract rfl rfl rfl)) ?_
  all_goals refine ex_free rfl rfl (runs_none rfl) (fun _ => (does_extract rfl rfl rfl)) ?_
  all_goals (first | refine ex_free rfl rfl (runs_none rfl) (fun _ => (mv_own (.inr rfl) rfl)) ?_ | refine ex_free rfl rfl (runs_none rfl) (fun _ => (mv_sl (.inr rfl) rfl)) ?_ | refine ex_free rfl rfl (runs_none rfl) (fun _ => (mv_s (.inr rfl) rfl)) ?_ | refine ex_free rfl rfl (runs_none rfl) (fun _ => (mv_emp (.inr rfl) rfl)) ?_)
  all_goals refine ex_free rfl rfl (runs_none rfl) (fun _ => (mv_s (.inr rfl) rfl)) ?_
  all_goals refine ex_nil (by kernel_rfl) ?_
  all_goals (repeat (first | refine aw_seq ?_ | refine ath_n ?_ | refine aw_skip ?_ | refine abl_n ?_ | refine aw_block ?_))
  all_goals refine aw_region ?_
  all_goals refine ops_op rfl rfl (runs_none rfl) (mv_s (.inl rfl) rfl) ?_
  all_goals (first | refine ops_opP rfl rfl (runs_none rfl) (does_neq rfl rfl rfl) (fun h80 => ?_) (fun h80 => ?_) | refine ops_opB rfl rfl (runs_none rfl) (does_neq rfl rfl rfl) (fun h80 => ?_) (fun h80 => ?_))
  all_goals refine ops_nil ?_
  all_goals (repeat (first | refine aw_seq ?_ | refine ath_n ?_ | refine aw_skip ?_ | refine abl_n ?_ | refine aw_block ?_))
  all_goals (first | refine aw_true rfl ?_ | refine aw_false rfl ?_)
  all_goals (repeat (first | refine aw_seq ?_ | refine ath_n ?_ | refine aw_skip ?_ | refine abl_n ?_ | refine aw_block ?_))
  · have hstep : stepS most i s r t = some ⟨s.st, s.mv, false⟩ := by unfold stepS; rw [if_pos (.inl h80)]
    obtain ⟨g1, g2⟩ := key _ hstep
    refine aw_region ?_
    first | refine ops_op rfl rfl (runs_none rfl) (does_fieldAddr_ptr rfl tf29_2 (by decide) rfl) ?_ | refine ops_op rfl rfl (runs_none rfl) (does_fieldAddr_ref rfl tf29_2 (by decide) rfl) ?_
    refine ops_eff rfl (runs_none rfl) (does_store rfl ti4 rfl rfl rfl rfl rfl rfl (by decide) (by decide)) ?_
    refine ops_nil ?_
    repeat (first | refine aw_seq ?_ | refine ath_n ?_ | refine aw_skip ?_ | refine abl_n ?_ | refine aw_block ?_)
    (refine aw_exit ?_; repeat (first | refine ath_x ?_ | refine abl_hit ?_ | refine abl_miss rfl ?_ | refine abl_n ?_ | refine ath_n ?_ | refine aw_seq ?_ | refine aw_skip ?_ | refine aw_block ?_))
    refine aw_region ?_
    refine ops_op rfl rfl (runs_none rfl) (does_add rfl rfl rfl (IntWalk.i64_in _ (by omega))) ?_
    refine ops_op rfl rfl (runs_none rfl) (mv_s (.inl rfl) rfl) ?_
    refine ops_nil ?_
    repeat (first | refine aw_seq ?_ | refine ath_n ?_ | refine aw_skip ?_ | refine abl_n ?_ | refine aw_block ?_)
    exact ⟨(q + 1, ⟨s.st, s.mv, false⟩), ⟨by show q + 1 ≤ on.length; omega, g1, hxi, g2⟩, by show on.length - (q + 1) < on.length - q; omega, wk_sub _ ⟨rfl, rfl, rfl, rfl, rfl, rfl, rfl, rfl, rfl, trivial⟩⟩
  have hr2 : r.2 = 0 := Classical.byContradiction fun h => h80 h
  have hmr := hFm hr2
  have hmrl := markB_len hmr
  have hsmr := markB_small hmr
  have hk2 := key_pf (P := P) r.1 hsmr hmrl.2.1
  have hks2 : (keyS r.1).size ≤ maxLen := by rw [keyS_size]; unfold maxLen; omega
  have hsms : ∀ y ∈ s.st, Small y := fun y hy => markB_small (hs.marks y hy)
  by_cases hf : findI s.st r.1 < 0
  · have hno := atD_no hsmr _ s.st rfl hsms (findI_neg.1 hf)
    all_goals refine aw_region ?_
    all_goals (first | refine ops_op rfl rfl (runs_none rfl) (mv_mp (.inl rfl) rfl) ?_ | refine ops_op rfl rfl (runs_none rfl) (mv_s (.inl rfl) rfl) ?_)
    all_goals (first | refine ops_op rfl rfl (runs_none rfl) (mv_own (.inl rfl) rfl) ?_ | refine ops_op rfl rfl (runs_none rfl) (mv_sl (.inl rfl) rfl) ?_ | refine ops_op rfl rfl (runs_none rfl) (mv_s (.inl rfl) rfl) ?_ | refine ops_op rfl rfl (runs_none rfl) (mv_emp (.inl rfl) rfl) ?_)
    all_goals refine ops_op rfl rfl (runs_none rfl) (does_call rfl rfl (hk2) (evc_cons rfl evc_nil)) ?_
    all_goals refine ops_op rfl rfl (runs_none rfl) (does_lookupC rfl tm72 tK9 rfl rfl ⟨rfl, rfl, rfl⟩ rfl (keyOf_string_mk tn9 hks2) ti3 (plainElem_int tn3 rfl) (by exact atKey_of_not_has hno _) hno) ?_
    all_goals (first | refine ops_op rfl rfl (runs_none rfl) (mv_tup (.inl rfl) rfl) ?_ | refine ops_op rfl rfl (runs_none rfl) (mv_s (.inl rfl) rfl) ?_)
    all_goals refine ops_op rfl rfl (runs_none rfl) (does_extract rfl rfl rfl) ?_
    all_goals refine ops_op rfl rfl (runs_none rfl) (does_extract rfl rfl rfl) ?_
    all_goals refine ops_op rfl rfl (runs_none rfl) (mv_s (.inr rfl) rfl) ?_
    all_goals refine ops_op rfl rfl (runs_none rfl) (mv_s (.inr rfl) rfl) ?_
    all_goals refine ops_nil ?_
    all_goals (repeat (first | refine aw_seq ?_ | refine ath_n ?_ | refine aw_skip ?_ | refine abl_n ?_ | refine aw_block ?_))
    all_goals refine aw_region ?_
    all_goals refine ops_op rfl rfl (runs_none rfl) (mv_s (.inl rfl) rfl) ?_
    all_goals (first | refine ops_op rfl rfl (runs_none rfl) (does_notp rfl rfl) ?_ | refine ops_op rfl rfl (runs_none rfl) (does_not rfl rfl) ?_)
    all_goals refine ops_nil ?_
    all_goals (repeat (first | refine aw_seq ?_ | refine ath_n ?_ | refine aw_skip ?_ | refine abl_n ?_ | refine aw_block ?_))
    all_goals (first | refine aw_true rfl ?_ | refine aw_false rfl ?_)
    all_goals (repeat (first | refine aw_seq ?_ | refine ath_n ?_ | refine aw_skip ?_ | refine abl_n ?_ | refine aw_block ?_))
    all_goals refine aw_region ?_
    all_goals (first | refine ops_op rfl rfl (runs_none rfl) (does_fieldAddr_ptr rfl tf29_0 (by decide) rfl) ?_ | refine ops_op rfl rfl (runs_none rfl) (does_fieldAddr_ref rfl tf29_0 (by decide) rfl) ?_)
    all_goals (first | refine ops_op rfl rfl (runs_none rfl) (does_load_ref rfl ta26 rfl) ?_ | refine ops_op rfl rfl (runs_none rfl) (does_load_ptr rfl ta26 rfl rfl rfl rfl rfl) ?_)
    all_goals (first | refine ops_op rfl rfl (runs_none rfl) (does_len_map rfl ts26 rfl) ?_ | refine ops_op rfl rfl (runs_none rfl) (does_len_sl rfl ts26 rfl) ?_ | refine ops_op rfl rfl (runs_none rfl) (does_len_own rfl ts26 rfl) ?_ | refine ops_op rfl rfl (runs_none rfl) (does_len_s rfl ts26 rfl) ?_ | refine ops_op rfl rfl (runs_none rfl) (does_len_emp rfl ts26 rfl) ?_)
    all_goals refine ops_op rfl rfl (runs_none rfl) (mv_s (.inl rfl) rfl) ?_
    all_goals (first | refine ops_opP rfl rfl (runs_none rfl) (does_geq rfl rfl rfl) (fun h95 => ?_) (fun h95 => ?_) | refine ops_opB rfl rfl (runs_none rfl) (does_geq rfl rfl rfl) (fun h95 => ?_) (fun h95 => ?_))
    all_goals refine ops_nil ?_
    all_goals (repeat (first | refine aw_seq ?_ | refine ath_n ?_ | refine aw_skip ?_ | refine abl_n ?_ | refine aw_block ?_))
    all_goals (first | refine aw_true rfl ?_ | refine aw_false rfl ?_)
    all_goals (repeat (first | refine aw_seq ?_ | refine ath_n ?_ | refine aw_skip ?_ | refine abl_n ?_ | refine aw_block ?_))
    all_goals dsimp only at h95
    · have hstep : stepS most i s r t = some ⟨s.st, s.mv, false⟩ := by unfold stepS; rw [if_pos (.inr ⟨hf, by omega⟩)]
      obtain ⟨g1, g2⟩ := key _ hstep
      refine aw_region ?_
      first | refine ops_op rfl rfl (runs_none rfl) (does_fieldAddr_ptr rfl tf29_2 (by decide) rfl) ?_ | refine ops_op rfl rfl (runs_none rfl) (does_fieldAddr_ref rfl tf29_2 (by decide) rfl) ?_
      refine ops_eff rfl (runs_none rfl) (does_store rfl ti4 rfl rfl rfl rfl rfl rfl (by decide) (by decide)) ?_
      refine ops_nil ?_
      repeat (first | refine aw_seq ?_ | refine ath_n ?_ | refine aw_skip ?_ | refine abl_n ?_ | refine aw_block ?_)
      (refine aw_exit ?_; repeat (first | refine ath_x ?_ | refine abl_hit ?_ | refine abl_miss rfl ?_ | refine abl_n ?_ | refine ath_n ?_ | refine aw_seq ?_ | refine aw_skip ?_ | refine aw_block ?_))
      refine aw_region ?_
      refine ops_op rfl rfl (runs_none rfl) (does_add rfl rfl rfl (IntWalk.i64_in _ (by omega))) ?_
      refine ops_op rfl rfl (runs_none rfl) (mv_s (.inl rfl) rfl) ?_
      refine ops_nil ?_
      repeat (first | refine aw_seq ?_ | refine ath_n ?_ | refine aw_skip ?_ | refine abl_n ?_ | refine aw_block ?_)
      exact ⟨(q + 1, ⟨s.st, s.mv, false⟩), ⟨by show q + 1 ≤ on.length; omega, g1, hxi, g2⟩, by show on.length - (q + 1) < on.length - q; omega, wk_sub _ ⟨rfl, rfl, rfl, rfl, rfl, rfl, rfl, rfl, rfl, trivial⟩⟩
    · have hwf := wf_len (k := s.st.length) (by omega)
      refine aw_region ?_
      first | refine ops_op rfl rfl (runs_none rfl) (does_fieldAddr_ptr rfl tf29_0 (by decide) rfl) ?_ | refine ops_op rfl rfl (runs_none rfl) (does_fieldAddr_ref rfl tf29_0 (by decide) rfl) ?_
      first | refine ops_op rfl rfl (runs_none rfl) (does_load_ref rfl ta26 rfl) ?_ | refine ops_op rfl rfl (runs_none rfl) (does_load_ptr rfl ta26 rfl rfl rfl rfl rfl) ?_
      first | refine ops_op rfl rfl (runs_none rfl) (does_len_map rfl ts26 rfl) ?_ | refine ops_op rfl rfl (runs_none rfl) (does_len_sl rfl ts26 rfl) ?_ | refine ops_op rfl rfl (runs_none rfl) (does_len_own rfl ts26 rfl) ?_ | refine ops_op rfl rfl (runs_none rfl) (does_len_s rfl ts26 rfl) ?_ | refine ops_op rfl rfl (runs_none rfl) (does_len_emp rfl ts26 rfl) ?_
      refine ops_op rfl rfl (runs_none rfl) (mv_s (.inr rfl) rfl) ?_
      refine ops_nil ?_
      repeat (first | refine aw_seq ?_ | refine ath_n ?_ | refine aw_skip ?_ | refine abl_n ?_ | refine aw_block ?_)
      refine aw_region ?_
      first | refine ops_op rfl rfl (runs_none rfl) (mv_mp (.inl rfl) rfl) ?_ | refine ops_op rfl rfl (runs_none rfl) (mv_s (.inl rfl) rfl) ?_
      first | refine ops_op rfl rfl (runs_none rfl) (mv_own (.inl rfl) rfl) ?_ | refine ops_op rfl rfl (runs_none rfl) (mv_sl (.inl rfl) rfl) ?_ | refine ops_op rfl rfl (runs_none rfl) (mv_s (.inl rfl) rfl) ?_ | refine ops_op rfl rfl (runs_none rfl) (mv_emp (.inl rfl) rfl) ?_
      refine ops_op rfl rfl (runs_none rfl) (does_call rfl rfl (hk2) (evc_cons rfl evc_nil)) ?_
      refine ops_op rfl rfl (runs_none rfl) (mv_s (.inl rfl) rfl) ?_
      refine ops_eff rfl (runs_none rfl) (does_mapput (.inl rfl) tm72 tK9 rfl rfl ⟨rfl, rfl, rfl⟩ (by show s.st.length < maxLen; unfold maxLen; omega) rfl rfl (keyOf_string_mk tn9 (by first | assumption | (unfold maxLen; omega))) (plainElem_int tn3 (by first | rfl | assumption))) ?_
      refine ops_nil ?_
      repeat (first | refine aw_seq ?_ | refine ath_n ?_ | refine aw_skip ?_ | refine abl_n ?_ | refine aw_block ?_)
      refine aw_region ?_
      first | refine ops_op rfl rfl (runs_none rfl) (does_fieldAddr_ptr rfl tf29_0 (by decide) rfl) ?_ | refine ops_op rfl rfl (runs_none rfl) (does_fieldAddr_ref rfl tf29_0 (by decide) rfl) ?_
      first | refine ops_op rfl rfl (runs_none rfl) (does_load_ref rfl ta26 rfl) ?_ | refine ops_op rfl rfl (runs_none rfl) (does_load_ptr rfl ta26 rfl rfl rfl rfl rfl) ?_
      first | refine ops_op rfl rfl (runs_none rfl) (mv_own (.inl rfl) rfl) ?_ | refine ops_op rfl rfl (runs_none rfl) (mv_sl (.inl rfl) rfl) ?_ | refine ops_op rfl rfl (runs_none rfl) (mv_s (.inl rfl) rfl) ?_ | refine ops_op rfl rfl (runs_none rfl) (mv_emp (.inl rfl) rfl) ?_
      first | refine ops_op rfl rfl (runs_none rfl) (lit1_sF rfl ts26 ti25 rfl rfl rfl rfl) ?_ | refine ops_op rfl rfl (runs_none rfl) (lit1_slF rfl ts26 ti25 rfl rfl rfl rfl (by repeat' (first | exact Lo.s _ | exact Lo.emp | exact Lo.any | exact lo_nil | exact lo_nilE | refine lo_cons ?_ ?_ | refine lo_consE ?_ ?_ | refine lo_map ?_ | refine lo_mapE ?_ | refine Lo.cells ?_ | refine Lo.agg _ ?_ | refine Lo.ref _ ?_ | refine Lo.tup _ ?_ | refine Lo.fn _ _ ?_ | refine Lo.sl _ ?_ | intro _))) ?_ | refine ops_op rfl rfl (runs_none rfl) (does_litAF rfl ts26 ti25 rfl rfl (by decide) (by decide) rfl rfl rfl (by repeat' (first | exact Lo.s _ | exact Lo.emp | exact Lo.any | exact lo_nil | exact lo_nilE | refine lo_cons ?_ ?_ | refine lo_consE ?_ ?_ | refine lo_map ?_ | refine lo_mapE ?_ | refine Lo.cells ?_ | refine Lo.agg _ ?_ | refine Lo.ref _ ?_ | refine Lo.tup _ ?_ | refine Lo.fn _ _ ?_ | refine Lo.sl _ ?_ | intro _))) ?_
      first | refine ops_op rfl rfl (runs_none rfl) (does_append rfl ts26 ti25 rfl (by decide) rfl rfl (by first | rfl | (simp; done) | (simp; omega)) rfl (by first | exact .own _ _ _ rfl rfl _ (by first | rfl | simp) | exact .emp | exact .nil | exact .sl _ (by first | simp; done | intro e he; simp at he; obtain ⟨_, _, rfl⟩ := he; rfl)) (by first | omega | (simp; omega) | (unfold maxLen; simp; omega)) (by first | omega | (simp; omega) | (unfold maxLen; simp; omega))) ?_ | refine ops_op rfl rfl (runs_none rfl) (does_append0 rfl ts26 ti25 rfl (by decide) rfl (.inl rfl) rfl (by first | exact .own _ _ _ rfl rfl _ (by first | rfl | simp) | exact .emp | exact .nil | exact .sl _ (by first | simp; done | intro e he; simp at he; obtain ⟨_, _, rfl⟩ := he; rfl)) (by first | omega | (simp; omega) | (unfold maxLen; simp; omega)) (by first | omega | (simp; omega) | (unfold maxLen; simp; omega))) ?_ | refine ops_op rfl rfl (runs_none rfl) (does_append0 rfl ts26 ti25 rfl (by decide) rfl (.inr rfl) rfl (by first | exact .own _ _ _ rfl rfl _ (by first | rfl | simp) | exact .emp | exact .nil | exact .sl _ (by first | simp; done | intro e he; simp at he; obtain ⟨_, _, rfl⟩ := he; rfl)) (by first | omega | (simp; omega) | (unfold maxLen; simp; omega)) (by first | omega | (simp; omega) | (unfold maxLen; simp; omega))) ?_
      first | refine ops_op rfl rfl (runs_none rfl) (does_fieldAddr_ptr rfl tf29_0 (by decide) rfl) ?_ | refine ops_op rfl rfl (runs_none rfl) (does_fieldAddr_ref rfl tf29_0 (by decide) rfl) ?_
      refine ops_eff rfl (runs_none rfl) (does_store rfl ti26 rfl rfl rfl rfl rfl rfl (by decide) (by decide)) ?_
      refine ops_nil ?_
      repeat (first | refine aw_seq ?_ | refine ath_n ?_ | refine aw_skip ?_ | refine abl_n ?_ | refine aw_block ?_)
      refine aw_region ?_
      first | refine ops_op rfl rfl (runs_none rfl) (does_fieldAddr_ptr rfl tf29_1 (by decide) rfl) ?_ | refine ops_op rfl rfl (runs_none rfl) (does_fieldAddr_ref rfl tf29_1 (by decide) rfl) ?_
      first | refine ops_op rfl rfl (runs_none rfl) (does_load_ref rfl ta27 rfl) ?_ | refine ops_op rfl rfl (runs_none rfl) (does_load_ptr rfl ta27 rfl rfl rfl rfl rfl) ?_
      refine ops_op rfl rfl (runs_none rfl) (mv_s (.inl rfl) rfl) ?_
      refine ops_op rfl rfl (runs_none rfl) (mv_s (.inl rfl) rfl) ?_
      refine ops_op rfl rfl (runs_none rfl) (mv_s (.inl rfl) rfl) ?_
      refine ops_op rfl rfl (runs_none rfl) (does_build rfl ti56 tp56 rfl rfl) ?_
      first | refine ops_op rfl rfl (runs_none rfl) (lit1_sF rfl ts27 ti56 rfl rfl rfl rfl) ?_ | refine ops_op rfl rfl (runs_none rfl) (lit1_slF rfl ts27 ti56 rfl rfl rfl rfl (by repeat' (first | exact Lo.s _ | exact Lo.emp | exact Lo.any | exact lo_nil | exact lo_nilE | refine lo_cons ?_ ?_ | refine lo_consE ?_ ?_ | refine lo_map ?_ | refine lo_mapE ?_ | refine Lo.cells ?_ | refine Lo.agg _ ?_ | refine Lo.ref _ ?_ | refine Lo.tup _ ?_ | refine Lo.fn _ _ ?_ | refine Lo.sl _ ?_ | intro _))) ?_ | refine ops_op rfl rfl (runs_none rfl) (does_litAF rfl ts27 ti56 rfl rfl (by decide) (by decide) rfl rfl rfl (by repeat' (first | exact Lo.s _ | exact Lo.emp | exact Lo.any | exact lo_nil | exact lo_nilE | refine lo_cons ?_ ?_ | refine lo_consE ?_ ?_ | refine lo_map ?_ | refine lo_mapE ?_ | refine Lo.cells ?_ | refine Lo.agg _ ?_ | refine Lo.ref _ ?_ | refine Lo.tup _ ?_ | refine Lo.fn _ _ ?_ | refine Lo.sl _ ?_ | intro _))) ?_
      first | refine ops_op rfl rfl (runs_none rfl) (does_append rfl ts27 ti56 rfl (by decide) rfl rfl (by first | rfl | (simp; done) | (simp; omega)) rfl (by first | exact .own _ _ _ rfl rfl _ (by first | rfl | simp) | exact .emp | exact .nil | exact .sl _ (by first | simp; done | intro e he; simp at he; obtain ⟨_, _, rfl⟩ := he; rfl)) (by first | omega | (simp; omega) | (unfold maxLen; simp; omega)) (by first | omega | (simp; omega) | (unfold maxLen; simp; omega))) ?_ | refine ops_op rfl rfl (runs_none rfl) (does_append0 rfl ts27 ti56 rfl (by decide) rfl (.inl rfl) rfl (by first | exact .own _ _ _ rfl rfl _ (by first | rfl | simp) | exact .emp | exact .nil | exact .sl _ (by first | simp; done | intro e he; simp at he; obtain ⟨_, _, rfl⟩ := he; rfl)) (by first | omega | (simp; omega) | (unfold maxLen; simp; omega)) (by first | omega | (simp; omega) | (unfold maxLen; simp; omega))) ?_ | refine ops_op rfl rfl (runs_none rfl) (does_append0 rfl ts27 ti56 rfl (by decide) rfl (.inr rfl) rfl (by first | exact .own _ _ _ rfl rfl _ (by first | rfl | simp) | exact .emp | exact .nil | exact .sl _ (by first | simp; done | intro e he; simp at he; obtain ⟨_, _, rfl⟩ := he; rfl)) (by first | omega | (simp; omega) | (unfold maxLen; simp; omega)) (by first | omega | (simp; omega) | (unfold maxLen; simp; omega))) ?_
      first | refine ops_op rfl rfl (runs_none rfl) (does_fieldAddr_ptr rfl tf29_1 (by decide) rfl) ?_ | refine ops_op rfl rfl (runs_none rfl) (does_fieldAddr_ref rfl tf29_1 (by decide) rfl) ?_
      refine ops_eff rfl (runs_none rfl) (does_store rfl ti27 rfl rfl rfl rfl rfl rfl (by decide) (by decide)) ?_
      refine ops_nil ?_
      repeat (first | refine aw_seq ?_ | refine ath_n ?_ | refine aw_skip ?_ | refine abl_n ?_ | refine aw_block ?_)
      have hrow : (s.st ++ [r.1]).map (eL eI) = s.st.map (eL eI) ++ [eL eI r.1] := by simp
      have hmrow : (s.mv ++ [(⟨i, s.st.length, t⟩ : Mvx)]).map eMv = s.mv.map eMv ++ [eMv ⟨i, s.st.length, t⟩] := by simp
      all_goals refine aw_region ?_
      all_goals (first | refine ops_op rfl rfl (runs_none rfl) (does_fieldAddr_ptr rfl tf29_1 (by decide) rfl) ?_ | refine ops_op rfl rfl (runs_none rfl) (does_fieldAddr_ref rfl tf29_1 (by decide) rfl) ?_)
      all_goals (first | refine ops_op rfl rfl (runs_none rfl) (does_load_ref rfl ta27 rfl) ?_ | refine ops_op rfl rfl (runs_none rfl) (does_load_ptr rfl ta27 rfl rfl rfl rfl rfl) ?_)
      all_goals (first | refine ops_op rfl rfl (runs_none rfl) (does_len_map rfl ts27 rfl) ?_ | refine ops_op rfl rfl (runs_none rfl) (does_len_sl rfl ts27 rfl) ?_ | refine ops_op rfl rfl (runs_none rfl) (does_len_own rfl ts27 rfl) ?_ | refine ops_op rfl rfl (runs_none rfl) (does_len_s rfl ts27 rfl) ?_ | refine ops_op rfl rfl (runs_none rfl) (does_len_emp rfl ts27 rfl) ?_)
      all_goals (first | refine ops_opP rfl rfl (runs_none rfl) (does_gtr rfl rfl rfl) (fun h122 => ?_) (fun h122 => ?_) | refine ops_opB rfl rfl (runs_none rfl) (does_gtr rfl rfl rfl) (fun h122 => ?_) (fun h122 => ?_))
      all_goals refine ops_nil ?_
      all_goals (repeat (first | refine aw_seq ?_ | refine ath_n ?_ | refine aw_skip ?_ | refine abl_n ?_ | refine aw_block ?_))
      all_goals (first | refine aw_true rfl ?_ | refine aw_false rfl ?_)
      all_goals (repeat (first | refine aw_seq ?_ | refine ath_n ?_ | refine aw_skip ?_ | refine abl_n ?_ | refine aw_block ?_))
      all_goals dsimp only at h122
      all_goals try simp only [List.length_cons, List.length_nil] at h122
      · have hstep : stepS most i s r t = none := by unfold stepS; rw [if_neg (by rintro (h | h) <;> omega), if_pos (by omega)]
        refine aw_region ?_
        refine ops_op rfl rfl (runs_none rfl) (does_build rfl ti29 tp29 rfl rfl) ?_
        refine ops_eff rfl (runs_none rfl) (does_store rfl ti29 rfl rfl rfl rfl rfl rfl (by decide) (by decide)) ?_
        refine ops_op rfl rfl (runs_none rfl) (mv_s (.inr rfl) rfl) ?_
        refine ops_nil ?_
        repeat (first | refine aw_seq ?_ | refine ath_n ?_ | refine aw_skip ?_ | refine abl_n ?_ | refine aw_block ?_)
        (refine aw_ret ?_; repeat (first | refine ath_r ?_ | refine abl_r ?_))
        exact post_zs (N := 0) (.inr rfl) ta29 ti29 rfl rfl rfl rfl rfl rfl (by rw [HI, ← hE, hstep]; rfl)
      · have hstep : stepS most i s r t = some ⟨s.st ++ [r.1], s.mv ++ [(⟨i, s.st.length, t⟩ : Mvx)], s.full⟩ := by
          unfold stepS
          rw [if_neg (by rintro (h | h) <;> omega), if_neg (by omega)]
          simp only [if_pos hf]
        obtain ⟨g1, g2⟩ := key _ hstep
        refine aw_region ?_
        refine ops_op rfl rfl (runs_none rfl) (does_add rfl rfl rfl (IntWalk.i64_in _ (by omega))) ?_
        refine ops_op rfl rfl (runs_none rfl) (mv_s (.inl rfl) rfl) ?_
        refine ops_nil ?_
        repeat (first | refine aw_seq ?_ | refine ath_n ?_ | refine aw_skip ?_ | refine abl_n ?_ | refine aw_block ?_)
        exact ⟨(q + 1, ⟨s.st ++ [r.1], s.mv ++ [(⟨i, s.st.length, t⟩ : Mvx)], s.full⟩), ⟨by show q + 1 ≤ on.length; omega, g1, by (try rw [List.getElem?_append_left hlt]); exact hxi, g2⟩, by show on.length - (q + 1) < on.length - q; omega,
          wk_st [0, 1, 5, 6, 4] (by decide) ⟨⟨_, rfl, .rowE zSA_lo rfl⟩, ⟨_, rfl, obRn_agg (.cons (.own _ _ _ _ _ rfl (by simp)) (.cons (.own _ _ _ _ _ rfl (by simp)) (.cons (.lo _ (.s _)) .nil)))⟩, ⟨_, rfl, .rowE (rows_lo _) hrow.symm⟩, ⟨_, rfl, .rowE (mvs_lo _) hmrow.symm⟩, ⟨_, rfl, ob_mp (atX_snoc P s.st r.1).symm⟩, trivial⟩ ⟨.lo _ (by repeat' (first | exact Lo.s _ | exact Lo.emp | exact Lo.any | exact lo_nil | exact lo_nilE | refine lo_cons ?_ ?_ | refine lo_consE ?_ ?_ | refine lo_map ?_ | refine lo_mapE ?_ | refine Lo.cells ?_ | refine Lo.agg _ ?_ | refine Lo.ref _ ?_ | refine Lo.tup _ ?_ | refine Lo.fn _ _ ?_ | refine Lo.sl _ ?_ | intro _)), .lo _ hln, .ptr 0 0 3 0 0 rfl, .ptr 1 1 3 0 0 rfl, .mp 4 4 rfl, .lo _ (by repeat' (first | exact Lo.s _ | exact Lo.emp | exact Lo.any | exact lo_nil | exact lo_nilE | refine lo_cons ?_ ?_ | refine lo_consE ?_ ?_ | refine lo_map ?_ | refine lo_mapE ?_ | refine Lo.cells ?_ | refine Lo.agg _ ?_ | refine Lo.ref _ ?_ | refine Lo.tup _ ?_ | refine Lo.fn _ _ ?_ | refine Lo.sl _ ?_ | intro _)), .lo _ lo_I, .lo _ (by repeat' (first | exact Lo.s _ | exact Lo.emp | exact Lo.any | exact lo_nil | exact lo_nilE | refine lo_cons ?_ ?_ | refine lo_consE ?_ ?_ | refine lo_map ?_ | refine lo_mapE ?_ | refine Lo.cells ?_ | refine Lo.agg _ ?_ | refine Lo.ref _ ?_ | refine Lo.tup _ ?_ | refine Lo.fn _ _ ?_ | refine Lo.sl _ ?_ | intro _)), .lo _ (by repeat' (first | exact Lo.s _ | exact Lo.emp | exact Lo.any | exact lo_nil | exact lo_nilE | refine lo_cons ?_ ?_ | refine lo_consE ?_ ?_ | refine lo_map ?_ | refine lo_mapE ?_ | refine Lo.cells ?_ | refine Lo.agg _ ?_ | refine Lo.ref _ ?_ | refine Lo.tup _ ?_ | refine Lo.fn _ _ ?_ | refine Lo.sl _ ?_ | intro _)), trivial⟩⟩
  · have hmem : r.1 ∈ s.st := Classical.byContradiction fun h => hf (findI_neg.2 h)
    obtain ⟨hyes, hat⟩ := atD_yes hsmr _ s.st rfl hsms hs.nd hmem
    have hmrow : (s.mv ++ [(⟨i, findI s.st r.1, t⟩ : Mvx)]).map eMv = s.mv.map eMv ++ [eMv ⟨i, findI s.st r.1, t⟩] := by simp
    all_goals refine aw_region ?_
    all_goals (first | refine ops_op rfl rfl (runs_none rfl) (mv_mp (.inl rfl) rfl) ?_ | refine ops_op rfl rfl (runs_none rfl) (mv_s (.inl rfl) rfl) ?_)
    all_goals (first | refine ops_op rfl rfl (runs_none rfl) (mv_own (.inl rfl) rfl) ?_ | refine ops_op rfl rfl (runs_none rfl) (mv_sl (.inl rfl) rfl) ?_ | refine ops_op rfl rfl (runs_none rfl) (mv_s (.inl rfl) rfl) ?_ | refine ops_op rfl rfl (runs_none rfl) (mv_emp (.inl rfl) rfl) ?_)
    all_goals refine ops_op rfl rfl (runs_none rfl) (does_call rfl rfl (hk2) (evc_cons rfl evc_nil)) ?_
    all_goals refine ops_op rfl rfl (runs_none rfl) (does_lookupC rfl tm72 tK9 rfl rfl ⟨rfl, rfl, rfl⟩ rfl (keyOf_string_mk tn9 hks2) ti3 (plainElem_int tn3 rfl) (by exact hat _) hyes) ?_
    all_goals (first | refine ops_op rfl rfl (runs_none rfl) (mv_tup (.inl rfl) rfl) ?_ | refine ops_op rfl rfl (runs_none rfl) (mv_s (.inl rfl) rfl) ?_)
    all_goals refine ops_op rfl rfl (runs_none rfl) (does_extract rfl rfl rfl) ?_
    all_goals refine ops_op rfl rfl (runs_none rfl) (does_extract rfl rfl rfl) ?_
    all_goals refine ops_op rfl rfl (runs_none rfl) (mv_s (.inr rfl) rfl) ?_
    all_goals refine ops_op rfl rfl (runs_none rfl) (mv_s (.inr rfl) rfl) ?_
    all_goals refine ops_nil ?_
    all_goals (repeat (first | refine aw_seq ?_ | refine ath_n ?_ | refine aw_skip ?_ | refine abl_n ?_ | refine aw_block ?_))
    all_goals refine aw_region ?_
    all_goals refine ops_op rfl rfl (runs_none rfl) (mv_s (.inl rfl) rfl) ?_
    all_goals (first | refine ops_op rfl rfl (runs_none rfl) (does_notp rfl rfl) ?_ | refine ops_op rfl rfl (runs_none rfl) (does_not rfl rfl) ?_)
    all_goals refine ops_nil ?_
    all_goals (repeat (first | refine aw_seq ?_ | refine ath_n ?_ | refine aw_skip ?_ | refine abl_n ?_ | refine aw_block ?_))
    all_goals (first | refine aw_true rfl ?_ | refine aw_false rfl ?_)
    all_goals (repeat (first | refine aw_seq ?_ | refine ath_n ?_ | refine aw_skip ?_ | refine abl_n ?_ | refine aw_block ?_))
    refine aw_region ?_
    first | refine ops_op rfl rfl (runs_none rfl) (does_fieldAddr_ptr rfl tf29_1 (by decide) rfl) ?_ | refine ops_op rfl rfl (runs_none rfl) (does_fieldAddr_ref rfl tf29_1 (by decide) rfl) ?_
    first | refine ops_op rfl rfl (runs_none rfl) (does_load_ref rfl ta27 rfl) ?_ | refine ops_op rfl rfl (runs_none rfl) (does_load_ptr rfl ta27 rfl rfl rfl rfl rfl) ?_
    refine ops_op rfl rfl (runs_none rfl) (mv_s (.inl rfl) rfl) ?_
    refine ops_op rfl rfl (runs_none rfl) (mv_s (.inl rfl) rfl) ?_
    refine ops_op rfl rfl (runs_none rfl) (mv_s (.inl rfl) rfl) ?_
    refine ops_op rfl rfl (runs_none rfl) (does_build rfl ti56 tp56 rfl rfl) ?_
    first | refine ops_op rfl rfl (runs_none rfl) (lit1_sF rfl ts27 ti56 rfl rfl rfl rfl) ?_ | refine ops_op rfl rfl (runs_none rfl) (lit1_slF rfl ts27 ti56 rfl rfl rfl rfl (by repeat' (first | exact Lo.s _ | exact Lo.emp | exact Lo.any | exact lo_nil | exact lo_nilE | refine lo_cons ?_ ?_ | refine lo_consE ?_ ?_ | refine lo_map ?_ | refine lo_mapE ?_ | refine Lo.cells ?_ | refine Lo.agg _ ?_ | refine Lo.ref _ ?_ | refine Lo.tup _ ?_ | refine Lo.fn _ _ ?_ | refine Lo.sl _ ?_ | intro _))) ?_ | refine ops_op rfl rfl (runs_none rfl) (does_litAF rfl ts27 ti56 rfl rfl (by decide) (by decide) rfl rfl rfl (by repeat' (first | exact Lo.s _ | exact Lo.emp | exact Lo.any | exact lo_nil | exact lo_nilE | refine lo_cons ?_ ?_ | refine lo_consE ?_ ?_ | refine lo_map ?_ | refine lo_mapE ?_ | refine Lo.cells ?_ | refine Lo.agg _ ?_ | refine Lo.ref _ ?_ | refine Lo.tup _ ?_ | refine Lo.fn _ _ ?_ | refine Lo.sl _ ?_ | intro _))) ?_
    first | refine ops_op rfl rfl (runs_none rfl) (does_append rfl ts27 ti56 rfl (by decide) rfl rfl (by first | rfl | (simp; done) | (simp; omega)) rfl (by first | exact .own _ _ _ rfl rfl _ (by first | rfl | simp) | exact .emp | exact .nil | exact .sl _ (by first | simp; done | intro e he; simp at he; obtain ⟨_, _, rfl⟩ := he; rfl)) (by first | omega | (simp; omega) | (unfold maxLen; simp; omega)) (by first | omega | (simp; omega) | (unfold maxLen; simp; omega))) ?_ | refine ops_op rfl rfl (runs_none rfl) (does_append0 rfl ts27 ti56 rfl (by decide) rfl (.inl rfl) rfl (by first | exact .own _ _ _ rfl rfl _ (by first | rfl | simp) | exact .emp | exact .nil | exact .sl _ (by first | simp; done | intro e he; simp at he; obtain ⟨_, _, rfl⟩ := he; rfl)) (by first | omega | (simp; omega) | (unfold maxLen; simp; omega)) (by first | omega | (simp; omega) | (unfold maxLen; simp; omega))) ?_ | refine ops_op rfl rfl (runs_none rfl) (does_append0 rfl ts27 ti56 rfl (by decide) rfl (.inr rfl) rfl (by first | exact .own _ _ _ rfl rfl _ (by first | rfl | simp) | exact .emp | exact .nil | exact .sl _ (by first | simp; done | intro e he; simp at he; obtain ⟨_, _, rfl⟩ := he; rfl)) (by first | omega | (simp; omega) | (unfold maxLen; simp; omega)) (by first | omega | (simp; omega) | (unfold maxLen; simp; omega))) ?_
    first | refine ops_op rfl rfl (runs_none rfl) (does_fieldAddr_ptr rfl tf29_1 (by decide) rfl) ?_ | refine ops_op rfl rfl (runs_none rfl) (does_fieldAddr_ref rfl tf29_1 (by decide) rfl) ?_
    refine ops_eff rfl (runs_none rfl) (does_store rfl ti27 rfl rfl rfl rfl rfl rfl (by decide) (by decide)) ?_
    refine ops_nil ?_
    repeat (first | refine aw_seq ?_ | refine ath_n ?_ | refine aw_skip ?_ | refine abl_n ?_ | refine aw_block ?_)
    all_goals refine aw_region ?_
    all_goals (first | refine ops_op rfl rfl (runs_none rfl) (does_fieldAddr_ptr rfl tf29_1 (by decide) rfl) ?_ | refine ops_op rfl rfl (runs_none rfl) (does_fieldAddr_ref rfl tf29_1 (by decide) rfl) ?_)
    all_goals (first | refine ops_op rfl rfl (runs_none rfl) (does_load_ref rfl ta27 rfl) ?_ | refine ops_op rfl rfl (runs_none rfl) (does_load_ptr rfl ta27 rfl rfl rfl rfl rfl) ?_)
    all_goals (first | refine ops_op rfl rfl (runs_none rfl) (does_len_map rfl ts27 rfl) ?_ | refine ops_op rfl rfl (runs_none rfl) (does_len_sl rfl ts27 rfl) ?_ | refine ops_op rfl rfl (runs_none rfl) (does_len_own rfl ts27 rfl) ?_ | refine ops_op rfl rfl (runs_none rfl) (does_len_s rfl ts27 rfl) ?_ | refine ops_op rfl rfl (runs_none rfl) (does_len_emp rfl ts27 rfl) ?_)
    all_goals (first | refine ops_opP rfl rfl (runs_none rfl) (does_gtr rfl rfl rfl) (fun h122 => ?_) (fun h122 => ?_) | refine ops_opB rfl rfl (runs_none rfl) (does_gtr rfl rfl rfl) (fun h122 => ?_) (fun h122 => ?_))
    all_goals refine ops_nil ?_
    all_goals (repeat (first | refine aw_seq ?_ | refine ath_n ?_ | refine aw_skip ?_ | refine abl_n ?_ | refine aw_block ?_))
    all_goals (first | refine aw_true rfl ?_ | refine aw_false rfl ?_)
    all_goals (repeat (first | refine aw_seq ?_ | refine ath_n ?_ | refine aw_skip ?_ | refine abl_n ?_ | refine aw_block ?_))
    all_goals dsimp only at h122
    all_goals try simp only [List.length_cons, List.length_nil] at h122
    · have hstep : stepS most i s r t = none := by unfold stepS; rw [if_neg (by rintro (h | h) <;> omega), if_pos (by omega)]
      refine aw_region ?_
      refine ops_op rfl rfl (runs_none rfl) (does_build rfl ti29 tp29 rfl rfl) ?_
      refine ops_eff rfl (runs_none rfl) (does_store rfl ti29 rfl rfl rfl rfl rfl rfl (by decide) (by decide)) ?_
      refine ops_op rfl rfl (runs_none rfl) (mv_s (.inr rfl) rfl) ?_
      refine ops_nil ?_
      repeat (first | refine aw_seq ?_ | refine ath_n ?_ | refine aw_skip ?_ | refine abl_n ?_ | refine aw_block ?_)
      (refine aw_ret ?_; repeat (first | refine ath_r ?_ | refine abl_r ?_))
      exact post_zs (N := 0) (.inr rfl) ta29 ti29 rfl rfl rfl rfl rfl rfl (by rw [HI, ← hE, hstep]; rfl)
    · have hstep : stepS most i s r t = some ⟨s.st, s.mv ++ [(⟨i, findI s.st r.1, t⟩ : Mvx)], s.full⟩ := by
        unfold stepS
        rw [if_neg (by rintro (h | h) <;> omega), if_neg (by omega)]
        simp only [if_neg hf]
      obtain ⟨g1, g2⟩ := key _ hstep
      refine aw_region ?_
      refine ops_op rfl rfl (runs_none rfl) (does_add rfl rfl rfl (IntWalk.i64_in _ (by omega))) ?_
      refine ops_op rfl rfl (runs_none rfl) (mv_s (.inl rfl) rfl) ?_
      refine ops_nil ?_
      repeat (first | refine aw_seq ?_ | refine ath_n ?_ | refine aw_skip ?_ | refine abl_n ?_ | refine aw_block ?_)
      exact ⟨(q + 1, ⟨s.st, s.mv ++ [(⟨i, findI s.st r.1, t⟩ : Mvx)], s.full⟩), ⟨by show q + 1 ≤ on.length; omega, g1, by (try rw [List.getElem?_append_left hlt]); exact hxi, g2⟩, by show on.length - (q + 1) < on.length - q; omega,
        wk_st [0, 1, 2, 5, 4] (by decide) ⟨⟨_, rfl, .rowE zSA_lo rfl⟩, ⟨_, rfl, obRn_agg (.cons (.own _ _ _ _ _ rfl (by simp)) (.cons (.own _ _ _ _ _ rfl (by simp)) (.cons (.lo _ (.s _)) .nil)))⟩, ⟨_, rfl, .rowE (rows_lo _) rfl⟩, ⟨_, rfl, .rowE (mvs_lo _) hmrow.symm⟩, ⟨_, rfl, ob_mp rfl⟩, trivial⟩ ⟨.lo _ (by repeat' (first | exact Lo.s _ | exact Lo.emp | exact Lo.any | exact lo_nil | exact lo_nilE | refine lo_cons ?_ ?_ | refine lo_consE ?_ ?_ | refine lo_map ?_ | refine lo_mapE ?_ | refine Lo.cells ?_ | refine Lo.agg _ ?_ | refine Lo.ref _ ?_ | refine Lo.tup _ ?_ | refine Lo.fn _ _ ?_ | refine Lo.sl _ ?_ | intro _)), .lo _ hln, .ptr 0 0 3 0 0 rfl, .ptr 1 1 3 0 0 rfl, .mp 4 4 rfl, .lo _ (by repeat' (first | exact Lo.s _ | exact Lo.emp | exact Lo.any | exact lo_nil | exact lo_nilE | refine lo_cons ?_ ?_ | refine lo_consE ?_ ?_ | refine lo_map ?_ | refine lo_mapE ?_ | refine Lo.cells ?_ | refine Lo.agg _ ?_ | refine Lo.ref _ ?_ | refine Lo.tup _ ?_ | refine Lo.fn _ _ ?_ | refine Lo.sl _ ?_ | intro _)), .lo _ lo_I, .lo _ (by repeat' (first | exact Lo.s _ | exact Lo.emp | exact Lo.any | exact lo_nil | exact lo_nilE | refine lo_cons ?_ ?_ | refine lo_consE ?_ ?_ | refine lo_map ?_ | refine lo_mapE ?_ | refine Lo.cells ?_ | refine Lo.agg _ ?_ | refine Lo.ref _ ?_ | refine Lo.tup _ ?_ | refine Lo.fn _ _ ?_ | refine Lo.sl _ ?_ | intro _)), .lo _ (by repeat' (first | exact Lo.s _ | exact Lo.emp | exact Lo.any | exact lo_nil | exact lo_nilE | refine lo_cons ?_ ?_ | refine lo_consE ?_ ?_ | refine lo_map ?_ | refine lo_mapE ?_ | refine Lo.cells ?_ | refine Lo.agg _ ?_ | refine Lo.ref _ ?_ | refine Lo.tup _ ?_ | refine Lo.fn _ _ ?_ | refine Lo.sl _ ?_ | intro _)), trivial⟩⟩
end Go.Proofs.Ythdpacbjbdkemaa.Aw
end
section
namespace Go.Proofs.Ythdpacbjbdkemaa.Aw
set_option linter.unusedSimpArgs false
set_option linter.unusedVariables false
open Go.RowKit

/-! ## what is the same in two stores -/
def valEq : Value → Value → Bool
  | .bool a, .bool b => a == b
  | .int k m, .int k' n => decide (k = k') && decide (m = n)
  | .string a, .string b => decide (a = b)
  | .slice none 0 0, .slice none 0 0 => true
  | .pointer none, .pointer none => true
  | .nilFunc, .nilFunc => true
  | _, _ => false
theorem valEq_of {u v : Value} (h : valEq u v = true) : u = v := by
  unfold valEq at h
  split at h
  · simp at h; rw [h]
  · simp at h; rw [h.1, h.2]
  · simp at h; rw [h]
  · rfl
  · rfl
  · rfl
  · cases h
mutual
def avEq : AV → AV → Bool
  | .any, .any => true
  | .s u, .s v => valEq u v
  | .agg a, .agg b => avsEq a b
  | .sl a, .sl b => avsEq a b
  | .emp, .emp => true
  | .ref a, .ref b => avsEq a b
  | .own a b c, .own a' b' c' => Nat.beq a a' && Nat.beq b b' && Nat.beq c c'
  | .ptr a b c d, .ptr a' b' c' d' => Nat.beq a a' && Nat.beq b b' && Nat.beq c c' && Nat.beq d d'
  | .fn f a, .fn g b => Nat.beq f g && avsEq a b
  | .tup a, .tup b => avsEq a b
  | .mp a, .mp b => Nat.beq a b
  | .sub a b c d, .sub a' b' c' d' => Nat.beq a a' && Nat.beq b b' && Nat.beq c c' && Nat.beq d d'
  | _, _ => false
def avsEq : List AV → List AV → Bool
  | [], [] => true
  | x :: a, y :: b => avEq x y && avsEq a b
  | _, _ => false
end
mutual
theorem avEq_of : ∀ (x y : AV), avEq x y = true → x = y
  | .any, y, h => by cases y <;> simp [avEq] at h <;> rfl
  | .s u, y, h => by cases y <;> simp [avEq] at h; rw [valEq_of h]
  | .agg a, y, h => by cases y <;> simp [avEq] at h; rw [avsEq_of _ _ h]
  | .sl a, y, h => by cases y <;> simp [avEq] at h; rw [avsEq_of _ _ h]
  | .emp, y, h => by cases y <;> simp [avEq] at h <;> rfl
  | .ref a, y, h => by cases y <;> simp [avEq] at h; rw [avsEq_of _ _ h]
  | .own a b c, y, h => by cases y <;> simp [avEq] at h; obtain ⟨⟨rfl, rfl⟩, rfl⟩ := h; rfl
  | .ptr a b c d, y, h => by cases y <;> simp [avEq] at h; obtain ⟨⟨⟨rfl, rfl⟩, rfl⟩, rfl⟩ := h; rfl
  | .fn f a, y, h => by cases y <;> simp [avEq] at h; obtain ⟨rfl, h⟩ := h; rw [avsEq_of _ _ h]
  | .tup a, y, h => by cases y <;> simp [avEq] at h; rw [avsEq_of _ _ h]
  | .mp a, y, h => by cases y <;> simp [avEq] at h; rw [h]
  | .sub a b c d, y, h => by cases y <;> simp [avEq] at h; obtain ⟨⟨⟨rfl, rfl⟩, rfl⟩, rfl⟩ := h; rfl
theorem avsEq_of : ∀ (x y : List AV), avsEq x y = true → x = y
  | [], y, h => by cases y <;> simp [avsEq] at h <;> rfl
  | x :: a, y, h => by
    cases y with
    | nil => simp [avsEq] at h
    | cons y b => simp [avsEq] at h; rw [avEq_of _ _ h.1, avsEq_of _ _ h.2]
end
def obEq : Ob → Ob → Bool
  | .dead, .dead => true
  | .row n a, .row m b => Nat.beq n m && avsEq a b
  | .fz n a, .fz m b => Nat.beq n m && avsEq a b
  | _, _ => false
theorem obEq_of {x y : Ob} (h : obEq x y = true) : x = y := by
  cases x <;> cases y <;> simp [obEq] at h
  · rfl
  · rw [h.1, avsEq_of _ _ h.2]
  · rw [h.1, avsEq_of _ _ h.2]
def oEq : Option Ob → Option Ob → Bool
  | none, none => true
  | some x, some y => obEq x y
  | _, _ => false
theorem oEq_of {x y : Option Ob} (h : oEq x y = true) : x = y := by
  cases x <;> cases y <;> simp [oEq] at h
  · rfl
  · rw [obEq_of h]
/-- what has changed: nothing but this -/
def Chg (s s' : Sto) (W : List Nat) : Prop := ∀ id, id ∉ W → s'.abs[id]? = s.abs[id]?
theorem Chg.refl (s : Sto) : Chg s s [] := fun _ _ => rfl
theorem Chg.trans {a b c : Sto} {V W : List Nat} (h : Chg a b V) (k : Chg b c W) : Chg a c (V ++ W) := fun id hid => by
  simp only [List.mem_append, not_or] at hid
  exact (k id hid.2).trans (h id hid.1)
def eqOn (W : List Nat) (s s' : Sto) : Bool := Nat.beq s.len s'.len && W.all fun i => oEq (s.get i) (s'.get i)
theorem eqOn_of {s a b : Sto} {V W : List Nat} (ha : Chg s a V) (hb : Chg s b W) (h : eqOn (V ++ W) a b = true) : a.abs = b.abs := by
  unfold eqOn at h
  simp only [Bool.and_eq_true] at h
  apply List.ext_getElem?
  intro i
  by_cases hi : i ∈ V ++ W
  · have := oEq_of (List.all_eq_true.1 h.2 i hi)
    rwa [Sto.get_abs, Sto.get_abs] at this
  · simp only [List.mem_append, not_or] at hi
    rw [ha i hi.1, hb i hi.2]

/-! ## slices of slices -/
section
variable {P : Program} {o : Oper} {F : Frm} {σ : List Ob}
theorem does_slice_own {t e : TypeId} {x y : Operand} {z : Option Value} {n bt : Nat} {id sz m : Nat} {k : IntKind} {i : Int} {h : Nat} (ho : o.op = .slice t x none (some y) none) (ht : tySlice P t = some e) (hi : tyInfo P e = some (z, n, bt)) (hx : F.eval x = .own id sz m) (hy : F.eval y = .s (.int k i)) (hk : i = (h : Int)) (hl : h ≤ m) : Does P o F σ (.own id sz h) σ :=
  does_val fun G ρ hr hop => by
    have g1 := hop x (by simp [ho, Op.operands])
    have g2 := hop y (by simp [ho, Op.operands])
    rw [hx] at g1
    rw [hy] at g2
    have e2 := rep_s g2
    obtain ⟨q1, q2⟩ := elem_of ht
    subst hk
    generalize hv : ρ x = u at g1
    have key : ∀ A len cap, h ≤ cap → (Instr.sliceAt t (.slice A len cap) none (some (.int k (h : Int))) none).run P G.w = .ok (sliced A 0 h cap n) G.w := fun A len cap hc => by
      have h2 := run_slice_h (P := P) G.w t A len cap q2 k (h : Int) (by omega) (by omega)
      simp only [run_sliceAt_slice (P := P) G.w t _ _ _ _ q2, h2, q1, run_sizeOf hi, Result.andThen_ok, Int.toNat_natCast]
    cases g1 with
    | own0 _ _ A hA hm =>
      obtain rfl : h = 0 := by omega
      refine ⟨sliced A 0 0 0 n, by simp only [execOp, ho, Option.map_some, Option.map_none, hv, e2, Sem.run_bind, key A 0 0 (Nat.zero_le _), Result.andThen_ok, Sem.run_pure], ?_⟩
      simp only [sliced, if_true, Nat.sub_self]
      exact .own0 id sz A hA hm
    | own _ _ _ b cap hm hn hc hb =>
      refine ⟨sliced (some ⟨b, 0, none⟩) 0 h cap n, by simp only [execOp, ho, Option.map_some, Option.map_none, hv, e2, Sem.run_bind, key _ m cap (by omega), Result.andThen_ok, Sem.run_pure], ?_⟩
      have : sliced (some ⟨b, 0, none⟩) 0 h cap n = .slice (some ⟨b, 0, none⟩) h cap := by simp [sliced, Addr.add]
      rw [this]
      exact .own id sz h b cap hm (by omega) hc hb
theorem does_slice_lh {t e : TypeId} {x y y' : Operand} {z : Option Value} {n bt : Nat} {L : List AV} {k k' : IntKind} {i i' : Int} {l h : Nat} (ho : o.op = .slice t x (some y) (some y') none) (ht : tySlice P t = some e) (hi : tyInfo P e = some (z, n, bt)) (hx : F.eval x = .sl L) (hy : F.eval y = .s (.int k i)) (hy' : F.eval y' = .s (.int k' i')) (hk : i = (l : Int)) (hk' : i' = (h : Int)) (hlh : l ≤ h) (hl : h ≤ L.length) (hs : ∀ e ∈ L, e.cells.length = n) : Does P o F σ (.sl ((L.take h).drop l)) σ :=
  does_val fun G ρ hr hop => by
    have g1 := hop x (by simp [ho, Op.operands])
    have g2 := hop y (by simp [ho, Op.operands])
    have g3 := hop y' (by simp [ho, Op.operands])
    rw [hx] at g1
    rw [hy] at g2
    rw [hy'] at g3
    have e2 := rep_s g2
    have e3 := rep_s g3
    obtain ⟨q1, q2⟩ := elem_of ht
    obtain ⟨A, cap, hv, hcap⟩ : ∃ A cap, ρ x = .slice A L.length cap ∧ L.length ≤ cap := by
      generalize ρ x = u at g1
      cases g1 with
      | slnil A c => exact ⟨_, _, rfl, Nat.zero_le _⟩
      | sl b o c sz _ val hc hm h1 h2 h => exact ⟨_, _, rfl, hc⟩
    rw [hv] at g1
    have h1 := rep_sliced (s := n) g1 hlh hl hs
    refine ⟨_, ?_, h1⟩
    subst hk hk'
    have h2 := run_slice_lh (P := P) G.w t A L.length cap q2 k k' (l : Int) (h : Int) (by omega) (by omega) (by omega)
    simp only [execOp, ho, Option.map_some, Option.map_none, hv, e2, e3, Sem.run_bind, run_sliceAt_slice (P := P) G.w t _ _ _ _ q2, h2, q1, run_sizeOf hi, Result.andThen_ok, Sem.run_pure, Int.toNat_natCast]
/-- a row taken as finished ahead of an operation -/
theorem does_froz {d id sz n : Nat} {cs : List AV} {r : AV} {σ' : List Ob} (hx : F.get d = .own id sz n) (hs : σ[id]? = some (.row sz cs)) (hn : n = cs.length) (h : Does P o ((d, .sl cs) :: F) (σ.set id (.fz sz cs)) r σ') : Does P o F σ r σ' := by
  intro G a next Q hr hop hnx
  obtain ⟨he, hr2⟩ := froz_ok hr hs
  refine h (G.froz id) a next Q hr2 (fun y hy => ?_) (fun v G' e r' hv => hnx v G' (he.trans e) r' hv)
  have h1 := (hop y hy).ext he
  cases y with
  | tmp t =>
    by_cases ht : d = t
    · subst ht
      have h2 : Frm.eval ((d, .sl cs) :: F) (.tmp d) = .sl cs := get_here
      rw [h2]
      have h3 : F.eval (.tmp d) = .own id sz n := hx
      rw [h3] at h1
      exact rep_fz hr2 (by rw [List.getElem?_set_self (List.getElem?_eq_some_iff.1 hs).1]) hn h1
    · have h2 : Frm.eval ((d, .sl cs) :: F) (.tmp t) = F.eval (.tmp t) := by
        show Frm.get _ t = F.get t
        have : Nat.beq d t = false := by
          cases hb : Nat.beq d t with
          | false => rfl
          | true => exact absurd (Nat.eq_of_beq_eq_true hb) ht
        simp only [Frm.get, this, cond_false]
      rw [h2]; exact h1
  | _ => exact h1
end

/-! ## calls -/
structure CallE (P : Program) (f : FuncId) (args : List AV) (σ : List Ob) (r : AV) (σ' : List Ob) : Prop where
  ent : Enters P f
  call : ∀ (G : Cx) (vargs : Array Value), Rel G σ → vargs.size = args.length → (∀ (j : Nat) v x, vargs[j]? = some v → args[j]? = some x → Rep G v x) →
    Calls P f vargs G.w fun e w' => ∃ v G', e = .returned v ∧ G'.w = w' ∧ G.Ext G' ∧ Rel G' σ' ∧ Rep G' v r
section
variable {P : Program} {o : Oper} {F : Frm} {σ σ' : List Ob} {f : FuncId} {args : List AV} {r : AV}
theorem does_callE {fo : Operand} {ar : Array Operand} {ts : Array TypeId} {caps : List AV} (ho : o.op = .call { callee := .value fo, args := ar, argTypes := ts }) (hf : F.eval fo = .fn f caps) (hp : CallE P f args σ r σ') (ha : ar.toList.map F.eval ++ caps = args) : Does P o F σ r σ' := by
  intro G a next Q hr hop hn
  obtain ⟨cap, h1, h2, h3⟩ := call_args ho hop hf
  rw [ha] at h2 h3
  unfold Oper.wp
  rw [call_enter ho a.eval h1 hp.ent G.w, Oper.upon_enter]
  refine (hp.call G _ hr h2 h3).mono ?_
  rintro e w' ⟨v, G', rfl, rfl, he, hr', hv⟩
  exact hn v G' he hr' hv
theorem callE_fn {fn : Func} {c : Code} (hf : P.funcs[f]? = some fn) (hname : (fn.name == "runtime.NumGoroutine") = false) (hb : fn.body = some c) (hn : args.length ≤ fn.ntmps)
    (h : EWp P fn.ntmps c (argF 0 args) σ (fun e F' σ1 => (e = .normal ∨ e = .ret) ∧ σ1 = σ' ∧ ∃ xs, ResL P F' σ1 fn.results.toList xs ∧ oneOf xs = r)) : CallE P f args σ r σ' := by
  refine ⟨enters_of hf hname hb, fun G vargs hrel hsz hrep => ?_⟩
  refine calls_of_wp hf hb ?_
  have hfo : FOk G { tmps := vargs ++ Array.replicate (fn.ntmps - vargs.size) undef, defers := [] } (argF 0 args) := by
    intro d
    rw [argF_get]
    simp only [Nat.zero_le, if_true, Nat.sub_zero]
    by_cases hd : d < args.length
    · have h1 : (vargs ++ Array.replicate (fn.ntmps - vargs.size) undef).getD d undef = vargs[d]'(by omega) := by
        rw [Array.getD_eq_getD_getElem?, Array.getElem?_append_left (by omega)]
        simp [show d < vargs.size by omega]
      rw [h1]
      have h2 : args.getD d .any = args[d] := by simp [List.getD, hd]
      rw [h2]
      exact hrep d _ _ (by simp [show d < vargs.size by omega]) (by simp [hd])
    · have h2 : args.getD d .any = .any := by simp [List.getD, hd]
      rw [h2]; exact .any _
  have hs8 : S8 fn.ntmps G { tmps := vargs ++ Array.replicate (fn.ntmps - vargs.size) undef, defers := [] } (argF 0 args) σ := ⟨hrel, hfo, rfl, by simp; omega⟩
  refine Code.wp_mono (fun e a w q => ?_) (h G _ hs8)
  obtain ⟨G', F', σ1, rfl, h2, h3, he, rfl, xs, h4, rfl⟩ := q
  obtain ⟨v, h6, h7⟩ := results_run (fn := fn) h3.rel h3.fr h4
  have post : ∃ v' G'', Ending.returned v = .returned v' ∧ G''.w = G'.w ∧ G.Ext G'' ∧ Rel G'' σ1 ∧ Rep G'' v' (oneOf xs) := ⟨v, G', rfl, rfl, h2, h3.rel, h7⟩
  rcases he with rfl | rfl
  · exact ⟨h3.df, v, h6, post⟩
  · exact ⟨h3.df, v, h6, post⟩

/-! ## dropping names behind a call -/
mutual
def loB (k : Nat) : AV → Bool
  | .any | .s _ | .emp => true
  | .agg l | .sl l | .ref l | .fn _ l | .tup l => losB k l
  | .own id _ _ | .ptr id _ _ _ | .mp id | .sub id _ _ _ => Nat.blt id k
def losB (k : Nat) : List AV → Bool
  | [] => true
  | x :: l => loB k x && losB k l
end
mutual
theorem loB_of {k : Nat} : ∀ (x : AV), loB k x = true → Lo k x
  | .any, _ => .any
  | .s v, _ => .s v
  | .emp, _ => .emp
  | .agg l, h => .agg l (losB_of l (by simpa [loB] using h))
  | .sl l, h => .sl l (losB_of l (by simpa [loB] using h))
  | .ref l, h => .ref l (losB_of l (by simpa [loB] using h))
  | .fn f l, h => .fn f l (losB_of l (by simpa [loB] using h))
  | .tup l, h => .tup l (losB_of l (by simpa [loB] using h))
  | .own id a b, h => .own id a b (by simpa [loB, Nat.blt_eq] using h)
  | .ptr id a b c, h => .ptr id a b c (by simpa [loB, Nat.blt_eq] using h)
  | .mp id, h => .mp id (by simpa [loB, Nat.blt_eq] using h)
  | .sub id a b c, h => .sub id a b c (by simpa [loB, Nat.blt_eq] using h)
theorem losB_of {k : Nat} : ∀ (l : List AV), losB k l = true → ∀ c ∈ l, Lo k c
  | [], _ => by simp
  | x :: l, h => by
    simp only [losB, Bool.and_eq_true] at h
    have h1 := loB_of x h.1
    have h2 := losB_of l h.2
    intro c hc
    rcases List.mem_cons.1 hc with e | hc
    · rw [e]; exact h1
    · exact h2 c hc
end
def obLo (k : Nat) : Ob → Bool
  | .row _ cs | .fz _ cs => losB k cs
  | _ => true
def ObLo (k : Nat) : Ob → Prop
  | .row _ cs | .fz _ cs => ∀ c ∈ cs, Lo k c
  | _ => True
theorem obLo_of {k : Nat} {ob : Ob} (h : obLo k ob = true) : ObLo k ob := by
  cases ob with
  | row n cs => exact losB_of cs h
  | fz n cs => exact losB_of cs h
  | _ => trivial
theorem lo_of_cells {k : Nat} {x : AV} (h : ∀ c ∈ x.cells, Lo k c) : Lo k x := by
  by_cases hx : ∃ cs, x = .agg cs
  · obtain ⟨cs, rfl⟩ := hx; exact .agg cs h
  · have : x.cells = [x] := by cases x <;> first | rfl | (exact absurd ⟨_, rfl⟩ hx)
    exact h x (by rw [this]; simp)
/-- what stands for a value names nothing that is not there -/
theorem rep_lo {G : Cx} {k : Nat} (hk : ∀ id, k ≤ id → G.mu id = none) {v : Value} {x : AV} (h : Rep G v x) : Lo k x := by
  have key : ∀ id b, G.mu id = some b → id < k := fun id b hb => by
    rcases Nat.lt_or_ge id k with h | h
    · exact h
    · rw [hk id h] at hb; cases hb
  induction h with
  | any v => exact .any
  | s v => exact .s v
  | agg vs cs hl h1 _ ih =>
    refine .agg cs fun c hc => ?_
    obtain ⟨j, hj, rfl⟩ := List.mem_iff_getElem.1 hc
    exact ih j _ _ (Array.getElem?_eq_getElem (by omega)) (List.getElem?_eq_getElem hj)
  | emp A hA => exact .emp
  | slnil A cap => exact .sl [] (by simp)
  | sl b o cap sz l val hc hm h1 h2 _ ih =>
    refine .sl l fun e he => lo_of_cells fun c hcc => ?_
    obtain ⟨i, hi, rfl⟩ := List.mem_iff_getElem.1 he
    obtain ⟨j, hj, rfl⟩ := List.mem_iff_getElem.1 hcc
    exact ih i _ j _ (List.getElem?_eq_getElem hi) (List.getElem?_eq_getElem hj)
  | ref b o cs val h1 h2 _ ih =>
    refine .ref cs fun c hc => ?_
    obtain ⟨j, hj, rfl⟩ := List.mem_iff_getElem.1 hc
    exact ih j _ (List.getElem?_eq_getElem hj)
  | own0 id sz A hA hm => exact .own _ _ _ (key _ _ hm)
  | own id sz n b cap hm hn hc hb => exact .own _ _ _ (key _ _ hm)
  | ptr id sz k j b hm => exact .ptr _ _ _ _ (key _ _ hm)
  | fn f vs cs hl _ ih =>
    refine .fn f cs fun c hc => ?_
    obtain ⟨j, hj, rfl⟩ := List.mem_iff_getElem.1 hc
    exact ih j _ _ (Array.getElem?_eq_getElem (by omega)) (List.getElem?_eq_getElem hj)
  | tup vs cs hl _ ih =>
    refine .tup cs fun c hc => ?_
    obtain ⟨j, hj, rfl⟩ := List.mem_iff_getElem.1 hc
    exact ih j _ _ (Array.getElem?_eq_getElem (by omega)) (List.getElem?_eq_getElem hj)
  | mp id b hm => exact .mp _ (key _ _ hm)
  | sub id sz o n b cap A hm hA _ => exact .sub _ _ _ _ (key _ _ hm)
theorem rel_lo {G : Cx} (hr : Rel G σ) {id : Nat} {ob : Ob} (hs : σ[id]? = some ob) : ObLo σ.length ob := by
  have h1 := hr.obs id ob hs
  have row : ∀ b sz cs fr, RowAt G b sz cs fr → ∀ c ∈ cs, Lo σ.length c := by
    rintro b sz cs fr ⟨cur, t, q, h2, h3, h4, h5⟩ e he
    obtain ⟨i, hi, rfl⟩ := List.mem_iff_getElem.1 he
    obtain ⟨_, _, h6⟩ := h5 i _ (List.getElem?_eq_getElem hi)
    refine lo_of_cells fun c hc => ?_
    obtain ⟨j, hj, rfl⟩ := List.mem_iff_getElem.1 hc
    obtain ⟨v, _, h7⟩ := h6 j _ (List.getElem?_eq_getElem hj)
    exact rep_lo hr.fresh h7
  cases ob with
  | row sz cs =>
    simp only [ObOk] at h1
    cases hx : G.mu id with
    | none => rw [hx] at h1; exact h1.elim
    | some x =>
      rw [hx] at h1
      cases x with
      | none => simp only at h1; subst h1; intro c hc; simp at hc
      | some b => exact row b sz cs _ h1.1
  | fz sz cs =>
    simp only [ObOk] at h1
    cases hx : G.mu id with
    | none => rw [hx] at h1; exact h1.elim
    | some x =>
      rw [hx] at h1
      cases x with
      | none => simp only at h1; subst h1; intro c hc; simp at hc
      | some b => exact row b sz cs _ h1.1
  | _ => trivial
def Cx.cut (G : Cx) (k : Nat) : Cx := { G with mu := fun i => if i < k then G.mu i else none }
theorem cut_rel {G : Cx} {k : Nat} (hr : Rel G σ) (hk : k ≤ σ.length) (hl : ∀ ob ∈ σ.take k, ObLo k ob) : Rel (G.cut k) (σ.take k) := by
  have hlow : ∀ v x, Rep G v x → Lo k x → Rep (G.cut k) v x := fun v x h hx => h.low hx (fun _ _ h => h) (fun _ _ _ => rfl) (fun id y hid hy => by simp [Cx.cut, hid, hy]) (fun _ => RowsKept.refl _)
  have hmu : ∀ id b, (G.cut k).mu id = some b → G.mu id = some b := fun id b h => by
    simp only [Cx.cut] at h
    split at h
    · exact h
    · cases h
  refine ⟨hr.below, hr.le, hr.st, fun id ob hob => ?_, fun i j b hi hj hmi hmj => ?_, fun id hid => ?_⟩
  · have hmem := hl ob (List.mem_of_getElem? hob)
    rw [List.getElem?_take] at hob
    split at hob
    · rename_i hid
      have h1 := hr.obs id ob hob
      have e : (G.cut k).mu id = G.mu id := by simp [Cx.cut, hid]
      have row : ∀ b sz cs fr, (∀ c ∈ cs, Lo k c) → RowAt G b sz cs fr → RowAt (G.cut k) b sz cs fr := by
        rintro b sz cs fr hlo ⟨cur, t, q, h2, h3, h4, h5⟩
        refine ⟨cur, t, q, h2, h3, h4, fun i x hx => ⟨(h5 i x hx).1, (h5 i x hx).2.1, fun j c hc => ?_⟩⟩
        obtain ⟨v, h6, h7⟩ := (h5 i x hx).2.2 j c hc
        exact ⟨v, h6, hlow v c h7 ((hlo x (List.mem_of_getElem? hx)).cells c (List.mem_of_getElem? hc))⟩
      cases ob with
      | dead => exact fun b hb => h1 b (by rw [← e]; exact hb)
      | row sz cs =>
        have hlo : ∀ c ∈ cs, Lo k c := hmem
        simp only [ObOk] at h1 ⊢
        rw [e]
        cases hx : G.mu id with
        | none => rw [hx] at h1; exact h1
        | some x =>
          rw [hx] at h1
          cases x with
          | none => exact h1
          | some b => exact ⟨row b sz cs _ hlo h1.1, h1.2⟩
      | fz sz cs =>
        have hlo : ∀ c ∈ cs, Lo k c := hmem
        simp only [ObOk] at h1 ⊢
        rw [e]
        cases hx : G.mu id with
        | none => rw [hx] at h1; exact h1
        | some x =>
          rw [hx] at h1
          cases x with
          | none => exact h1
          | some b => exact ⟨row b sz cs _ hlo h1.1, h1.2⟩
      | mp X =>
        obtain ⟨b, g1, g2, g3, g4, g5⟩ := h1
        exact ⟨b, e.trans g1, g2, g3, g4, fun j hj => g5 j (hmu j _ hj)⟩
    · cases hob
  · have al : ∀ i, alive (σ.take k) i → alive σ i := by
      rintro i ⟨sz, cs, h⟩
      rw [List.getElem?_take] at h
      split at h
      · exact ⟨sz, cs, h⟩
      · cases h
    exact hr.inj i j b (al i hi) (al j hj) (hmu i _ hmi) (hmu j _ hmj)
  · rw [List.length_take, Nat.min_eq_left hk] at hid
    simp only [Cx.cut]
    rw [if_neg (by omega)]
theorem CallE.cut (h : CallE P f args σ r σ') (hk : σ.length ≤ σ'.length) {W : List Nat} (hW : ∀ id, id ∉ W → σ'[id]? = σ[id]?) (hl : ∀ id ∈ W, id < σ.length → ∀ ob, σ'[id]? = some ob → ObLo σ.length ob) (hr : Lo σ.length r) : CallE P f args σ r (σ'.take σ.length) :=
  ⟨h.ent, fun G vargs hrel hsz hrep => (h.call G vargs hrel hsz hrep).mono (by
    rintro e w' ⟨v, G', rfl, rfl, he, hr', hv⟩
    have hl' : ∀ ob ∈ σ'.take σ.length, ObLo σ.length ob := fun ob hob => by
      obtain ⟨id, hid, rfl⟩ := List.mem_iff_getElem.1 hob
      have hlt : id < σ.length := by rw [List.length_take] at hid; omega
      have hget : σ'[id]? = some (σ'.take σ.length)[id] := by
        have := List.getElem?_eq_getElem hid
        rw [List.getElem?_take, if_pos hlt] at this
        exact this
      by_cases hm : id ∈ W
      · exact hl id hm hlt _ hget
      · rw [hW id hm] at hget
        exact rel_lo hrel hget
    refine ⟨v, G'.cut σ.length, rfl, rfl, ⟨he.base, he.w0, he.st, he.cell, fun id x hx => ?_, he.size, he.rows, he.stN⟩, cut_rel hr' hk hl', ?_⟩
    · have hid : id < σ.length := by
        rcases Nat.lt_or_ge id σ.length with h1 | h1
        · exact h1
        · rw [hrel.fresh id h1] at hx; cases hx
      simp only [Cx.cut, if_pos hid]
      exact he.mu id x hx
    · exact hv.low hr (fun _ _ h => h) (fun _ _ _ => rfl) (fun id y hid hy => by simp [Cx.cut, hid, hy]) (fun _ => RowsKept.refl _))⟩
/-- all but the names below k, and one more, which gets the name k -/
def Cx.keep (G : Cx) (k m : Nat) : Cx := { G with mu := fun i => if i < k then G.mu i else if i = k then G.mu m else none }
theorem keep_rel {G : Cx} {k m : Nat} {ob0 : Ob} (hr : Rel G σ) (hk : k ≤ m) (hm : σ[m]? = some ob0) (hl : ∀ ob ∈ σ.take k, ObLo k ob) (hl0 : ObLo k ob0) : Rel (G.keep k m) (σ.take k ++ [ob0]) := by
  have hmlt : m < σ.length := (List.getElem?_eq_some_iff.1 hm).1
  have htk : (σ.take k).length = k := by rw [List.length_take]; omega
  have hlow : ∀ v x, Rep G v x → Lo k x → Rep (G.keep k m) v x := fun v x h hx => h.low hx (fun _ _ h => h) (fun _ _ _ => rfl) (fun id y hid hy => by simp [Cx.keep, hid, hy]) (fun _ => RowsKept.refl _)
  have hmu : ∀ i x, (G.keep k m).mu i = some x → i ≤ k ∧ G.mu (if i < k then i else m) = some x := fun i x h => by
    simp only [Cx.keep] at h
    split at h
    · rename_i h1; exact ⟨by omega, by rw [if_pos h1]; exact h⟩
    · rename_i h1
      split at h
      · rename_i h2; exact ⟨by omega, by rw [if_neg h1]; exact h⟩
      · cases h
  have horig : ∀ i ob, (σ.take k ++ [ob0])[i]? = some ob → i ≤ k ∧ σ[if i < k then i else m]? = some ob ∧ (G.keep k m).mu i = G.mu (if i < k then i else m) ∧ ObLo k ob := fun i ob h => by
    rcases Nat.lt_trichotomy i k with h1 | h1 | h1
    · rw [List.getElem?_append_left (by omega), List.getElem?_take, if_pos h1] at h
      refine ⟨by omega, by rw [if_pos h1]; exact h, by simp [Cx.keep, h1], hl ob ?_⟩
      have : (σ.take k)[i]? = some ob := by rw [List.getElem?_take, if_pos h1]; exact h
      exact List.mem_of_getElem? this
    · subst h1
      rw [List.getElem?_append_right (by omega), htk, Nat.sub_self] at h
      simp at h; subst h
      exact ⟨by omega, by rw [if_neg (by omega)]; exact hm, by simp [Cx.keep], hl0⟩
    · rw [List.getElem?_eq_none (by simp; omega)] at h; cases h
  have hinj : ∀ i j, i ≤ k → j ≤ k → (if i < k then i else m) = (if j < k then j else m) → i = j := fun i j hi hj h => by
    split at h <;> split at h <;> omega
  refine ⟨hr.below, hr.le, hr.st, fun id ob hob => ?_, fun i j b hi hj hmi hmj => ?_, fun id hid => ?_⟩
  · obtain ⟨hik, hs, e, hlo⟩ := horig id ob hob
    have h1 := hr.obs _ ob hs
    generalize (if id < k then id else m) = o at hs e h1
    have row : ∀ b sz cs fr, (∀ c ∈ cs, Lo k c) → RowAt G b sz cs fr → RowAt (G.keep k m) b sz cs fr := by
      rintro b sz cs fr hlo ⟨cur, t, q, h2, h3, h4, h5⟩
      refine ⟨cur, t, q, h2, h3, h4, fun i x hx => ⟨(h5 i x hx).1, (h5 i x hx).2.1, fun j c hc => ?_⟩⟩
      obtain ⟨v, h6, h7⟩ := (h5 i x hx).2.2 j c hc
      exact ⟨v, h6, hlow v c h7 ((hlo x (List.mem_of_getElem? hx)).cells c (List.mem_of_getElem? hc))⟩
    cases ob with
    | dead => exact fun b hb => h1 b (by rw [← e]; exact hb)
    | row sz cs =>
      simp only [ObOk] at h1 ⊢
      rw [e]
      cases hx : G.mu o with
      | none => rw [hx] at h1; exact h1
      | some x =>
        rw [hx] at h1
        cases x with
        | none => exact h1
        | some b => exact ⟨row b sz cs _ hlo h1.1, h1.2⟩
    | fz sz cs =>
      simp only [ObOk] at h1 ⊢
      rw [e]
      cases hx : G.mu o with
      | none => rw [hx] at h1; exact h1
      | some x =>
        rw [hx] at h1
        cases x with
        | none => exact h1
        | some b => exact ⟨row b sz cs _ hlo h1.1, h1.2⟩
    | mp X =>
      obtain ⟨b, g1, g2, g3, g4, g5⟩ := h1
      refine ⟨b, e.trans g1, g2, g3, g4, fun j hj => ?_⟩
      obtain ⟨hj1, hj2⟩ := hmu j _ hj
      obtain ⟨hi1, hi2⟩ := hmu id _ (e.trans g1)
      exact hinj j id hj1 hi1 ((g5 _ hj2).trans (g5 _ hi2).symm)
  · have al : ∀ i, alive (σ.take k ++ [ob0]) i → i ≤ k ∧ alive σ (if i < k then i else m) := by
      rintro i ⟨sz, cs, h⟩
      obtain ⟨h1, h2, _⟩ := horig i _ h
      exact ⟨h1, sz, cs, h2⟩
    exact hinj i j (al i hi).1 (al j hj).1 (hr.inj _ _ b (al i hi).2 (al j hj).2 (hmu i _ hmi).2 (hmu j _ hmj).2)
  · rw [List.length_append, htk] at hid
    simp only [List.length_singleton] at hid
    simp only [Cx.keep]
    rw [if_neg (by omega), if_neg (by omega)]
theorem CallE.keep {m sz n : Nat} {ob0 : Ob} (h : CallE P f args σ (.own m sz n) σ') (hk : σ.length ≤ m) (hm : σ'[m]? = some ob0) {W : List Nat} (hW : ∀ id, id ∉ W → σ'[id]? = σ[id]?) (hl : ∀ id ∈ W, id < σ.length → ∀ ob, σ'[id]? = some ob → ObLo σ.length ob) (hr : ObLo σ.length ob0) : CallE P f args σ (.own σ.length sz n) (σ'.take σ.length ++ [ob0]) :=
  ⟨h.ent, fun G vargs hrel hsz hrep => (h.call G vargs hrel hsz hrep).mono (by
    rintro e w' ⟨v, G', rfl, rfl, he, hr', hv⟩
    have hl' : ∀ ob ∈ σ'.take σ.length, ObLo σ.length ob := fun ob hob => by
      obtain ⟨id, hid, rfl⟩ := List.mem_iff_getElem.1 hob
      have hlt : id < σ.length := by rw [List.length_take] at hid; omega
      have hget : σ'[id]? = some (σ'.take σ.length)[id] := by
        have := List.getElem?_eq_getElem hid
        rw [List.getElem?_take, if_pos hlt] at this
        exact this
      by_cases hm : id ∈ W
      · exact hl id hm hlt _ hget
      · rw [hW id hm] at hget
        exact rel_lo hrel hget
    refine ⟨v, G'.keep σ.length m, rfl, rfl, ⟨he.base, he.w0, he.st, he.cell, fun id x hx => ?_, he.size, he.rows, he.stN⟩, keep_rel hr' hk hm hl' hr, ?_⟩
    · have hid : id < σ.length := by
        rcases Nat.lt_or_ge id σ.length with h1 | h1
        · exact h1
        · rw [hrel.fresh id h1] at hx; cases hx
      simp only [Cx.keep, if_pos hid]
      exact he.mu id x hx
    · have e : (G'.keep σ.length m).mu σ.length = G'.mu m := by simp [Cx.keep]
      cases hv with
      | own0 _ _ A hA hm2 => exact .own0 _ _ A hA (e.trans hm2)
      | own _ _ _ b cap hm2 hn hc hb => exact .own _ _ _ b cap (e.trans hm2) hn hc hb)⟩
end
end Go.Proofs.Ythdpacbjbdkemaa.Aw
end
section
namespace Go.Proofs.Ythdpacbjbdkemaa.Aw
set_option linter.unusedSimpArgs false
set_option linter.unusedVariables false
set_option linter.unusedSectionVars false
open Go.RowKit

/-- names only these -/
inductive Nm (q : Nat → Prop) : AV → Prop
  | any : Nm q .any
  | s (v : Value) : Nm q (.s v)
  | agg (cs : List AV) (h : ∀ c ∈ cs, Nm q c) : Nm q (.agg cs)
  | emp : Nm q .emp
  | sl (l : List AV) (h : ∀ c ∈ l, Nm q c) : Nm q (.sl l)
  | ref (cs : List AV) (h : ∀ c ∈ cs, Nm q c) : Nm q (.ref cs)
  | own (id sz n : Nat) (h : q id) : Nm q (.own id sz n)
  | ptr (id sz i j : Nat) (h : q id) : Nm q (.ptr id sz i j)
  | fn (f : FuncId) (cs : List AV) (h : ∀ c ∈ cs, Nm q c) : Nm q (.fn f cs)
  | tup (l : List AV) (h : ∀ c ∈ l, Nm q c) : Nm q (.tup l)
  | mp (id : Nat) (h : q id) : Nm q (.mp id)
  | sub (id sz o n : Nat) (h : q id) : Nm q (.sub id sz o n)
theorem Nm.cells {q : Nat → Prop} {x : AV} (h : Nm q x) : ∀ c ∈ x.cells, Nm q c := by
  cases h with
  | agg cs h => exact h
  | any => intro c hc; simp [AV.cells] at hc; subst hc; exact .any
  | s v => intro c hc; simp [AV.cells] at hc; subst hc; exact .s v
  | emp => intro c hc; simp [AV.cells] at hc; subst hc; exact .emp
  | sl l h => intro c hc; simp [AV.cells] at hc; subst hc; exact .sl l h
  | ref l h => intro c hc; simp [AV.cells] at hc; subst hc; exact .ref l h
  | own a b c h => intro c hc; simp [AV.cells] at hc; subst hc; exact .own _ _ _ h
  | ptr a b c d h => intro c hc; simp [AV.cells] at hc; subst hc; exact .ptr _ _ _ _ h
  | fn f l h => intro c hc; simp [AV.cells] at hc; subst hc; exact .fn f l h
  | tup l h => intro c hc; simp [AV.cells] at hc; subst hc; exact .tup l h
  | mp a h => intro c hc; simp [AV.cells] at hc; subst hc; exact .mp _ h
  | sub a b c d h => intro c hc; simp [AV.cells] at hc; subst hc; exact .sub _ _ _ _ h
def sameBut (G G' : Cx) : Prop := G'.base = G.base ∧ G'.w0 = G.w0 ∧ G'.w = G.w ∧ G'.St = G.St
theorem Rep.nm {G G' : Cx} {q : Nat → Prop} {v : Value} {x : AV} (h : Rep G v x) (hx : Nm q x) (hs : sameBut G G') (hmu : ∀ id y, q id → G.mu id = some y → G'.mu id = some y) : Rep G' v x := by
  obtain ⟨_, _, hw, hst⟩ := hs
  induction h with
  | any v => exact .any v
  | s v => exact .s v
  | agg vs cs hl h1 _ ih => cases hx with | agg _ hx => exact .agg vs cs hl h1 (fun j v c a b => ih j v c a b (hx c (List.mem_of_getElem? b)))
  | emp A hA => exact .emp A hA
  | slnil A cap => exact .slnil A cap
  | sl b o cap sz l val hcp hm h1 h2 _ ih => cases hx with | sl _ hx => exact .sl b o cap sz l val hcp hm h1 (fun k x j c hk hj => by rw [hst, hw]; exact h2 k x j c hk hj) (fun k x j c hk hj => ih k x j c hk hj ((hx x (List.mem_of_getElem? hk)).cells c (List.mem_of_getElem? hj)))
  | ref b o cs val h1 h2 _ ih => cases hx with | ref _ hx => exact .ref b o cs val h1 (fun j c hj => by rw [hst, hw]; exact h2 j c hj) (fun j c hj => ih j c hj (hx c (List.mem_of_getElem? hj)))
  | own0 id sz A hA hm => cases hx with | own _ _ _ hx => exact .own0 id sz A hA (hmu _ _ hx hm)
  | own id sz n b cap hm hn hcp hb => cases hx with | own _ _ _ hx => exact .own id sz n b cap (hmu _ _ hx hm) hn hcp (by rw [hw]; exact hb)
  | ptr id sz i j b hm => cases hx with | ptr _ _ _ _ hx => exact .ptr id sz i j b (hmu _ _ hx hm)
  | fn f vs cs hl _ ih => cases hx with | fn _ _ hx => exact .fn f vs cs hl (fun j v c a b => ih j v c a b (hx c (List.mem_of_getElem? b)))
  | tup vs l hl _ ih => cases hx with | tup _ hx => exact .tup vs l hl (fun j v c a b => ih j v c a b (hx c (List.mem_of_getElem? b)))
  | mp id b hm => cases hx with | mp _ hx => exact .mp id b (hmu _ _ hx hm)
  | sub id sz o n b cap A hm hA hc => cases hx with | sub _ _ _ _ hx => exact .sub id sz o n b cap A (hmu _ _ hx hm) hA (by rw [hw]; exact hc)
def ObNm (q : Nat → Prop) : Ob → Prop
  | .row _ cs | .fz _ cs => ∀ c ∈ cs, Nm q c
  | .mp _ => False
  | _ => True
/-- the same world under other names -/
theorem hole_rel {G G' : Cx} {τ σ : List Ob} {q : Nat → Prop} (π : Nat → Nat) (hr : Rel G τ) (hs : sameBut G G') (hmu : ∀ id y, q id → G.mu id = some y → G'.mu id = some y)
    (hob : ∀ id ob, σ[id]? = some ob → (ob = .dead ∧ G'.mu id = none) ∨ (τ[π id]? = some ob ∧ G'.mu id = G.mu (π id) ∧ ObNm q ob))
    (hπ : ∀ i j, alive σ i → alive σ j → π i = π j → i = j) (hf : ∀ id, σ.length ≤ id → G'.mu id = none) : Rel G' σ := by
  obtain ⟨e1, e2, e3, e4⟩ := hs
  have al : ∀ i, alive σ i → alive τ (π i) ∧ G'.mu i = G.mu (π i) := by
    rintro i ⟨sz, cs, h⟩
    rcases hob i _ h with ⟨h1, _⟩ | ⟨h1, h2, _⟩
    · cases h1
    · exact ⟨⟨sz, cs, h1⟩, h2⟩
  refine ⟨by rw [e1, e2, e3]; exact hr.below, by rw [e1, e2]; exact hr.le, by rw [e3, e4]; exact hr.st, fun id ob ho => ?_, fun i j b hi hj hmi hmj => ?_, hf⟩
  · rcases hob id ob ho with ⟨rfl, h1⟩ | ⟨h1, h2, h3⟩
    · intro b hb
      rw [h1] at hb; cases hb
    · have h4 := hr.obs _ ob h1
      have row : ∀ b sz cs fr, (∀ c ∈ cs, Nm q c) → RowAt G b sz cs fr → RowAt G' b sz cs fr := by
        rintro b sz cs fr hlo ⟨cur, t, f, g2, g3, g4, g5⟩
        refine ⟨cur, t, f, by rw [e3]; exact g2, g3, g4, fun i x hx => ⟨(g5 i x hx).1, (g5 i x hx).2.1, fun j c hc => ?_⟩⟩
        obtain ⟨v, g6, g7⟩ := (g5 i x hx).2.2 j c hc
        exact ⟨v, g6, g7.nm ((hlo x (List.mem_of_getElem? hx)).cells c (List.mem_of_getElem? hc)) ⟨e1, e2, e3, e4⟩ hmu⟩
      cases ob with
      | dead => intro b hb; rw [e3]; exact h4 b (by rw [← h2]; exact hb)
      | row sz cs =>
        have hlo : ∀ c ∈ cs, Nm q c := h3
        simp only [ObOk] at h4 ⊢
        rw [h2]
        cases hx : G.mu (π id) with
        | none => rw [hx] at h4; exact h4
        | some x =>
          rw [hx] at h4
          cases x with
          | none => exact h4
          | some b => exact ⟨row b sz cs _ hlo h4.1, by rw [e1]; exact h4.2.1, by rw [e4]; exact h4.2.2⟩
      | fz sz cs =>
        have hlo : ∀ c ∈ cs, Nm q c := h3
        simp only [ObOk] at h4 ⊢
        rw [h2]
        cases hx : G.mu (π id) with
        | none => rw [hx] at h4; exact h4
        | some x =>
          rw [hx] at h4
          cases x with
          | none => exact h4
          | some b => exact ⟨row b sz cs _ hlo h4.1, by rw [e4]; exact h4.2⟩
      | mp X => exact h3.elim
  · obtain ⟨a1, m1⟩ := al i hi
    obtain ⟨a2, m2⟩ := al j hj
    exact hπ i j hi hj (hr.inj _ _ b a1 a2 (by rw [← m1]; exact hmi) (by rw [← m2]; exact hmj))
/-- the holes have no block -/
def Hol (hs : List Nat) (G : Cx) : Prop := ∀ id ∈ hs, G.mu id = none
def DoesH (P : Program) (o : Oper) (F : Frm) (σ : List Ob) (hs : List Nat) (x : AV) (σ' : List Ob) (hs' : List Nat) : Prop :=
  ∀ (G : Cx) (a : Act) (next : Act → World → Prop) (Q : Exit → Act → World → Prop), Rel G σ → Hol hs G → (∀ y ∈ o.op.operands, Rep G (a.eval y) (F.eval y)) →
    (∀ v G', G.Ext G' → Rel G' σ' → Hol hs' G' → Rep G' v x → next (a.put o.dst v) G'.w) → o.wp P a G.w next Q
section
variable {P : Program} {o : Oper} {F : Frm} {σ σ' : List Ob} {hs : List Nat} {x x' : AV}
theorem DoesH.congr {F' : Frm} {ops : Array Oper} {hs' : List Nat} (h : DoesH P o F σ hs x σ' hs') (he : ∀ t ∈ o.looksAt ops, F.get t = F'.get t) : DoesH P o F' σ hs x σ' hs' := fun G a next Q hr hh hop hn =>
  h G a next Q hr hh (fun y hy => by rw [eval_congr he y hy]; exact hop y hy) hn
/-- an operation that makes nothing -/
theorem doesH_keep (h : Does P o F σ x σ') (hx : Nm (· ∉ hs) x) (ho : ∀ id ob, σ'[id]? = some ob → (id ∈ hs → ob = .dead) ∧ (id ∉ hs → ObNm (· ∉ hs) ob)) : DoesH P o F σ hs x σ' hs := fun G a next Q hr hh hop hn =>
  h G a next Q hr hop fun v G' he hr' hv => by
    let G2 : Cx := { G' with mu := fun i => if i ∈ hs then none else G'.mu i }
    have hmu : ∀ id y, id ∉ hs → G'.mu id = some y → G2.mu id = some y := fun id y h1 h2 => by
      show (if id ∈ hs then none else G'.mu id) = some y
      rw [if_neg h1]; exact h2
    refine hn v G2 ⟨he.base, he.w0, he.st, he.cell, fun id y hy => ?_, he.size, he.rows, he.stN⟩ (hole_rel (fun i => i) hr' ⟨rfl, rfl, rfl, rfl⟩ hmu (fun id ob hob => ?_) (fun i j _ _ e => e) (fun id hid => ?_)) (fun id hid => if_pos hid) (hv.nm hx ⟨rfl, rfl, rfl, rfl⟩ hmu)
    · refine hmu id y (fun hid => ?_) (he.mu id y hy)
      rw [hh id hid] at hy; cases hy
    · by_cases hid : id ∈ hs
      · exact .inl ⟨(ho id ob hob).1 hid, if_pos hid⟩
      · exact .inr ⟨hob, if_neg hid, (ho id ob hob).2 hid⟩
    · show (if id ∈ hs then none else G'.mu id) = none
      rw [hr'.fresh id hid]; split <;> rfl
theorem nm_of_cells {q : Nat → Prop} {x : AV} (h : ∀ c ∈ x.cells, Nm q c) : Nm q x := by
  by_cases hx : ∃ cs, x = .agg cs
  · obtain ⟨cs, rfl⟩ := hx; exact .agg cs h
  · have : x.cells = [x] := by cases x <;> first | rfl | (exact absurd ⟨_, rfl⟩ hx)
    exact h x (by rw [this]; simp)
/-- what stands for a value names no hole -/
theorem rep_nmq {G : Cx} {q : Nat → Prop} (key : ∀ id b, G.mu id = some b → q id) {v : Value} {x : AV} (h : Rep G v x) : Nm q x := by
  induction h with
  | any v => exact .any
  | s v => exact .s v
  | agg vs cs hl h1 _ ih =>
    refine .agg cs fun c hc => ?_
    obtain ⟨j, hj, rfl⟩ := List.mem_iff_getElem.1 hc
    exact ih j _ _ (Array.getElem?_eq_getElem (by omega)) (List.getElem?_eq_getElem hj)
  | emp A hA => exact .emp
  | slnil A cap => exact .sl [] (by simp)
  | sl b o cap sz l val hc hm h1 h2 _ ih =>
    refine .sl l fun e he => nm_of_cells fun c hcc => ?_
    obtain ⟨i, hi, rfl⟩ := List.mem_iff_getElem.1 he
    obtain ⟨j, hj, rfl⟩ := List.mem_iff_getElem.1 hcc
    exact ih i _ j _ (List.getElem?_eq_getElem hi) (List.getElem?_eq_getElem hj)
  | ref b o cs val h1 h2 _ ih =>
    refine .ref cs fun c hc => ?_
    obtain ⟨j, hj, rfl⟩ := List.mem_iff_getElem.1 hc
    exact ih j _ (List.getElem?_eq_getElem hj)
  | own0 id sz A hA hm => exact .own _ _ _ (key _ _ hm)
  | own id sz n b cap hm hn hc hb => exact .own _ _ _ (key _ _ hm)
  | ptr id sz k j b hm => exact .ptr _ _ _ _ (key _ _ hm)
  | fn f vs cs hl _ ih =>
    refine .fn f cs fun c hc => ?_
    obtain ⟨j, hj, rfl⟩ := List.mem_iff_getElem.1 hc
    exact ih j _ _ (Array.getElem?_eq_getElem (by omega)) (List.getElem?_eq_getElem hj)
  | tup vs cs hl _ ih =>
    refine .tup cs fun c hc => ?_
    obtain ⟨j, hj, rfl⟩ := List.mem_iff_getElem.1 hc
    exact ih j _ _ (Array.getElem?_eq_getElem (by omega)) (List.getElem?_eq_getElem hj)
  | mp id b hm => exact .mp _ (key _ _ hm)
  | sub id sz o n b cap A hm hA _ => exact .sub _ _ _ _ (key _ _ hm)
def isMp : Ob → Bool
  | .mp _ => true
  | _ => false
theorem rel_nmq {G : Cx} {q : Nat → Prop} (hr : Rel G σ) (key : ∀ id b, G.mu id = some b → q id) {id : Nat} {ob : Ob} (hob : σ[id]? = some ob) (hm : isMp ob = false) : ObNm q ob := by
  have h1 := hr.obs id ob hob
  have row : ∀ b sz cs fr, RowAt G b sz cs fr → ∀ c ∈ cs, Nm q c := by
    rintro b sz cs fr ⟨cur, t, q', h2, h3, h4, h5⟩ e he
    obtain ⟨i, hi, rfl⟩ := List.mem_iff_getElem.1 he
    obtain ⟨_, _, h6⟩ := h5 i _ (List.getElem?_eq_getElem hi)
    refine nm_of_cells fun c hc => ?_
    obtain ⟨j, hj, rfl⟩ := List.mem_iff_getElem.1 hc
    obtain ⟨v, _, h7⟩ := h6 j _ (List.getElem?_eq_getElem hj)
    exact rep_nmq key h7
  cases ob with
  | row sz cs =>
    simp only [ObOk] at h1
    cases hx : G.mu id with
    | none => rw [hx] at h1; exact h1.elim
    | some x =>
      rw [hx] at h1
      cases x with
      | none => simp only at h1; subst h1; intro c hc; simp at hc
      | some b => exact row b sz cs _ h1.1
  | fz sz cs =>
    simp only [ObOk] at h1
    cases hx : G.mu id with
    | none => rw [hx] at h1; exact h1.elim
    | some x =>
      rw [hx] at h1
      cases x with
      | none => simp only at h1; subst h1; intro c hc; simp at hc
      | some b => exact row b sz cs _ h1.1
  | dead => trivial
  | mp X => cases hm
theorem Hol.key {G : Cx} (hh : Hol hs G) : ∀ id b, G.mu id = some b → id ∉ hs := fun id b hb hid => by rw [hh id hid] at hb; cases hb
theorem rel_hol {G : Cx} (hr : Rel G σ) (hh : Hol hs G) {id : Nat} {ob : Ob} (hob : σ[id]? = some ob) (hm : isMp ob = false) : ObNm (· ∉ hs) ob := rel_nmq hr hh.key hob hm
/-- the same, where only what it changes is looked at -/
theorem doesH_keep2 (h : Does P o F σ x σ') (hx : Nm (· ∉ hs) x) (W : List Nat) (hW : ∀ id, id ∉ W → σ'[id]? = σ[id]?) (hd : ∀ id ∈ hs, σ[id]? = some .dead) (hWd : ∀ id ∈ W, id ∉ hs)
    (hWo : ∀ id ∈ W, ∀ ob : Ob, σ'[id]? = some ob → ObNm (· ∉ hs) ob) (hmp : ∀ (id : Nat) (ob : Ob), σ[id]? = some ob → isMp ob = false) : DoesH P o F σ hs x σ' hs := fun G a next Q hr hh hop hn =>
by
  have ho : ∀ (id : Nat) (ob : Ob), σ'[id]? = some ob → (id ∈ hs → ob = .dead) ∧ (id ∉ hs → ObNm (· ∉ hs) ob) := fun id ob hob => by
    refine ⟨fun hid => ?_, fun hid => ?_⟩
    · rw [hW id (fun hw => hWd id hw hid), hd id hid] at hob
      exact (Option.some.inj hob).symm
    · by_cases hw : id ∈ W
      · exact hWo id hw ob hob
      · rw [hW id hw] at hob
        exact rel_hol hr hh hob (hmp id ob hob)
  exact doesH_keep h hx ho G a next Q hr hh hop hn
/-- the name is another one -/
inductive RnTo (l h : Nat) : AV → AV → Prop
  | ptr (sz k j : Nat) : RnTo l h (.ptr l sz k j) (.ptr h sz k j)
  | own (sz n : Nat) : RnTo l h (.own l sz n) (.own h sz n)
/-- an operation that makes one object, which takes the name of a hole -/
theorem doesH_push {ob : Ob} {h : Nat} (hd : Does P o F σ x (σ ++ [ob])) (hh0 : h ∈ hs) (hlt : h < σ.length) (hsd : ∀ id ∈ hs, σ[id]? = some .dead) (hx : RnTo σ.length h x x') (hob : ObNm (fun i => i ∉ hs ∧ i < σ.length) ob)
    (ho : ∀ id ob, σ[id]? = some ob → id ∉ hs → ObNm (fun i => i ∉ hs ∧ i < σ.length) ob) : DoesH P o F σ hs x' (σ.set h ob) (hs.filter fun i => !Nat.beq i h) := fun G a next Q hr hh hop hn =>
  hd G a next Q hr hop fun v G' he hr' hv => by
    let G2 : Cx := { G' with mu := fun i => if i = h then G'.mu σ.length else if i ∈ hs ∨ σ.length ≤ i then none else G'.mu i }
    have g0 : G2.mu h = G'.mu σ.length := if_pos rfl
    have g1 : ∀ id, id ≠ h → (id ∈ hs ∨ σ.length ≤ id) → G2.mu id = none := fun id h1 h2 => by
      show (if id = h then G'.mu σ.length else if id ∈ hs ∨ σ.length ≤ id then none else G'.mu id) = none
      rw [if_neg h1, if_pos h2]
    have g2 : ∀ id, id ∉ hs → id < σ.length → G2.mu id = G'.mu id := fun id h1 h2 => by
      show (if id = h then G'.mu σ.length else if id ∈ hs ∨ σ.length ≤ id then none else G'.mu id) = G'.mu id
      have h4 : id ≠ h := fun e => h1 (by rw [e]; exact hh0)
      have h5 : ¬ (id ∈ hs ∨ σ.length ≤ id) := by rintro (h3 | h3); exact h1 h3; omega
      rw [if_neg h4, if_neg h5]
    have hmu : ∀ id y, (id ∉ hs ∧ id < σ.length) → G'.mu id = some y → G2.mu id = some y := fun id y h1 h2 => (g2 id h1.1 h1.2).trans h2
    have hset : ∀ i, i ≠ h → (σ.set h ob)[i]? = σ[i]? := fun i hi => List.getElem?_set_ne (Ne.symm hi)
    refine hn v G2 ⟨he.base, he.w0, he.st, he.cell, fun id y hy => ?_, he.size, he.rows, he.stN⟩ (hole_rel (fun i => if i = h then σ.length else i) hr' ⟨rfl, rfl, rfl, rfl⟩ hmu (fun id ob' hob' => ?_) (fun i j hi hj e => ?_) (fun id hid => ?_)) (fun id hid => ?_) ?_
    · refine hmu id y ⟨fun hid => ?_, ?_⟩ (he.mu id y hy)
      · rw [hh id hid] at hy; cases hy
      · rcases Nat.lt_or_ge id σ.length with h1 | h1
        · exact h1
        · rw [hr.fresh id h1] at hy; cases hy
    · by_cases hid : id = h
      · subst hid
        rw [List.getElem?_set_self hlt] at hob'
        cases hob'
        right
        rw [if_pos rfl]
        exact ⟨by simp, g0, hob⟩
      · rw [hset id hid] at hob'
        have hl : id < σ.length := (List.getElem?_eq_some_iff.1 hob').1
        by_cases h2 : id ∈ hs
        · left
          rw [hsd id h2] at hob'
          exact ⟨(Option.some.inj hob').symm, g1 id hid (.inl h2)⟩
        · right
          rw [if_neg hid]
          exact ⟨by rw [List.getElem?_append_left hl]; exact hob', g2 id h2 hl, ho id ob' hob' h2⟩
    · have hl : ∀ i, alive (σ.set h ob) i → i < σ.length := by
        rintro i ⟨sz, cs, h1⟩
        have := (List.getElem?_eq_some_iff.1 h1).1
        simpa using this
      have a1 := hl i hi
      have a2 := hl j hj
      by_cases h1 : i = h
      · by_cases h2 : j = h
        · rw [h1, h2]
        · rw [if_pos h1, if_neg h2] at e; omega
      · by_cases h2 : j = h
        · rw [if_neg h1, if_pos h2] at e; omega
        · rw [if_neg h1, if_neg h2] at e; exact e
    · rw [List.length_set] at hid
      exact g1 id (by omega) (.inr hid)
    · rw [List.mem_filter] at hid
      refine g1 id (fun e => ?_) (.inl hid.1)
      subst e
      have := hid.2
      simp at this
    · cases hx with
      | ptr sz k j => cases hv with | ptr _ _ _ _ b hm => exact .ptr _ _ _ _ b (g0.trans hm)
      | own sz n =>
        cases hv with
        | own0 _ _ A hA hm => exact .own0 _ _ A hA (g0.trans hm)
        | own _ _ _ b cap hm h1 h2 h3 => exact .own _ _ _ b cap (g0.trans hm) h1 h2 h3
theorem doesH_push2 {ob : Ob} {h : Nat} (hd : Does P o F σ x (σ ++ [ob])) (hh0 : h ∈ hs) (hlt : h < σ.length) (hsd : ∀ id ∈ hs, σ[id]? = some .dead) (hx : RnTo σ.length h x x') (hob : ObNm (fun i => i ∉ hs ∧ i < σ.length) ob)
    (hmp : ∀ (id : Nat) (ob : Ob), σ[id]? = some ob → isMp ob = false) : DoesH P o F σ hs x' (σ.set h ob) (hs.filter fun i => !Nat.beq i h) := fun G a next Q hr hh hop hn => by
  have key : ∀ id b, G.mu id = some b → id ∉ hs ∧ id < σ.length := fun id b hb => ⟨hh.key id b hb, by
    rcases Nat.lt_or_ge id σ.length with h1 | h1
    · exact h1
    · rw [hr.fresh id h1] at hb; cases hb⟩
  exact doesH_push hd hh0 hlt hsd hx hob (fun id ob' h1 _ => rel_nmq hr key h1 (hmp id ob' h1)) G a next Q hr hh hop hn
theorem Nm.mono {q q' : Nat → Prop} (hq : ∀ i, q i → q' i) {x : AV} (h : Nm q x) : Nm q' x := by
  induction h with
  | any => exact .any
  | s v => exact .s v
  | agg cs _ ih => exact .agg cs ih
  | emp => exact .emp
  | sl l _ ih => exact .sl l ih
  | ref l _ ih => exact .ref l ih
  | own a b c h => exact .own _ _ _ (hq _ h)
  | ptr a b c d h => exact .ptr _ _ _ _ (hq _ h)
  | fn f l _ ih => exact .fn f l ih
  | tup l _ ih => exact .tup l ih
  | mp a h => exact .mp _ (hq _ h)
  | sub a b c d h => exact .sub _ _ _ _ (hq _ h)
theorem ObNm.mono {q q' : Nat → Prop} (hq : ∀ i, q i → q' i) {ob : Ob} (h : ObNm q ob) : ObNm q' ob := by
  cases ob with
  | row n cs => exact fun c hc => (h c hc).mono hq
  | fz n cs => exact fun c hc => (h c hc).mono hq
  | mp X => exact h
  | dead => trivial
mutual
def nmB (q : Nat → Bool) : AV → Bool
  | .any | .s _ | .emp => true
  | .agg l | .sl l | .ref l | .fn _ l | .tup l => nmsB q l
  | .own id _ _ | .ptr id _ _ _ | .mp id | .sub id _ _ _ => q id
def nmsB (q : Nat → Bool) : List AV → Bool
  | [] => true
  | x :: l => nmB q x && nmsB q l
end
mutual
theorem nmB_of {q : Nat → Bool} : ∀ (x : AV), nmB q x = true → Nm (fun i => q i = true) x
  | .any, _ => .any
  | .s v, _ => .s v
  | .emp, _ => .emp
  | .agg l, h => .agg l (nmsB_of l (by simpa [nmB] using h))
  | .sl l, h => .sl l (nmsB_of l (by simpa [nmB] using h))
  | .ref l, h => .ref l (nmsB_of l (by simpa [nmB] using h))
  | .fn f l, h => .fn f l (nmsB_of l (by simpa [nmB] using h))
  | .tup l, h => .tup l (nmsB_of l (by simpa [nmB] using h))
  | .own id a b, h => .own id a b (by simpa [nmB] using h)
  | .ptr id a b c, h => .ptr id a b c (by simpa [nmB] using h)
  | .mp id, h => .mp id (by simpa [nmB] using h)
  | .sub id a b c, h => .sub id a b c (by simpa [nmB] using h)
theorem nmsB_of {q : Nat → Bool} : ∀ (l : List AV), nmsB q l = true → ∀ c ∈ l, Nm (fun i => q i = true) c
  | [], _ => by simp
  | x :: l, h => by
    simp only [nmsB, Bool.and_eq_true] at h
    have h1 := nmB_of x h.1
    have h2 := nmsB_of l h.2
    intro c hc
    rcases List.mem_cons.1 hc with e | hc
    · rw [e]; exact h1
    · exact h2 c hc
end
def obNmB (q : Nat → Bool) : Ob → Bool
  | .row _ cs | .fz _ cs => nmsB q cs
  | .mp _ => false
  | .dead => true
theorem obNmB_of {q : Nat → Bool} {ob : Ob} (h : obNmB q ob = true) : ObNm (fun i => q i = true) ob := by
  cases ob with
  | row n cs => exact nmsB_of cs h
  | fz n cs => exact nmsB_of cs h
  | mp X => cases h
  | dead => trivial
def rnB (l h : Nat) : AV → AV → Bool
  | .ptr a b c d, .ptr a' b' c' d' => Nat.beq a l && Nat.beq a' h && Nat.beq b b' && Nat.beq c c' && Nat.beq d d'
  | .own a b c, .own a' b' c' => Nat.beq a l && Nat.beq a' h && Nat.beq b b' && Nat.beq c c'
  | _, _ => false
theorem rnB_of {l h : Nat} {x y : AV} (e : rnB l h x y = true) : RnTo l h x y := by
  unfold rnB at e
  split at e
  · simp only [Bool.and_eq_true] at e
    obtain ⟨⟨⟨⟨e1, e2⟩, e3⟩, e4⟩, e5⟩ := e
    rw [Nat.eq_of_beq_eq_true e1, Nat.eq_of_beq_eq_true e2, Nat.eq_of_beq_eq_true e3, Nat.eq_of_beq_eq_true e4, Nat.eq_of_beq_eq_true e5]
    exact .ptr _ _ _
  · simp only [Bool.and_eq_true] at e
    obtain ⟨⟨⟨e1, e2⟩, e3⟩, e4⟩ := e
    rw [Nat.eq_of_beq_eq_true e1, Nat.eq_of_beq_eq_true e2, Nat.eq_of_beq_eq_true e3, Nat.eq_of_beq_eq_true e4]
    exact .own _ _
  · cases e
end
end Go.Proofs.Ythdpacbjbdkemaa.Aw
end
section
namespace Go.Proofs.Ythdpacbjbdkemaa.Aw
set_option linter.unusedSimpArgs false
set_option linter.unusedVariables false
set_option linter.unusedSectionVars false
open Go.RowKit

def TAtH (P : Program) (N : Nat) (l : List Oper) (E : List Nat) (T : List Nat → List Ob) (H : List Nat → List Nat) (o : Oper) (i : Nat) (F : Frm) (p : Nat × AV) : Prop :=
  (i ∉ E ∧ ((Runs l.toArray F o true ∧ ∃ x, p = ent N o x ∧ ∀ q : Nat → Bool, DoesH P o F (T (E.filter q)) (H (E.filter q)) x (T (E.filter q)) (H (E.filter q))) ∨ (Runs l.toArray F o false ∧ p = ent N o (.s undef)))) ∨
  (Runs l.toArray F o true ∧ ∀ q : Nat → Bool, closedB (masks l []) E (E.filter q) = true → readyB (masks l []) E (E.filter q) i = true → ∃ x, p = ent N o x ∧ DoesH P o F (T (E.filter q)) (H (E.filter q)) x (T (insE E (E.filter q) i)) (H (insE E (E.filter q) i)))
section
variable {P : Program} {N : Nat} {l : List Oper} {F F' : Frm} {σ : List Ob} {out : List (Nat × AV)} {Q : Exit → Frm → List Ob → Prop}
theorem etree_hole {σ' : List Ob} {E : List Nat} {T : List Nat → List Ob} {H : List Nat → List Nat} (hqs : sOk l N = true) (hself : ∀ i, ((masks l []).getD i 0).testBit i = true → False) (hEl : ∀ j ∈ E, j < l.length) (hlen : l.length = out.length) (hF' : F' = out.reverse ++ F) (hTE : T E = σ')
    (hat : ∀ (i : Nat) o, l[i]? = some o → dOk N o = true ∧ ∃ p, out[i]? = some p ∧ (∃ x, p = ent N o x) ∧ TAtH P N l E T H o i ((out.take i).reverse ++ F) p) (hQ : Q .normal F' σ') (G0 : Cx) :
    ∀ (fuel : Nat) (L : Array Bool) (G : Cx) (a : Act), G0.Ext G → L.size = l.length → left L.toList = fuel → Closed l (fun j => L.getD j false = true) → Rep G (a.tmps.getD N undef) (F.get N) → Hol (H (E.filter fun j => L.getD j false)) G → S8 N G a (fr (fun j => L.getD j false) 0 out F) (T (E.filter fun j => L.getD j false)) → wpAny P .any l.toArray (liftE N G0 Q) fuel L a G.w := by
  unfold sOk at hqs
  simp only [Bool.and_eq_true] at hqs
  obtain ⟨hq, hlk⟩ := hqs
  have hlk' : ∀ (i : Nat) o, l[i]? = some o → ∀ t ∈ o.looksAt l.toArray, t < N := fun i o ho t ht => by
    have h1 := List.all_eq_true.1 hlk o (List.mem_of_getElem? ho)
    have h2 := List.all_eq_true.1 h1 t ht
    simpa [Nat.blt_eq] using h2
  unfold qOk at hq
  have hq' : ∀ j oj, l[j]? = some oj → (∀ e ∈ oj.after.toList, Region.binds .any e = true → e.on < j) ∧ ∀ i oi, i < j → l[i]? = some oi → clash l.toArray oi oj = true → ((masks l []).getD j 0).testBit i = true := by
    intro j oj hj
    have h1 := List.all_eq_true.1 hq j (by simpa using (List.getElem?_eq_some_iff.1 hj).1)
    rw [hj] at h1
    simp only [Bool.and_eq_true, List.all_eq_true] at h1
    refine ⟨fun e he hb => ?_, fun i oi hij hi hc => ?_⟩
    · have := h1.1 e he
      rw [hb] at this
      simpa [Nat.blt_eq] using this
    · have := h1.2 i (by simpa using hij)
      rw [hi] at this
      simpa [hc] using this
  have hsound : ∀ (D : Nat → Prop), Closed l D → ∀ j i, ((masks l []).getD j 0).testBit i = true → D j → D i := fun D hD => masks_sound hD l [] (fun j o h => by simpa using h) (fun j i h => by simp at h)
  have hnone : ∀ (L : Array Bool), L.size = l.length → Region.ready .any l.toArray L = [] → ∀ j, j < l.length → L.getD j false = true := by
    intro L hL hr j
    induction j using Nat.strongRecOn with
    | _ j ih =>
      intro hj
      cases hc : L.getD j false with
      | true => rfl
      | false =>
        exfalso
        obtain ⟨o, ho⟩ : ∃ o, l[j]? = some o := ⟨_, List.getElem?_eq_getElem hj⟩
        have hm : j ∈ Region.ready .any l.toArray L := by
          refine mem_ready.2 ⟨?_, o, by simpa using ho, fun e he hb => ?_⟩
          · have hlt : j < L.size := by omega
            simp [Array.getD_eq_getD_getElem?, hlt] at hc ⊢
            exact hc
          · have hon := (hq' j o ho).1 e (by simpa using he) hb
            exact ih e.on hon (by omega)
        rw [hr] at hm
        cases hm
  -- when all have come up
  have hend : ∀ (L : Array Bool) (G : Cx) (a : Act), G0.Ext G → L.size = l.length → Region.ready .any l.toArray L = [] → S8 N G a (fr (fun j => L.getD j false) 0 out F) (T (E.filter fun j => L.getD j false)) → (∀ j ∈ E, j < l.length) → liftE N G0 Q .normal a G.w := by
    intro L G a hst hL hr h8 hEl
    have e1 : E.filter (fun j => L.getD j false) = E := List.filter_eq_self.2 fun j hj => hnone L hL hr j (hEl j hj)
    rw [e1, hTE] at h8
    refine ⟨G, F', σ', rfl, hst, ⟨h8.rel, fun t => ?_, h8.df, h8.nt⟩, hQ⟩
    have h1 := h8.fr t
    have h2 : (fr (fun j => L.getD j false) 0 out F).get t = (fr (fun j => decide (j < 0 + out.length)) 0 out F).get t := fr_congr out 0 F F rfl (fun j p hp _ => by
      have hj : j < out.length := (List.getElem?_eq_some_iff.1 hp).1
      simp only [Nat.zero_add]
      rw [hnone L hL hr j (by omega)]
      simp [hj])
    rw [h2, fr_pre, List.take_length, ← hF'] at h1
    exact h1
  intro fuel
  induction fuel with
  | zero =>
    intro L G a hst hL hlf hcl _ hH h8
    have hr : Region.ready .any l.toArray L = [] := by
      rw [List.eq_nil_iff_forall_not_mem]
      intro i hi
      obtain ⟨h1, o, ho, _⟩ := mem_ready.1 hi
      have hlt : i < L.size := by rw [hL]; simpa using (Array.getElem?_eq_some_iff.1 ho).1
      have : 0 < left L.toList := left_pos i (by simp [Array.getD_eq_getD_getElem?, hlt] at h1 ⊢; exact h1)
      omega
    exact ⟨hr, hend L G a hst hL hr h8 hEl⟩
  | succ fuel ih =>
    intro L G a hst hL hlf hcl hNr hH h8
    refine ⟨fun hr => hend L G a hst hL hr h8 hEl, fun i hi => ?_⟩
    obtain ⟨h1, o, ho, hall⟩ := mem_ready.1 hi
    have hli : l[i]? = some o := by simpa using ho
    have hlt : i < L.size := by rw [hL]; exact (List.getElem?_eq_some_iff.1 hli).1
    have hfalse : L.getD i false = false := by simp [Array.getD_eq_getD_getElem?, hlt] at h1 ⊢; exact h1
    obtain ⟨g2, p0, g1, ⟨x0, hx0⟩, g4⟩ := hat i o hli
    -- the others that touch its slots: those before it have come up, those behind it have not
    have hcl' : Closed l (fun j => j = i ∨ L.getD j false = true) := by
      intro j oj hj hD e he hb
      rcases hD with rfl | hD
      · rw [hli] at hj; cases hj
        exact .inr (hall e (by simpa using he) hb)
      · exact .inr (hcl j oj hj hD e he hb)
    have hord : ∀ j oj, l[j]? = some oj → j ≠ i → (j < i → clash l.toArray oj o = true → L.getD j false = true) ∧ (i < j → clash l.toArray o oj = true → L.getD j false = false) := by
      intro j oj hj hne
      refine ⟨fun hji hc => ?_, fun hij hc => ?_⟩
      · rcases hsound _ hcl' i j ((hq' i o hli).2 j oj hji hj hc) (.inl rfl) with h | h
        · exact absurd h hne
        · exact h
      · cases hx : L.getD j false with
        | false => rfl
        | true =>
          have := hsound _ hcl j i ((hq' j oj hj).2 i o hij hli hc) hx
          rw [hfalse] at this
          cases this
    have hsel : ∀ t, t ∈ o.looksAt l.toArray → Frm.get ((out.take i).reverse ++ F) t = (fr (fun j => L.getD j false) 0 out F).get t := by
      intro t ht
      rw [← fr_pre out 0 i F]
      refine (fr_congr out 0 F F rfl (fun j p hp hpt => ?_)).symm
      simp only [Nat.zero_add]
      have hj : j < l.length := by rw [hlen]; exact (List.getElem?_eq_some_iff.1 hp).1
      obtain ⟨_, p', k1, ⟨x', rfl⟩, _⟩ := hat j _ (List.getElem?_eq_getElem hj)
      rw [k1] at hp
      cases hp
      have htN := hlk' i o hli t ht
      have k2 : l[j].dst = some t := ent_at hpt htN
      by_cases hji : j = i
      · subst hji; rw [hfalse]; simp
      · rcases Nat.lt_or_gt_of_ne hji with h | h
        · rw [(hord j _ (List.getElem?_eq_getElem hj) hji).1 h (clash_of.1 k2 ht)]; simp [h]
        · rw [(hord j _ (List.getElem?_eq_getElem hj) hji).2 h (clash_of.2.2 k2 ht)]; simp; omega
    -- what is known behind it
    have hnext : ∀ (x : AV), p0 = ent N o x → ∀ (G' : Cx) (v : Value), G.Ext G' → Rel G' (T (E.filter fun j => (L.setIfInBounds i true).getD j false)) → Hol (H (E.filter fun j => (L.setIfInBounds i true).getD j false)) G' → Rep G' v x → wpAny P .any l.toArray (liftE N G0 Q) fuel (L.setIfInBounds i true) (a.put o.dst v) G'.w := by
      intro x hx G' v he hr' hH' hv
      rw [hx] at g1
      refine ih _ G' _ (hst.trans he) (by simpa using hL) ?_ ?_ ?_ hH' ⟨hr', fun t => ?_, by cases o.dst <;> exact h8.df, by cases o.dst <;> simp [Act.put, h8.nt]⟩
      · have := left_set L.toList i (by simp [Array.getD_eq_getD_getElem?, hlt] at hfalse ⊢; exact hfalse)
        rw [Array.toList_setIfInBounds]; omega
      · intro j oj hj hD e he2 hb
        have key : ∀ k, (L.setIfInBounds i true).getD k false = true ↔ (k = i ∨ L.getD k false = true) := fun k => by
          by_cases hk : i = k
          · subst hk; simp [Array.getD_eq_getD_getElem?, hlt]
          · simp [Array.getD_eq_getD_getElem?, Array.getElem?_setIfInBounds, hk, Ne.symm hk]
        rw [key] at hD ⊢
        exact hcl' j oj hj hD e he2 hb
      · cases ho2 : o.dst with
        | none => exact hNr.ext he
        | some d =>
          have hd := dOk_lt g2 ho2
          have : d ≠ N := Nat.ne_of_lt hd
          have h1 : (a.put (some d) v).tmps.getD N undef = a.tmps.getD N undef := by simp [Act.put, Array.getD_eq_getD_getElem?, Array.getElem?_setIfInBounds, this]
          rw [h1]; exact hNr.ext he
      · have hselL : ∀ k, k ≠ i → (L.setIfInBounds i true).getD k false = L.getD k false := fun k hk => by
          simp [Array.getD_eq_getD_getElem?, Array.getElem?_setIfInBounds, Ne.symm hk]
        by_cases hte : t = (ent N o x).1
        · cases ho2 : o.dst with
          | none =>
            rw [ent_none ho2] at hte
            have hte : t = N := hte
            rw [hte]
            refine fr_rep out 0 F (hNr.ext he) (fun p hp hpt => ?_)
            obtain ⟨j, hj, rfl⟩ := List.mem_iff_getElem.1 hp
            obtain ⟨k2, p', k1, ⟨x', hx'⟩, _⟩ := hat j l[j] (List.getElem?_eq_getElem (by omega))
            have k3 : out[j] = ent N l[j] x' := by rw [List.getElem?_eq_getElem hj] at k1; exact (Option.some.inj k1).trans hx'
            rw [k3] at hpt ⊢
            rw [ent_top hpt k2]
            exact .any _
          | some d =>
            rw [ent_some ho2] at hte g1
            dsimp only at hte
            subst hte
            have h2 : (fr (fun j => (L.setIfInBounds i true).getD j false) 0 out F).get t = x := fr_last out 0 F i g1 (by simp [Array.getD_eq_getD_getElem?, hlt]) (fun j p hp hij hc hpt => by
              simp only [Nat.zero_add] at hc
              rw [hselL j (by omega)] at hc
              have hj : j < l.length := by rw [hlen]; exact (List.getElem?_eq_some_iff.1 hp).1
              obtain ⟨_, p', k1, ⟨x', rfl⟩, _⟩ := hat j _ (List.getElem?_eq_getElem hj)
              rw [k1] at hp
              cases hp
              have htN := dOk_lt g2 ho2
              have k2 : l[j].dst = some t := ent_at hpt htN
              have := (hord j _ (List.getElem?_eq_getElem hj) (by omega)).2 hij (clash_of.2.1 ho2 k2)
              rw [this] at hc
              cases hc)
            rw [h2]
            have : t < a.tmps.size := by rw [h8.nt]; exact dOk_lt g2 ho2
            simpa [Act.put, Array.getD_eq_getD_getElem?, this] using hv
        · have h2 : (fr (fun j => (L.setIfInBounds i true).getD j false) 0 out F).get t = (fr (fun j => L.getD j false) 0 out F).get t := fr_congr out 0 F F rfl (fun j p hp hpt => by
            simp only [Nat.zero_add]
            refine hselL j (fun e => ?_)
            subst e
            rw [g1] at hp
            cases hp
            exact hte hpt.symm)
          rw [h2]
          have h3 := (h8.fr t).ext he
          cases ho2 : o.dst with
          | none => exact h3
          | some d =>
            rw [ent_some ho2] at hte
            have hte : t ≠ d := hte
            simpa [Act.put, Array.getD_eq_getD_getElem?, Array.getElem?_setIfInBounds, Ne.symm hte] using h3
    have hset : ∀ j, (L.setIfInBounds i true).getD j false = (L.getD j false || Nat.beq j i) := fun j => by
      by_cases hj : j = i
      · subst hj; simp [Array.getD_eq_getD_getElem?, hlt]
      · have hb : Nat.beq j i = false := by
          cases hh : Nat.beq j i with
          | false => rfl
          | true => exact absurd (Nat.eq_of_beq_eq_true hh) hj
        simp [Array.getD_eq_getD_getElem?, Array.getElem?_setIfInBounds, Ne.symm hj, hb]
    have hdn : E.filter (fun j => (L.setIfInBounds i true).getD j false) = insE E (E.filter fun j => L.getD j false) i := by
      unfold insE
      refine List.filter_congr fun j hj => ?_
      rw [hset]
      congr 1
      rw [Bool.eq_iff_iff]
      simp [hj]
    have hmem : ∀ j, (E.filter fun j => L.getD j false).contains j = true ↔ j ∈ E ∧ L.getD j false = true := fun j => by simp
    have hclD : closedB (masks l []) E (E.filter fun j => L.getD j false) = true := by
      refine List.all_eq_true.2 fun j hj => List.all_eq_true.2 fun k hk => ?_
      obtain ⟨hj1, hj2⟩ := List.mem_filter.1 hj
      cases hb : ((masks l []).getD j 0).testBit k with
      | false => rfl
      | true =>
        rw [Bool.not_true, Bool.false_or]
        exact (hmem k).2 ⟨hk, hsound _ hcl j k hb hj2⟩
    have hrdD : readyB (masks l []) E (E.filter fun j => L.getD j false) i = true := by
      unfold readyB
      simp only [Bool.and_eq_true]
      refine ⟨⟨?_, List.all_eq_true.2 fun k hk => ?_⟩, List.all_eq_true.2 fun j hj => ?_⟩
      · cases hb : (E.filter fun j => L.getD j false).contains i with
        | false => rfl
        | true => have := ((hmem i).1 hb).2; rw [hfalse] at this; cases this
      · cases hb : ((masks l []).getD i 0).testBit k with
        | false => rfl
        | true =>
          rw [Bool.not_true, Bool.false_or]
          rcases hsound _ hcl' i k hb (.inl rfl) with h | h
          · exfalso
            subst h
            -- an operation does not wait for itself
            exact hself k hb
          · exact (hmem k).2 ⟨hk, h⟩
      · cases hb : ((masks l []).getD j 0).testBit i with
        | false => rfl
        | true =>
          have := hsound _ hcl j i hb (List.mem_filter.1 hj).2
          rw [hfalse] at this; cases this
    unfold wpOp
    simp only [ho]
    rcases g4 with ⟨hiE, ⟨k1, x, hx, k2⟩ | ⟨k1, hx⟩⟩ | ⟨k1, k2⟩
    · rw [if_pos ((k1.congr hsel).wanted h8.fr)]
      left
      refine ((k2 fun j => L.getD j false).congr hsel) G a _ _ h8.rel hH (fun y _ => rep_eval h8.fr y) (fun v G' he hr' hH' hv => ?_)
      refine hnext x hx G' v he ?_ ?_ hv <;>
      · have e : E.filter (fun j => (L.setIfInBounds i true).getD j false) = E.filter fun j => L.getD j false := List.filter_congr fun j hj => by
          rw [hset]
          have : Nat.beq j i = false := by
            cases hh : Nat.beq j i with
            | false => rfl
            | true => exact absurd (Nat.eq_of_beq_eq_true hh ▸ hj) hiE
          rw [this, Bool.or_false]
        rw [e]; assumption
    · rw [if_neg (by rw [(k1.congr hsel).wanted h8.fr]; simp)]
      refine hnext _ hx G undef (.refl G) ?_ ?_ (.s _) <;>
      · have e : E.filter (fun j => (L.setIfInBounds i true).getD j false) = E.filter fun j => L.getD j false := List.filter_congr fun j hj => by
          rw [hset]
          have : Nat.beq j i = false := by
            cases hh : Nat.beq j i with
            | false => rfl
            | true => exact absurd (Nat.eq_of_beq_eq_true hh ▸ hj) hiE
          rw [this, Bool.or_false]
        rw [e]; first | exact h8.rel | exact hH
    · rw [if_pos ((k1.congr hsel).wanted h8.fr)]
      left
      obtain ⟨x, hx, k3⟩ := k2 _ hclD hrdD
      refine (k3.congr hsel) G a _ _ h8.rel hH (fun y _ => rep_eval h8.fr y) (fun v G' he hr' hH' hv => ?_)
      refine hnext x hx G' v he ?_ ?_ hv <;> (rw [hdn]; assumption)
theorem edraw_hole {σ' : List Ob} {E : List Nat} {T : List Nat → List Ob} {H : List Nat → List Nat} (hqs : sOk l N = true) (hself : ∀ i, ((masks l []).getD i 0).testBit i = true → False) (hEl : ∀ j ∈ E, j < l.length) (hlen : l.length = out.length) (hF' : F' = out.reverse ++ F) (K : Nat) (hT0 : T [] = σ ++ List.replicate K .dead) (hH0 : ∀ id ∈ H [], σ.length ≤ id) (hTE : T E = σ')
    (hat : ∀ (i : Nat) o, l[i]? = some o → dOk N o = true ∧ ∃ p, out[i]? = some p ∧ (∃ x, p = ent N o x) ∧ TAtH P N l E T H o i ((out.take i).reverse ++ F) p) (hQ : Q .normal F' σ') : EDraw P N l F σ Q := fun G a h8 => by
  have hno : ∀ j, (Array.replicate l.length false).getD j false = false := fun j => by
    simp only [Array.getD_eq_getD_getElem?, Array.getElem?_replicate]
    split <;> rfl
  have h3 : ∀ (out : List (Nat × AV)) (k : Nat) (F : Frm), fr (fun j => (Array.replicate l.length false).getD j false) k out F = F := by
    intro out
    induction out with
    | nil => intro k F; rfl
    | cons p out ih =>
      intro k F
      have := hno k
      simp only [fr, this, cond_false]
      exact ih _ _
  have h4 : E.filter (fun j => (Array.replicate l.length false).getD j false) = [] := by
    rw [List.filter_eq_nil_iff]
    intro j _
    rw [hno]; simp
  have al : ∀ i, alive (σ ++ List.replicate K Ob.dead) i → alive σ i := by
    rintro i ⟨sz, cs, h⟩
    by_cases hl : i < σ.length
    · rw [List.getElem?_append_left hl] at h
      exact ⟨sz, cs, h⟩
    · rw [List.getElem?_append_right (by omega)] at h
      have := (List.mem_replicate.1 (List.mem_of_getElem? h)).2
      cases this
  refine etree_hole hqs hself hEl hlen hF' hTE hat hQ G l.length _ G a (.refl G) (by simp) (by simp [left_rep]) ?_ (h8.fr N) ?_ ?_
  · intro j o hj hD
    rw [hno] at hD
    cases hD
  · rw [h4]; exact fun id hid => h8.rel.fresh id (hH0 id hid)
  · rw [h3, h4, hT0]
    refine ⟨⟨h8.rel.below, h8.rel.le, h8.rel.st, fun id ob hob => ?_, fun i j b hi hj => h8.rel.inj i j b (al i hi) (al j hj), fun id hid => h8.rel.fresh id (by simp at hid; omega)⟩, h8.fr, h8.df, h8.nt⟩
    by_cases hl : id < σ.length
    · rw [List.getElem?_append_left hl] at hob
      exact h8.rel.obs id ob hob
    · rw [List.getElem?_append_right (by omega)] at hob
      have : ob = .dead := (List.mem_replicate.1 (List.mem_of_getElem? hob)).2
      subst this
      intro b hb
      rw [h8.rel.fresh id (by omega)] at hb; cases hb
end
end Go.Proofs.Ythdpacbjbdkemaa.Aw
end
