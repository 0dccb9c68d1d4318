import Derived.Test.YtmhbfoaecebobaaJG8
import Derived.Test.YtmhbfoaecebobaaJG6
section
namespace Go.Proofs.Ytmhbfoaecebobaa.Aw
set_option linter.unusedSimpArgs false
set_option linter.unusedVariables false
set_option linter.unusedSectionVars false
open Go Go.RowKit Go.Proofs Go.Maps Go.WideMaps
variable {P : Program} [IsP P]
def eMv (v : Mvx) : AV := .agg [eI v.fr, eI v.tt, eI v.sym]
def eSpc (s : Spc) : AV := .agg [eL (eL eI) s.st, eL eMv s.mv, eB s.full]
def eSE (r : Spc × Int) : AV := .tup [eSpc r.1, eI r.2]
def zSA : AV := .agg [.s (.slice none 0 0), .s (.slice none 0 0), .s (.bool false)]
theorem lo_II {k : Nat} (l : List (List Int)) : Lo k (eL (eL eI) l) := zaq fun _ => lo_I
theorem lo_Mv {k : Nat} (v : Mvx) : Lo k (eMv v) := .agg _ (by intro c hc; simp [eI] at hc; rcases hc with rfl | rfl | rfl <;> exact .s _)
theorem lo_Mvs {k : Nat} (l : List Mvx) : Lo k (eL eMv l) := zaq fun v => lo_Mv v
theorem lo_Spc (s : Spc) : Lo 0 (eSpc s) := .agg _ (zah (lo_II _) (zah (lo_Mvs _) (zah (.s _) zap)))
theorem lo_T (t : Tr) : Lo 0 (eT t) := .agg _ (zah (.s _) (zah lo_I (zah lo_I zap)))
theorem lo_N (n : Net) : Lo 0 (eN n) := .agg _ (zah (.s _) (zah (zaq fun t => lo_T t) (zah (.s _) (zah (.s _) zap))))
theorem zSA_lo : ∀ e ∈ [zSA], ∀ c ∈ e.cells, Lo 0 c := by
  intro e he c hc
  simp at he; subst he
  simp [zSA, AV.cells] at hc; rcases hc with rfl | rfl <;> exact .s _
theorem rows_lo (l : List (List Int)) : ∀ e ∈ l.map (eL eI), ∀ c ∈ e.cells, Lo 0 c := by
  intro e he c hc
  obtain ⟨x, _, rfl⟩ := List.mem_map.1 he
  simp [eL, AV.cells] at hc; subst hc; exact lo_I
theorem mvs_lo (l : List Mvx) : ∀ e ∈ l.map eMv, ∀ c ∈ e.cells, Lo 0 c := by
  intro e he c hc
  obtain ⟨x, _, rfl⟩ := List.mem_map.1 he
  simp [eMv, AV.cells, eI] at hc; rcases hc with rfl | rfl | rfl <;> exact .s _
theorem post_cs {N : Nat} {F : Frm} {σ : List Ob} {ad u : Nat} {ty : TypeId} {id sz k n bt : Nat} {z : Option Value} {ob : Ob} {cs : List AV} {e1 r1 y r2 : AV} {e : Exit} (he : e = .normal ∨ e = .ret) (ha : tyAgg P ty = some true) (hi : tyInfo P ty = some (z, n, bt)) (hp : F.get ad = .ptr id sz k 0) (hs : σ[id]? = some ob) (ho : rowOf ob = some (sz, cs)) (hk : cs[k]? = some e1) (hn : e1.cells.length = n) (hu : F.get u = y) (hr1 : Fini σ (.agg e1.cells) r1) (hr2 : Fini σ y r2) : APost P [.cell ad ty, .tmp u] (.tup [r1, r2]) e F σ :=
  ⟨he, [.agg e1.cells, y], .cons _ _ _ _ (.cells ad ty id sz k n bt z ob cs e1 ha hi hp hs ho hk hn) (.cons _ _ _ _ (.tmp u y hu) .nil), .tup _ _ rfl (FiniL.cons hr1 (FiniL.cons hr2 FiniL.nil)).2⟩
theorem post_zs {N : Nat} {F : Frm} {σ : List Ob} {ad u : Nat} {ty : TypeId} {id sz n bt : Nat} {z : Option Value} {ob : Ob} {cs : List AV} {r : Spc × Int} {m : Int} {e : Exit} (he : e = .normal ∨ e = .ret) (ha : tyAgg P ty = some true) (hi : tyInfo P ty = some (z, n, bt)) (hp : F.get ad = .ptr id sz 0 0) (hs : σ[id]? = some ob) (ho : rowOf ob = some (sz, cs)) (hk : cs[0]? = some zSA) (hn : zSA.cells.length = n) (hu : F.get u = eI m) (hr : r = (zSp, m)) : APost P [.cell ad ty, .tmp u] (eSE r) e F σ := by
  subst hr
  exact post_cs (N := 0) he ha hi hp hs ho hk hn hu (.agg _ _ rfl (FiniL.cons .nil (FiniL.cons .nil (FiniL.cons (.refl _) FiniL.nil))).2) (.refl _)
def atD (S : List (List Int)) : DataW Unit := S.zipIdx.foldl (fun D p => D.put (.string (keyL p.1)) (.lit (.int .i64 (p.2 : Nat)))) (.map [])
theorem atD_snoc (S : List (List Int)) (m : List Int) : atD (S ++ [m]) = (atD S).put (.string (keyL m)) (.lit (.int .i64 (S.length : Nat))) := by
  unfold atD
  rw [List.zipIdx_append, List.foldl_append]
  simp
theorem atD_map : ∀ (k : Nat) (S : List (List Int)), S.length = k → IsMap (atD S)
  | 0, S, h => by rw [List.eq_nil_of_length_eq_zero h]; exact isMap_empty
  | k + 1, S, h => by
    have hne : S ≠ [] := fun e => by rw [e] at h; simp at h
    rw [← List.dropLast_concat_getLast hne, atD_snoc]
    exact (atD_map k S.dropLast (by simp [h])).put _ _
def Small (m : List Int) : Prop := ∀ x ∈ m, 0 ≤ x ∧ x ≤ 255
theorem key_lit {a b : List Int} (ha : Small a) (hb : Small b) (h : a ≠ b) : Lit.string (keyL a) ≠ Lit.string (keyL b) := fun e => h (keyL_inj ha hb (by injection e))
theorem atD_no {x : List Int} (hx : Small x) : ∀ (k : Nat) (S : List (List Int)), S.length = k → (∀ y ∈ S, Small y) → x ∉ S → Maps.has (atD S) (.string (keyL x)) = false
  | 0, S, h, _, _ => by rw [List.eq_nil_of_length_eq_zero h]; rfl
  | k + 1, S, h, hs, hn => by
    have hne : S ≠ [] := fun e => by rw [e] at h; simp at h
    have e := List.dropLast_concat_getLast hne
    have hl : S.getLast hne ∈ S := List.getLast_mem hne
    rw [← e, atD_snoc, has_put_other (key_lit hx (hs _ hl) (fun e => hn (e ▸ hl)))]
    exact atD_no hx k S.dropLast (by simp [h]) (fun y hy => hs y (List.dropLast_subset _ hy)) (fun hm => hn (List.dropLast_subset _ hm))
theorem atD_yes {x : List Int} (hx : Small x) : ∀ (k : Nat) (S : List (List Int)), S.length = k → (∀ y ∈ S, Small y) → S.Nodup → x ∈ S → Maps.has (atD S) (.string (keyL x)) = true ∧ ∀ z, (atD S).atKey (.string (keyL x)) z = .lit (.int .i64 (findI S x))
  | 0, S, h, _, _, hm => by rw [List.eq_nil_of_length_eq_zero h] at hm; simp at hm
  | k + 1, S, h, hs, hnd, hm => by
    have hne : S ≠ [] := fun e => by rw [e] at h; simp at h
    have e := List.dropLast_concat_getLast hne
    have hl : S.getLast hne ∈ S := List.getLast_mem hne
    generalize S.getLast hne = y at e hl
    generalize hS : S.dropLast = T at e
    have hTl : T.length = k := by rw [← hS]; simp [h]
    subst e
    have hiM := atD_map k T hTl
    rw [atD_snoc]
    by_cases he : x = y
    · subst he
      have hnT : x ∉ T := fun hT => by
        have := List.nodup_append.1 hnd
        exact this.2.2 x hT x (by simp) rfl
      refine ⟨has_put_same hiM (show WideAt.IsKeyLit (.string _) from trivial) _, fun z => ?_⟩
      rw [atKey_put_same hiM (show WideAt.IsKeyLit (.string _) from trivial), findI_snoc_self hnT]
    · have hmT : x ∈ T := by
        rcases List.mem_append.1 hm with h1 | h1
        · exact h1
        · simp at h1; exact absurd h1 he
      obtain ⟨h1, h2⟩ := atD_yes hx k T hTl (fun z hz => hs z (List.mem_append_left _ hz)) (List.nodup_append.1 hnd).1 hmT
      have hk := key_lit hx (hs y hl) he
      refine ⟨by rw [has_put_other hk]; exact h1, fun z => ?_⟩
      rw [atKey_put_other hk, h2, findI_snoc_old hmT]
def atX (P : Program) (S : List (List Int)) : MapX := ⟨P, 9, 3, S.length, atD S⟩
theorem atX_snoc (P : Program) (S : List (List Int)) (m : List Int) : atX P (S ++ [m]) = { atX P S with n := (atX P S).n + 1, D := (atX P S).D.put (.string (keyL m)) (.lit (.int .i64 (S.length : Nat))) } := by
  unfold atX
  rw [atD_snoc]
  simp
theorem ob_mp {ρ : List Nat} {X Y : MapX} (h : X = Y) : ObRn ρ (.mp X) (.mp Y) := by subst h; exact .mp X X.n (Nat.le_refl _)
theorem wf_len {k : Nat} (h : k ≤ 2000) : (Lit.int .i64 (k : Nat)).wf = true := by
  unfold Lit.wf
  rw [Bool.and_eq_true]
  exact ⟨decide_eq_true (by show (-9223372036854775808 : Int) ≤ _; omega), decide_eq_true (by show _ ≤ (9223372036854775807 : Int); omega)⟩
def stX (P : Program) (s : Spc) : List Ob := [.row 3 [zSA], .row 3 [.agg [.own 2 1 s.st.length, .own 3 3 s.mv.length, eB s.full]], .row 1 (s.st.map (eL eI)), .row 3 (s.mv.map eMv), .mp (atX P s.st)]
set_option maxHeartbeats 4000000 in
theorem explore_pf (n : Net) (m : List Int) (most : Int) : Pure P 92 [eN n, eL eI m, eI most] (eSE (explE n m most)) := by
  have HI : explE n m most = if markB n m = true then (if most < 1 ∨ 2000 < most then (zSp, 2) else explR (expS n most (most.toNat + 1) 0 ⟨[m], [], true⟩)) else (zSp, 1) := rfl
  generalize explE n m most = R at HI ⊢
  have hE0 := enabled_pf (P := P) n m
  have hEe : (enabledE n m).2 = if markB n m = true then 0 else 1 := by unfold enabledE; split <;> rfl
  generalize enabledE n m = e0 at hE0 hEe
  have hln : Lo 0 (.ref (eN n).cells) := .ref _ (lo_N n).cells
  refine aw_fn (by rw [IsP.eq (P := P)]; exact Try.func92) rfl rfl rfl rfl rfl (zah (lo_N n) (zah lo_I (zah (.s _) zap))) (.tup _ (zah (lo_Spc _) (zah (.s _) zap))) (by simp only [argF]; rfl) ?_
  repeat (first | refine zaf ?_ | refine zak ?_ | refine zad ?_ | refine zal ?_ | refine zac ?_)
  refine zae ?_
  refine zab rfl rfl (zaa rfl) (does_box rfl rfl rfl rfl) ?_
  refine za5 (wk_froz (id := 0) rfl) (za5 (wk_ref (d := 3) rfl rfl rfl) ?_)
  refine zab rfl rfl (zaa rfl) (does_alloc rfl ti104 rfl rfl) ?_
  refine zab rfl rfl (zaa rfl) (mv_s (.inr rfl) rfl) ?_
  refine zaj ?_
  repeat (first | refine zaf ?_ | refine zak ?_ | refine zad ?_ | refine zal ?_ | refine zac ?_)
  refine zae ?_
  refine zab rfl rfl (zaa rfl) (zas rfl ta24 ti24 rfl rfl) ?_
  refine zab rfl rfl (zaa rfl) (mv_sl (.inl rfl) rfl) ?_
  refine zab rfl rfl (zaa rfl) (zav rfl rfl (hE0) (zar rfl (zar rfl za0))) ?_
  refine zab rfl rfl (zaa rfl) (mv_tup (.inl rfl) rfl) ?_
  refine zab rfl rfl (zaa rfl) (zay rfl rfl rfl) ?_
  refine zab rfl rfl (zaa rfl) (zay rfl rfl rfl) ?_
  refine zab rfl rfl (zaa rfl) (mv_sl (.inr rfl) rfl) ?_
  refine zab rfl rfl (zaa rfl) (mv_s (.inr rfl) rfl) ?_
  refine zaj ?_
  repeat (first | refine zaf ?_ | refine zak ?_ | refine zad ?_ | refine zal ?_ | refine zac ?_)
  all_goals refine zae ?_
  all_goals refine zab rfl rfl (zaa rfl) (mv_s (.inl rfl) rfl) ?_
  all_goals (refine ops_opP rfl rfl (zaa rfl) (does_neq rfl rfl rfl) (fun h28 => ?_) (fun h28 => ?_))
  all_goals refine zaj ?_
  all_goals (repeat (first | refine zaf ?_ | refine zak ?_ | refine zad ?_ | refine zal ?_ | refine zac ?_))
  all_goals (first | refine aw_true rfl ?_ | refine za6 rfl ?_)
  all_goals (repeat (first | refine zaf ?_ | refine zak ?_ | refine zad ?_ | refine zal ?_ | refine zac ?_))
  · have hmk : ¬ markB n m = true := fun h => h28 (by rw [hEe, if_pos h])
    refine zae ?_
    refine zab rfl rfl (zaa rfl) (does_build rfl ti104 tp104 rfl rfl) ?_
    refine ops_eff rfl (zaa rfl) (za7 rfl ti104 rfl rfl rfl rfl rfl rfl (by decide) (by decide)) ?_
    refine zab rfl rfl (zaa rfl) (mv_s (.inr rfl) rfl) ?_
    refine zaj ?_
    repeat (first | refine zaf ?_ | refine zak ?_ | refine zad ?_ | refine zal ?_ | refine zac ?_)
    (refine zbd ?_; repeat (first | refine ath_r ?_ | refine abl_r ?_))
    exact post_zs (N := 0) (.inr rfl) ta104 ti104 rfl rfl rfl rfl rfl rfl (by rw [HI, if_neg hmk])
  have hmk : markB n m = true := Classical.byContradiction fun h => h28 (by rw [hEe, if_neg h]; decide)
  rw [if_pos hmk] at HI
  have hml := markB_len hmk
  all_goals refine zae ?_
  all_goals refine zab rfl rfl (zaa rfl) (mv_s (.inl rfl) rfl) ?_
  all_goals (refine ops_opP rfl rfl (zaa rfl) (does_lss rfl rfl rfl) (fun h31 => ?_) (fun h31 => ?_))
  all_goals refine zab rfl rfl (zaa rfl) (mv_s (.inl rfl) rfl) ?_
  all_goals (first | refine zab rfl rfl (zau rfl rfl rfl) (mv_s (.inl rfl) rfl) ?_ | refine zaw rfl rfl (za4 rfl rfl rfl) ?_)
  all_goals (first | refine ops_opP rfl rfl (zau rfl rfl rfl) (does_gtr rfl rfl rfl) (fun h34 => ?_) (fun h34 => ?_) | refine zaw rfl rfl (za4 rfl rfl rfl) ?_)
  all_goals (first | refine zab rfl rfl (zaa rfl) (pickT_s rfl rfl rfl) ?_ | refine zab rfl rfl (zaa rfl) (pickF_s rfl rfl rfl) ?_)
  all_goals refine zaj ?_
  all_goals (repeat (first | refine zaf ?_ | refine zak ?_ | refine zad ?_ | refine zal ?_ | refine zac ?_))
  all_goals (first | refine aw_true rfl ?_ | refine za6 rfl ?_)
  all_goals (repeat (first | refine zaf ?_ | refine zak ?_ | refine zad ?_ | refine zal ?_ | refine zac ?_))
  all_goals first
    | skip
      refine zae ?_
      refine zab rfl rfl (zaa rfl) (does_build rfl ti104 tp104 rfl rfl) ?_
      refine ops_eff rfl (zaa rfl) (za7 rfl ti104 rfl rfl rfl rfl rfl rfl (by decide) (by decide)) ?_
      refine zab rfl rfl (zaa rfl) (mv_s (.inr rfl) rfl) ?_
      refine zaj ?_
      repeat (first | refine zaf ?_ | refine zak ?_ | refine zad ?_ | refine zal ?_ | refine zac ?_)
      (refine zbd ?_; repeat (first | refine ath_r ?_ | refine abl_r ?_))
      exact post_zs (N := 0) (.inr rfl) ta104 ti104 rfl rfl rfl rfl rfl rfl (by rw [HI, if_pos (by omega)])
    | skip
  rw [if_neg (by omega)] at HI
  have hc := cloneI_pf (P := P) m (by omega) hml.1
  have hk := spKey_pf (P := P) m (markB_small hmk) hml.2.1
  have hks : (keyS m).size ≤ maxLen := by rw [keyS_size]; unfold maxLen; omega
  refine zae ?_
  refine zab rfl rfl (zaa rfl) (mv_sl (.inl rfl) rfl) ?_
  refine zab rfl rfl (zaa rfl) (zav rfl rfl (hc) (zar rfl za0)) ?_
  refine zab rfl rfl (zaa rfl) (lit1_sl rfl ts101 ti30 rfl rfl rfl rfl) ?_
  refine zab rfl rfl (zaa rfl) (does_build rfl ti104 tp104 rfl rfl) ?_
  refine zab rfl rfl (zaa rfl) (does_alloc rfl ti104 rfl rfl) ?_
  refine ops_eff rfl (zaa rfl) (za7 rfl ti104 rfl rfl rfl rfl rfl rfl (by decide) (by decide)) ?_
  refine zaj ?_
  repeat (first | refine zaf ?_ | refine zak ?_ | refine zad ?_ | refine zal ?_ | refine zac ?_)
  refine zae ?_
  refine zab rfl rfl (zaa rfl) (does_mkmap rfl tm156) ?_
  refine zab rfl rfl (zaa rfl) (mv_sl (.inl rfl) rfl) ?_
  refine zab rfl rfl (zaa rfl) (zav rfl rfl (hk) (zar rfl za0)) ?_
  refine ops_eff rfl (zaa rfl) (does_mapput (.inr rfl) tm156 tK9 rfl rfl ⟨rfl, rfl, rfl⟩ (by (try dsimp only); unfold maxLen; omega) rfl rfl (keyOf_string_mk tn9 (by first | assumption | (unfold maxLen; omega))) (plainElem_int tn3 (by first | rfl | assumption))) ?_
  refine zab rfl rfl (zaa rfl) (mv_mp (.inl rfl) rfl) ?_
  refine zab rfl rfl (zaa rfl) (mv_mp (.inr rfl) rfl) ?_
  refine zaj ?_
  repeat (first | refine zaf ?_ | refine zak ?_ | refine zad ?_ | refine zal ?_ | refine zac ?_)
  refine aw_weak (wk_ownC (id := 3) (sz2 := 3) (e' := .agg [.own 2 1 1, .own 5 3 0, eB true]) (pre := [.own 2 1 1]) (post := [eB true]) rfl rfl rfl) ?_
  obtain ⟨R0, hR0⟩ : ∃ R0, expS n most (most.toNat + 1) 0 ⟨[m], [], true⟩ = R0 := ⟨_, rfl⟩
  rw [hR0] at HI
  refine zae ?_
  refine zab rfl rfl (zaa rfl) (mv_s (.inr rfl) rfl) ?_
  refine zaj ?_
  repeat (first | refine zaf ?_ | refine zak ?_ | refine zad ?_ | refine zal ?_ | refine zac ?_)
  refine aw_loops (S := Nat × Spc) (fun p => [(2, eI most), (3, .ref (eN n).cells), (6, .ptr 0 3 0 0), (10, .ptr 1 3 0 0), (11, .mp 4), (12, eI p.1)]) (fun p => stX P p.2) (fun p => SI n most p.2 ∧ p.1 ≤ p.2.st.length ∧ expS n most (most.toNat + 1 - p.1) p.1 p.2 = R0) (fun p => most.toNat + 1 - p.1) (0, ⟨[m], [], true⟩)
    (wk_st [1, 3, 2, 5, 4] (by decide) ⟨⟨_, rfl, .rowE zSA_lo rfl⟩, ⟨_, rfl, obRn_agg (.cons (.own _ _ _ _ _ rfl rfl) (.cons (.own _ _ _ _ _ rfl rfl) (.cons (.lo _ (.s _)) .nil)))⟩, ⟨_, rfl, .rowE (rows_lo _) rfl⟩, ⟨_, rfl, .rowE (by simp) rfl⟩, ⟨_, rfl, ob_mp rfl⟩, trivial⟩ ⟨.lo _ (by repeat' (first | exact Lo.s _ | exact Lo.emp | exact Lo.any | exact zap | exact zao | refine zah ?_ ?_ | refine zai ?_ ?_ | refine zaq ?_ | refine zan ?_ | refine Lo.cells ?_ | refine Lo.agg _ ?_ | refine Lo.ref _ ?_ | refine Lo.tup _ ?_ | refine Lo.fn _ _ ?_ | refine Lo.sl _ ?_ | intro _)), .lo _ hln, .ptr 1 0 3 0 0 rfl, .ptr 3 1 3 0 0 rfl, .mp 4 4 rfl, .lo _ (by repeat' (first | exact Lo.s _ | exact Lo.emp | exact Lo.any | exact zap | exact zao | refine zah ?_ ?_ | refine zai ?_ ?_ | refine zaq ?_ | refine zan ?_ | refine Lo.cells ?_ | refine Lo.agg _ ?_ | refine Lo.ref _ ?_ | refine Lo.tup _ ?_ | refine Lo.fn _ _ ?_ | refine Lo.sl _ ?_ | intro _)), trivial⟩) ⟨SI.init hmk (by omega), by simp, hR0⟩ (fun p hp => ?_)
  obtain ⟨i, s⟩ := p
  obtain ⟨hs, hi, hE⟩ := hp
  replace hi : i ≤ s.st.length := hi
  replace hE : expS n most (most.toNat + 1 - i) i s = R0 := hE
  replace hs : SI n most s := hs
  have hle : (s.st.length : Int) ≤ most := hs.le
  have hmv : s.mv.length ≤ 20000 := hs.mvs
  repeat (first | refine zaf ?_ | refine zak ?_ | refine zad ?_ | refine zal ?_ | refine zac ?_)
  all_goals refine zae ?_
  all_goals refine zab rfl rfl (zaa rfl) (mv_s (.inl rfl) rfl) ?_
  all_goals (refine zab rfl rfl (zaa rfl) (zat rfl tf104_0 (by decide) rfl) ?_)
  all_goals (refine zab rfl rfl (zaa rfl) (za3 rfl ta101 rfl rfl rfl rfl rfl) ?_)
  all_goals (refine zab rfl rfl (zaa rfl) (does_len_own rfl ts101 rfl) ?_)
  all_goals (refine ops_opP rfl rfl (zaa rfl) (does_lss rfl rfl rfl) (fun h49 => ?_) (fun h49 => ?_))
  all_goals refine zaj ?_
  all_goals (repeat (first | refine zaf ?_ | refine zak ?_ | refine zad ?_ | refine zal ?_ | refine zac ?_))
  all_goals (first | refine aw_true rfl ?_ | refine za6 rfl ?_)
  all_goals (repeat (first | refine zaf ?_ | refine zak ?_ | refine zad ?_ | refine zal ?_ | refine zac ?_))
  all_goals dsimp only at h49
  rotate_left 1
  · have e : i = s.st.length := by omega
    subst e
    have hf : most.toNat + 1 - s.st.length = most.toNat - s.st.length + 1 := by omega
    rw [hf] at hE
    unfold expS at hE
    rw [if_neg (by omega)] at hE
    rw [← hE] at HI
    replace HI : R = (s, 0) := HI
    subst HI
    (refine aw_exit ?_; repeat (first | refine ath_x ?_ | refine abl_hit ?_ | refine abl_miss rfl ?_ | refine zal ?_ | refine zak ?_ | refine zaf ?_ | refine zad ?_ | refine zac ?_))
    refine zae ?_
    refine zab rfl rfl (zaa rfl) (does_load_whole rfl ta104 ti104 rfl rfl rfl rfl rfl) ?_
    refine ops_eff rfl (zaa rfl) (za7 rfl ti104 rfl rfl rfl rfl rfl rfl (by decide) (by decide)) ?_
    refine zab rfl rfl (zaa rfl) (mv_s (.inr rfl) rfl) ?_
    refine zaj ?_
    repeat (first | refine zaf ?_ | refine zak ?_ | refine zad ?_ | refine zal ?_ | refine zac ?_)
    (refine zbd ?_; repeat (first | refine ath_r ?_ | refine abl_r ?_))
    exact post_cs (N := 0) (.inr rfl) ta104 ti104 rfl rfl rfl rfl rfl rfl (.agg _ _ rfl (FiniL.cons (.own _ _ _ _ _ rfl rfl (by simp)) (FiniL.cons (.own _ _ _ _ _ rfl rfl (by simp)) (FiniL.cons (.refl _) FiniL.nil))).2) (.refl _)
  have hlt : i < s.st.length := by omega
  have hf : most.toNat + 1 - i = most.toNat - i + 1 := by omega
  rw [hf] at hE
  unfold expS at hE
  rw [if_pos hlt] at hE
  have hx0 := hs.gti hlt
  have hxi : s.st[i]? = some (gti s.st i) := gti_get hlt
  generalize gti s.st i = x at hE hx0 hxi
  have hix : (s.st.map (eL eI))[i]? = some (eL eI x) := by rw [List.getElem?_map, hxi]; rfl
  have hon := enabled_pf (P := P) n x
  have hoe : enabledE n x = (enabledL x 0 n.trans, 0) := by unfold enabledE; rw [if_pos hx0]
  rw [hoe] at hon
  generalize enabledL x 0 n.trans = on at hE hon
  replace hon : Pure P 106 [eN n, eL eI x] (.tup [eL eI on, eI 0]) := hon
  generalize hK : expS n most (most.toNat - i) (i + 1) = K at hE
  all_goals refine aw_draw hmix ?_
  all_goals refine adraw_ex ?_
  all_goals (refine zaz rfl rfl (zaa rfl) (fun _ => (zas rfl ta24 ti24 rfl rfl)) ?_)
  all_goals (refine zaz rfl rfl (zaa rfl) (fun _ => (zat rfl tf104_0 (by decide) rfl)) ?_)
  all_goals (refine ex_look rfl rfl (zaa rfl) (look_ptr rfl ta101 rfl rfl rfl rfl rfl) ?_)
  all_goals refine zaz rfl rfl (zaa rfl) (fun _ => (mv_s (.inl rfl) rfl)) ?_
  all_goals (refine zaz rfl rfl (zaa rfl) (fun _ => (does_index_own rfl ts101 ti30 rfl rfl rfl hlt)) ?_)
  all_goals (refine ex_look rfl rfl (zaa rfl) (look_ptr rfl ta30 rfl rfl rfl hix rfl) ?_)
  all_goals refine zaz rfl rfl (zaa rfl) (fun _ => (zav rfl rfl (hon) (zar rfl (zar rfl za0)))) ?_
  all_goals (refine zaz rfl rfl (zaa rfl) (fun _ => (mv_tup (.inl rfl) rfl)) ?_)
  all_goals refine zaz rfl rfl (zaa rfl) (fun _ => (zay rfl rfl rfl)) ?_
  all_goals refine zaz rfl rfl (zaa rfl) (fun _ => (zay rfl rfl rfl)) ?_
  all_goals (refine zaz rfl rfl (zaa rfl) (fun _ => (mv_sl (.inr rfl) rfl)) ?_)
  all_goals refine zaz rfl rfl (zaa rfl) (fun _ => (mv_s (.inr rfl) rfl)) ?_
  all_goals refine ex_nil (by kernel_rfl) ?_
  all_goals (repeat (first | refine zaf ?_ | refine zak ?_ | refine zad ?_ | refine zal ?_ | refine zac ?_))
  refine zae ?_
  refine zab rfl rfl (zaa rfl) (mv_sl (.inl rfl) rfl) ?_
  refine zab rfl rfl (zaa rfl) (za2 rfl ts30 rfl) ?_
  refine zab rfl rfl (zaa rfl) (mv_s (.inl rfl) rfl) ?_
  refine zaj ?_
  repeat (first | refine zaf ?_ | refine zak ?_ | refine zad ?_ | refine zal ?_ | refine zac ?_)
  refine aw_bdm (d := 62) rfl (fun hmx => ?_)
  unfold maxLen at hmx
  refine aw_loops (S := Nat × Spc) (fun p => [(2, eI most), (3, .ref (eN n).cells), (6, .ptr 0 3 0 0), (10, .ptr 1 3 0 0), (11, .mp 4), (12, eI i), (62, eL eI on), (63, eI on.length), (64, eI p.1)]) (fun p => stX P p.2) (fun p => p.1 ≤ on.length ∧ SI n most p.2 ∧ p.2.st[i]? = some x ∧ (rowS n most i x (on.drop p.1) p.2).bind K = R0) (fun p => on.length - p.1) (0, s) (wk_sub _ ⟨rfl, rfl, rfl, rfl, rfl, rfl, rfl, rfl, rfl, trivial⟩) ⟨Nat.zero_le _, hs, hxi, hE⟩ (fun p hp => ?_)
  clear hE hs hle hmv hxi hix hlt hi hf
  obtain ⟨q, s⟩ := p
  obtain ⟨hq, hs, hxi, hE⟩ := hp
  replace hq : q ≤ on.length := hq
  replace hs : SI n most s := hs
  replace hxi : s.st[i]? = some x := hxi
  replace hE : (rowS n most i x (on.drop q) s).bind K = R0 := hE
  have hlt : i < s.st.length := (List.getElem?_eq_some_iff.1 hxi).1
  have hle : (s.st.length : Int) ≤ most := hs.le
  have hmv : s.mv.length ≤ 20000 := hs.mvs
  have hix : (s.st.map (eL eI))[i]? = some (eL eI x) := by rw [List.getElem?_map, hxi]; rfl
  have hsl : (s.st.map (eL eI)).length = s.st.length := by simp
  have hsm : (s.mv.map eMv).length = s.mv.length := by simp
  repeat (first | refine zaf ?_ | refine zak ?_ | refine zad ?_ | refine zal ?_ | refine zac ?_)
  all_goals refine zae ?_
  all_goals (refine ops_opP rfl rfl (zaa rfl) (does_lss rfl rfl rfl) (fun h65 => ?_) (fun h65 => ?_))
  all_goals refine zaj ?_
  all_goals (repeat (first | refine zaf ?_ | refine zak ?_ | refine zad ?_ | refine zal ?_ | refine zac ?_))
  all_goals (first | refine aw_true rfl ?_ | refine za6 rfl ?_)
  all_goals (repeat (first | refine zaf ?_ | refine zak ?_ | refine zad ?_ | refine zal ?_ | refine zac ?_))
  all_goals dsimp only at h65
  rotate_left 1
  · have e : q = on.length := by omega
    subst e
    rw [List.drop_length] at hE
    (refine aw_exit ?_; repeat (first | refine ath_x ?_ | refine abl_hit ?_ | refine abl_miss rfl ?_ | refine zal ?_ | refine zak ?_ | refine zaf ?_ | refine zad ?_ | refine zac ?_))
    refine zae ?_
    refine zab rfl rfl (zaa rfl) (mv_s (.inl rfl) rfl) ?_
    refine zab rfl rfl (zaa rfl) (does_add rfl rfl rfl (IntWalk.i64_in _ (by omega))) ?_
    refine zab rfl rfl (zaa rfl) (mv_s (.inr rfl) rfl) ?_
    refine zaj ?_
    repeat (first | refine zaf ?_ | refine zak ?_ | refine zad ?_ | refine zal ?_ | refine zac ?_)
    refine ⟨(i + 1, s), ⟨hs, by show i + 1 ≤ s.st.length; omega, ?_⟩, by show most.toNat + 1 - (i + 1) < most.toNat + 1 - i; omega, wk_sub _ ⟨rfl, rfl, rfl, rfl, rfl, rfl, trivial⟩⟩
    show expS n most (most.toNat + 1 - (i + 1)) (i + 1) s = R0
    rw [show most.toNat + 1 - (i + 1) = most.toNat - i by omega, hK]
    exact hE
  have hqt : q < on.length := by omega
  rw [drop_gti hqt] at hE
  have hiq : (on.map eI)[q]? = some (eI (gti on q)) := ix_map hqt
  generalize gti on q = t at hE hiq
  have hF := Fire_pf (P := P) n x t
  have hFm := fun h => FireE_mark (t := t) hx0 h
  have hst : (rowS n most i x (t :: on.drop (q + 1)) s) = (xstS most i s (FireE n x t) t).bind (rowS n most i x (on.drop (q + 1))) := rfl
  rw [hst] at hE
  have hSI := fun s' h => SI.step (i := i) (t := t) (s' := s') hs hx0 h
  generalize FireE n x t = r at hE hF hFm hSI
  have key : ∀ s', xstS most i s r t = some s' → SI n most s' ∧ (rowS n most i x (on.drop (q + 1)) s').bind K = R0 := fun s' h => ⟨hSI s' h, by rw [h] at hE; exact hE⟩
  refine zae ?_
  refine zab rfl rfl (zaa rfl) (za1 rfl ts30 ti3 rfl rfl rfl hiq rfl) ?_
  refine zab rfl rfl (zaa rfl) (zam rfl ta3 rfl) ?_
  refine zab rfl rfl (zaa rfl) (mv_s (.inr rfl) rfl) ?_
  refine zaj ?_
  repeat (first | refine zaf ?_ | refine zak ?_ | refine zad ?_ | refine zal ?_ | refine zac ?_)
  all_goals refine aw_draw hmix ?_
  all_goals refine adraw_ex ?_
  all_goals (refine zaz rfl rfl (zaa rfl) (fun _ => (zas rfl ta24 ti24 rfl rfl)) ?_)
  all_goals (refine zaz rfl rfl (zaa rfl) (fun _ => (zat rfl tf104_0 (by decide) rfl)) ?_)
  all_goals (refine ex_look rfl rfl (zaa rfl) (look_ptr rfl ta101 rfl rfl rfl rfl rfl) ?_)
  all_goals refine zaz rfl rfl (zaa rfl) (fun _ => (mv_s (.inl rfl) rfl)) ?_
  all_goals (refine zaz rfl rfl (zaa rfl) (fun _ => (does_index_own rfl ts101 ti30 rfl rfl rfl hlt)) ?_)
  all_goals (refine ex_look rfl rfl (zaa rfl) (look_ptr rfl ta30 rfl rfl rfl hix rfl) ?_)
  all_goals refine zaz rfl rfl (zaa rfl) (fun _ => (mv_s (.inl rfl) rfl)) ?_
  all_goals refine zaz rfl rfl (zaa rfl) (fun _ => (zav rfl rfl (hF) (zar rfl (zar rfl (zar rfl za0))))) ?_
  all_goals (refine zaz rfl rfl (zaa rfl) (fun _ => (mv_tup (.inl rfl) rfl)) ?_)
  all_goals refine zaz rfl rfl (zaa rfl) (fun _ => (zay rfl rfl rfl)) ?_
  all_goals refine zaz rfl rfl (zaa rfl) (fun _ => (zay rfl rfl rfl)) ?_
  all_goals (refine zaz rfl rfl (zaa rfl) (fun _ => (mv_sl (.inr rfl) rfl)) ?_)
  all_goals refine zaz rfl rfl (zaa rfl) (fun _ => (mv_s (.inr rfl) rfl)) ?_
  all_goals refine ex_nil (by kernel_rfl) ?_
  all_goals (repeat (first | refine zaf ?_ | refine zak ?_ | refine zad ?_ | refine zal ?_ | refine zac ?_))
  all_goals refine zae ?_
  all_goals refine zab rfl rfl (zaa rfl) (mv_s (.inl rfl) rfl) ?_
  all_goals (refine ops_opP rfl rfl (zaa rfl) (does_neq rfl rfl rfl) (fun h80 => ?_) (fun h80 => ?_))
  all_goals refine zaj ?_
  all_goals (repeat (first | refine zaf ?_ | refine zak ?_ | refine zad ?_ | refine zal ?_ | refine zac ?_))
  all_goals (first | refine aw_true rfl ?_ | refine za6 rfl ?_)
  all_goals (repeat (first | refine zaf ?_ | refine zak ?_ | refine zad ?_ | refine zal ?_ | refine zac ?_))
  · have hstep : xstS most i s r t = some ⟨s.st, s.mv, false⟩ := by unfold xstS; rw [if_pos (.inl h80)]
    obtain ⟨g1, g2⟩ := key _ hstep
    refine zae ?_
    refine zab rfl rfl (zaa rfl) (zat rfl tf104_2 (by decide) rfl) ?_
    refine ops_eff rfl (zaa rfl) (za7 rfl ti4 rfl rfl rfl rfl rfl rfl (by decide) (by decide)) ?_
    refine zaj ?_
    repeat (first | refine zaf ?_ | refine zak ?_ | refine zad ?_ | refine zal ?_ | refine zac ?_)
    (refine aw_exit ?_; repeat (first | refine ath_x ?_ | refine abl_hit ?_ | refine abl_miss rfl ?_ | refine zal ?_ | refine zak ?_ | refine zaf ?_ | refine zad ?_ | refine zac ?_))
    refine zae ?_
    refine zab rfl rfl (zaa rfl) (does_add rfl rfl rfl (IntWalk.i64_in _ (by omega))) ?_
    refine zab rfl rfl (zaa rfl) (mv_s (.inl rfl) rfl) ?_
    refine zaj ?_
    repeat (first | refine zaf ?_ | refine zak ?_ | refine zad ?_ | refine zal ?_ | refine zac ?_)
    exact ⟨(q + 1, ⟨s.st, s.mv, false⟩), ⟨by show q + 1 ≤ on.length; omega, g1, hxi, g2⟩, by show on.length - (q + 1) < on.length - q; omega, wk_sub _ ⟨rfl, rfl, rfl, rfl, rfl, rfl, rfl, rfl, rfl, trivial⟩⟩
  have hr2 : r.2 = 0 := Classical.byContradiction fun h => h80 h
  have hmr := hFm hr2
  have hmrl := markB_len hmr
  have hsmr := markB_small hmr
  have hk2 := spKey_pf (P := P) r.1 hsmr hmrl.2.1
  have hks2 : (keyS r.1).size ≤ maxLen := by rw [keyS_size]; unfold maxLen; omega
  have hsms : ∀ y ∈ s.st, Small y := fun y hy => markB_small (hs.marks y hy)
  by_cases hf : findI s.st r.1 < 0
  · have hno := atD_no hsmr _ s.st rfl hsms (findI_neg.1 hf)
    all_goals refine zae ?_
    all_goals (refine zab rfl rfl (zaa rfl) (mv_mp (.inl rfl) rfl) ?_)
    all_goals (refine zab rfl rfl (zaa rfl) (mv_sl (.inl rfl) rfl) ?_)
    all_goals refine zab rfl rfl (zaa rfl) (zav rfl rfl (hk2) (zar rfl za0)) ?_
    all_goals refine zab rfl rfl (zaa rfl) (does_lookupC rfl tm156 tK9 rfl rfl ⟨rfl, rfl, rfl⟩ rfl (keyOf_string_mk tn9 hks2) ti3 (plainElem_int tn3 rfl) (by exact atKey_of_not_has hno _) hno) ?_
    all_goals (refine zab rfl rfl (zaa rfl) (mv_tup (.inl rfl) rfl) ?_)
    all_goals refine zab rfl rfl (zaa rfl) (zay rfl rfl rfl) ?_
    all_goals refine zab rfl rfl (zaa rfl) (zay rfl rfl rfl) ?_
    all_goals refine zab rfl rfl (zaa rfl) (mv_s (.inr rfl) rfl) ?_
    all_goals refine zab rfl rfl (zaa rfl) (mv_s (.inr rfl) rfl) ?_
    all_goals refine zaj ?_
    all_goals (repeat (first | refine zaf ?_ | refine zak ?_ | refine zad ?_ | refine zal ?_ | refine zac ?_))
    all_goals refine zae ?_
    all_goals refine zab rfl rfl (zaa rfl) (mv_s (.inl rfl) rfl) ?_
    all_goals (refine zab rfl rfl (zaa rfl) (does_not rfl rfl) ?_)
    all_goals refine zaj ?_
    all_goals (repeat (first | refine zaf ?_ | refine zak ?_ | refine zad ?_ | refine zal ?_ | refine zac ?_))
    all_goals (refine aw_true rfl ?_)
    all_goals (repeat (first | refine zaf ?_ | refine zak ?_ | refine zad ?_ | refine zal ?_ | refine zac ?_))
    all_goals refine zae ?_
    all_goals (refine zab rfl rfl (zaa rfl) (zat rfl tf104_0 (by decide) rfl) ?_)
    all_goals (refine zab rfl rfl (zaa rfl) (za3 rfl ta101 rfl rfl rfl rfl rfl) ?_)
    all_goals (refine zab rfl rfl (zaa rfl) (does_len_own rfl ts101 rfl) ?_)
    all_goals refine zab rfl rfl (zaa rfl) (mv_s (.inl rfl) rfl) ?_
    all_goals (refine ops_opP rfl rfl (zaa rfl) (does_geq rfl rfl rfl) (fun h95 => ?_) (fun h95 => ?_))
    all_goals refine zaj ?_
    all_goals (repeat (first | refine zaf ?_ | refine zak ?_ | refine zad ?_ | refine zal ?_ | refine zac ?_))
    all_goals (first | refine aw_true rfl ?_ | refine za6 rfl ?_)
    all_goals (repeat (first | refine zaf ?_ | refine zak ?_ | refine zad ?_ | refine zal ?_ | refine zac ?_))
    all_goals dsimp only at h95
    · have hstep : xstS most i s r t = some ⟨s.st, s.mv, false⟩ := by unfold xstS; rw [if_pos (.inr ⟨hf, by omega⟩)]
      obtain ⟨g1, g2⟩ := key _ hstep
      refine zae ?_
      refine zab rfl rfl (zaa rfl) (zat rfl tf104_2 (by decide) rfl) ?_
      refine ops_eff rfl (zaa rfl) (za7 rfl ti4 rfl rfl rfl rfl rfl rfl (by decide) (by decide)) ?_
      refine zaj ?_
      repeat (first | refine zaf ?_ | refine zak ?_ | refine zad ?_ | refine zal ?_ | refine zac ?_)
      (refine aw_exit ?_; repeat (first | refine ath_x ?_ | refine abl_hit ?_ | refine abl_miss rfl ?_ | refine zal ?_ | refine zak ?_ | refine zaf ?_ | refine zad ?_ | refine zac ?_))
      refine zae ?_
      refine zab rfl rfl (zaa rfl) (does_add rfl rfl rfl (IntWalk.i64_in _ (by omega))) ?_
      refine zab rfl rfl (zaa rfl) (mv_s (.inl rfl) rfl) ?_
      refine zaj ?_
      repeat (first | refine zaf ?_ | refine zak ?_ | refine zad ?_ | refine zal ?_ | refine zac ?_)
      exact ⟨(q + 1, ⟨s.st, s.mv, false⟩), ⟨by show q + 1 ≤ on.length; omega, g1, hxi, g2⟩, by show on.length - (q + 1) < on.length - q; omega, wk_sub _ ⟨rfl, rfl, rfl, rfl, rfl, rfl, rfl, rfl, rfl, trivial⟩⟩
    · have hwf := wf_len (k := s.st.length) (by omega)
      refine zae ?_
      refine zab rfl rfl (zaa rfl) (zat rfl tf104_0 (by decide) rfl) ?_
      refine zab rfl rfl (zaa rfl) (za3 rfl ta101 rfl rfl rfl rfl rfl) ?_
      refine zab rfl rfl (zaa rfl) (does_len_own rfl ts101 rfl) ?_
      refine zab rfl rfl (zaa rfl) (mv_s (.inr rfl) rfl) ?_
      refine zaj ?_
      repeat (first | refine zaf ?_ | refine zak ?_ | refine zad ?_ | refine zal ?_ | refine zac ?_)
      refine zae ?_
      refine zab rfl rfl (zaa rfl) (mv_mp (.inl rfl) rfl) ?_
      refine zab rfl rfl (zaa rfl) (mv_sl (.inl rfl) rfl) ?_
      refine zab rfl rfl (zaa rfl) (zav rfl rfl (hk2) (zar rfl za0)) ?_
      refine zab rfl rfl (zaa rfl) (mv_s (.inl rfl) rfl) ?_
      refine ops_eff rfl (zaa rfl) (does_mapput (.inl rfl) tm156 tK9 rfl rfl ⟨rfl, rfl, rfl⟩ (by show s.st.length < maxLen; unfold maxLen; omega) rfl rfl (keyOf_string_mk tn9 (by first | assumption | (unfold maxLen; omega))) (plainElem_int tn3 (by first | rfl | assumption))) ?_
      refine zaj ?_
      repeat (first | refine zaf ?_ | refine zak ?_ | refine zad ?_ | refine zal ?_ | refine zac ?_)
      refine zae ?_
      refine zab rfl rfl (zaa rfl) (zat rfl tf104_0 (by decide) rfl) ?_
      refine zab rfl rfl (zaa rfl) (za3 rfl ta101 rfl rfl rfl rfl rfl) ?_
      refine zab rfl rfl (zaa rfl) (mv_sl (.inl rfl) rfl) ?_
      refine zab rfl rfl (zaa rfl) (lit1_slF rfl ts101 ti30 rfl rfl rfl rfl (by repeat' (first | exact Lo.s _ | exact Lo.emp | exact Lo.any | exact zap | exact zao | refine zah ?_ ?_ | refine zai ?_ ?_ | refine zaq ?_ | refine zan ?_ | refine Lo.cells ?_ | refine Lo.agg _ ?_ | refine Lo.ref _ ?_ | refine Lo.tup _ ?_ | refine Lo.fn _ _ ?_ | refine Lo.sl _ ?_ | intro _))) ?_
      refine zab rfl rfl (zaa rfl) (does_append rfl ts101 ti30 rfl (by decide) rfl rfl (by first | rfl | (simp; done) | (simp; omega)) rfl (by first | exact .own _ _ _ rfl rfl _ (by first | rfl | simp) | exact .emp | exact .nil | exact .sl _ (by first | simp; done | intro e he; simp at he; obtain ⟨_, _, rfl⟩ := he; rfl)) (by first | omega | (simp; omega) | (unfold maxLen; simp; omega)) (by first | omega | (simp; omega) | (unfold maxLen; simp; omega))) ?_
      refine zab rfl rfl (zaa rfl) (zat rfl tf104_0 (by decide) rfl) ?_
      refine ops_eff rfl (zaa rfl) (za7 rfl ti101 rfl rfl rfl rfl rfl rfl (by decide) (by decide)) ?_
      refine zaj ?_
      repeat (first | refine zaf ?_ | refine zak ?_ | refine zad ?_ | refine zal ?_ | refine zac ?_)
      refine zae ?_
      refine zab rfl rfl (zaa rfl) (zat rfl tf104_1 (by decide) rfl) ?_
      refine zab rfl rfl (zaa rfl) (za3 rfl ta102 rfl rfl rfl rfl rfl) ?_
      refine zab rfl rfl (zaa rfl) (mv_s (.inl rfl) rfl) ?_
      refine zab rfl rfl (zaa rfl) (mv_s (.inl rfl) rfl) ?_
      refine zab rfl rfl (zaa rfl) (mv_s (.inl rfl) rfl) ?_
      refine zab rfl rfl (zaa rfl) (does_build rfl ti146 tp146 rfl rfl) ?_
      refine zab rfl rfl (zaa rfl) (does_litAF rfl ts102 ti146 rfl rfl (by decide) (by decide) rfl rfl rfl (by repeat' (first | exact Lo.s _ | exact Lo.emp | exact Lo.any | exact zap | exact zao | refine zah ?_ ?_ | refine zai ?_ ?_ | refine zaq ?_ | refine zan ?_ | refine Lo.cells ?_ | refine Lo.agg _ ?_ | refine Lo.ref _ ?_ | refine Lo.tup _ ?_ | refine Lo.fn _ _ ?_ | refine Lo.sl _ ?_ | intro _))) ?_
      refine zab rfl rfl (zaa rfl) (does_append rfl ts102 ti146 rfl (by decide) rfl rfl (by first | rfl | (simp; done) | (simp; omega)) rfl (by first | exact .own _ _ _ rfl rfl _ (by first | rfl | simp) | exact .emp | exact .nil | exact .sl _ (by first | simp; done | intro e he; simp at he; obtain ⟨_, _, rfl⟩ := he; rfl)) (by first | omega | (simp; omega) | (unfold maxLen; simp; omega)) (by first | omega | (simp; omega) | (unfold maxLen; simp; omega))) ?_
      refine zab rfl rfl (zaa rfl) (zat rfl tf104_1 (by decide) rfl) ?_
      refine ops_eff rfl (zaa rfl) (za7 rfl ti102 rfl rfl rfl rfl rfl rfl (by decide) (by decide)) ?_
      refine zaj ?_
      repeat (first | refine zaf ?_ | refine zak ?_ | refine zad ?_ | refine zal ?_ | refine zac ?_)
      have hrow : (s.st ++ [r.1]).map (eL eI) = s.st.map (eL eI) ++ [eL eI r.1] := by simp
      have hmrow : (s.mv ++ [(⟨i, s.st.length, t⟩ : Mvx)]).map eMv = s.mv.map eMv ++ [eMv ⟨i, s.st.length, t⟩] := by simp
      all_goals refine zae ?_
      all_goals (refine zab rfl rfl (zaa rfl) (zat rfl tf104_1 (by decide) rfl) ?_)
      all_goals (refine zab rfl rfl (zaa rfl) (za3 rfl ta102 rfl rfl rfl rfl rfl) ?_)
      all_goals (refine zab rfl rfl (zaa rfl) (does_len_own rfl ts102 rfl) ?_)
      all_goals (refine ops_opP rfl rfl (zaa rfl) (does_gtr rfl rfl rfl) (fun h122 => ?_) (fun h122 => ?_))
      all_goals refine zaj ?_
      all_goals (repeat (first | refine zaf ?_ | refine zak ?_ | refine zad ?_ | refine zal ?_ | refine zac ?_))
      all_goals (first | refine aw_true rfl ?_ | refine za6 rfl ?_)
      all_goals (repeat (first | refine zaf ?_ | refine zak ?_ | refine zad ?_ | refine zal ?_ | refine zac ?_))
      all_goals dsimp only at h122
      all_goals try simp only [List.length_cons, List.length_nil] at h122
      · have hstep : xstS most i s r t = none := by unfold xstS; rw [if_neg (by rintro (h | h) <;> omega), if_pos (by omega)]
        refine zae ?_
        refine zab rfl rfl (zaa rfl) (does_build rfl ti104 tp104 rfl rfl) ?_
        refine ops_eff rfl (zaa rfl) (za7 rfl ti104 rfl rfl rfl rfl rfl rfl (by decide) (by decide)) ?_
        refine zab rfl rfl (zaa rfl) (mv_s (.inr rfl) rfl) ?_
        refine zaj ?_
        repeat (first | refine zaf ?_ | refine zak ?_ | refine zad ?_ | refine zal ?_ | refine zac ?_)
        (refine zbd ?_; repeat (first | refine ath_r ?_ | refine abl_r ?_))
        exact post_zs (N := 0) (.inr rfl) ta104 ti104 rfl rfl rfl rfl rfl rfl (by rw [HI, ← hE, hstep]; rfl)
      · have hstep : xstS most i s r t = some ⟨s.st ++ [r.1], s.mv ++ [(⟨i, s.st.length, t⟩ : Mvx)], s.full⟩ := by
          unfold xstS
          rw [if_neg (by rintro (h | h) <;> omega), if_neg (by omega)]
          simp only [if_pos hf]
        obtain ⟨g1, g2⟩ := key _ hstep
        refine zae ?_
        refine zab rfl rfl (zaa rfl) (does_add rfl rfl rfl (IntWalk.i64_in _ (by omega))) ?_
        refine zab rfl rfl (zaa rfl) (mv_s (.inl rfl) rfl) ?_
        refine zaj ?_
        repeat (first | refine zaf ?_ | refine zak ?_ | refine zad ?_ | refine zal ?_ | refine zac ?_)
        exact ⟨(q + 1, ⟨s.st ++ [r.1], s.mv ++ [(⟨i, s.st.length, t⟩ : Mvx)], s.full⟩), ⟨by show q + 1 ≤ on.length; omega, g1, by (try rw [List.getElem?_append_left hlt]); exact hxi, g2⟩, by show on.length - (q + 1) < on.length - q; omega,
          wk_st [0, 1, 5, 6, 4] (by decide) ⟨⟨_, rfl, .rowE zSA_lo rfl⟩, ⟨_, rfl, obRn_agg (.cons (.own _ _ _ _ _ rfl (by simp)) (.cons (.own _ _ _ _ _ rfl (by simp)) (.cons (.lo _ (.s _)) .nil)))⟩, ⟨_, rfl, .rowE (rows_lo _) hrow.symm⟩, ⟨_, rfl, .rowE (mvs_lo _) hmrow.symm⟩, ⟨_, rfl, ob_mp (atX_snoc P s.st r.1).symm⟩, trivial⟩ ⟨.lo _ (by repeat' (first | exact Lo.s _ | exact Lo.emp | exact Lo.any | exact zap | exact zao | refine zah ?_ ?_ | refine zai ?_ ?_ | refine zaq ?_ | refine zan ?_ | refine Lo.cells ?_ | refine Lo.agg _ ?_ | refine Lo.ref _ ?_ | refine Lo.tup _ ?_ | refine Lo.fn _ _ ?_ | refine Lo.sl _ ?_ | intro _)), .lo _ hln, .ptr 0 0 3 0 0 rfl, .ptr 1 1 3 0 0 rfl, .mp 4 4 rfl, .lo _ (by repeat' (first | exact Lo.s _ | exact Lo.emp | exact Lo.any | exact zap | exact zao | refine zah ?_ ?_ | refine zai ?_ ?_ | refine zaq ?_ | refine zan ?_ | refine Lo.cells ?_ | refine Lo.agg _ ?_ | refine Lo.ref _ ?_ | refine Lo.tup _ ?_ | refine Lo.fn _ _ ?_ | refine Lo.sl _ ?_ | intro _)), .lo _ lo_I, .lo _ (by repeat' (first | exact Lo.s _ | exact Lo.emp | exact Lo.any | exact zap | exact zao | refine zah ?_ ?_ | refine zai ?_ ?_ | refine zaq ?_ | refine zan ?_ | refine Lo.cells ?_ | refine Lo.agg _ ?_ | refine Lo.ref _ ?_ | refine Lo.tup _ ?_ | refine Lo.fn _ _ ?_ | refine Lo.sl _ ?_ | intro _)), .lo _ (by repeat' (first | exact Lo.s _ | exact Lo.emp | exact Lo.any | exact zap | exact zao | refine zah ?_ ?_ | refine zai ?_ ?_ | refine zaq ?_ | refine zan ?_ | refine Lo.cells ?_ | refine Lo.agg _ ?_ | refine Lo.ref _ ?_ | refine Lo.tup _ ?_ | refine Lo.fn _ _ ?_ | refine Lo.sl _ ?_ | intro _)), trivial⟩⟩
  · have hmem : r.1 ∈ s.st := Classical.byContradiction fun h => hf (findI_neg.2 h)
    obtain ⟨hyes, hat⟩ := atD_yes hsmr _ s.st rfl hsms hs.nd hmem
    have hmrow : (s.mv ++ [(⟨i, findI s.st r.1, t⟩ : Mvx)]).map eMv = s.mv.map eMv ++ [eMv ⟨i, findI s.st r.1, t⟩] := by simp
    all_goals refine zae ?_
    all_goals (refine zab rfl rfl (zaa rfl) (mv_mp (.inl rfl) rfl) ?_)
    all_goals (refine zab rfl rfl (zaa rfl) (mv_sl (.inl rfl) rfl) ?_)
    all_goals refine zab rfl rfl (zaa rfl) (zav rfl rfl (hk2) (zar rfl za0)) ?_
    all_goals refine zab rfl rfl (zaa rfl) (does_lookupC rfl tm156 tK9 rfl rfl ⟨rfl, rfl, rfl⟩ rfl (keyOf_string_mk tn9 hks2) ti3 (plainElem_int tn3 rfl) (by exact hat _) hyes) ?_
    all_goals (refine zab rfl rfl (zaa rfl) (mv_tup (.inl rfl) rfl) ?_)
    all_goals refine zab rfl rfl (zaa rfl) (zay rfl rfl rfl) ?_
    all_goals refine zab rfl rfl (zaa rfl) (zay rfl rfl rfl) ?_
    all_goals refine zab rfl rfl (zaa rfl) (mv_s (.inr rfl) rfl) ?_
    all_goals refine zab rfl rfl (zaa rfl) (mv_s (.inr rfl) rfl) ?_
    all_goals refine zaj ?_
    all_goals (repeat (first | refine zaf ?_ | refine zak ?_ | refine zad ?_ | refine zal ?_ | refine zac ?_))
    all_goals refine zae ?_
    all_goals refine zab rfl rfl (zaa rfl) (mv_s (.inl rfl) rfl) ?_
    all_goals (refine zab rfl rfl (zaa rfl) (does_not rfl rfl) ?_)
    all_goals refine zaj ?_
    all_goals (repeat (first | refine zaf ?_ | refine zak ?_ | refine zad ?_ | refine zal ?_ | refine zac ?_))
    all_goals (refine za6 rfl ?_)
    all_goals (repeat (first | refine zaf ?_ | refine zak ?_ | refine zad ?_ | refine zal ?_ | refine zac ?_))
    refine zae ?_
    refine zab rfl rfl (zaa rfl) (zat rfl tf104_1 (by decide) rfl) ?_
    refine zab rfl rfl (zaa rfl) (za3 rfl ta102 rfl rfl rfl rfl rfl) ?_
    refine zab rfl rfl (zaa rfl) (mv_s (.inl rfl) rfl) ?_
    refine zab rfl rfl (zaa rfl) (mv_s (.inl rfl) rfl) ?_
    refine zab rfl rfl (zaa rfl) (mv_s (.inl rfl) rfl) ?_
    refine zab rfl rfl (zaa rfl) (does_build rfl ti146 tp146 rfl rfl) ?_
    refine zab rfl rfl (zaa rfl) (does_litAF rfl ts102 ti146 rfl rfl (by decide) (by decide) rfl rfl rfl (by repeat' (first | exact Lo.s _ | exact Lo.emp | exact Lo.any | exact zap | exact zao | refine zah ?_ ?_ | refine zai ?_ ?_ | refine zaq ?_ | refine zan ?_ | refine Lo.cells ?_ | refine Lo.agg _ ?_ | refine Lo.ref _ ?_ | refine Lo.tup _ ?_ | refine Lo.fn _ _ ?_ | refine Lo.sl _ ?_ | intro _))) ?_
    refine zab rfl rfl (zaa rfl) (does_append rfl ts102 ti146 rfl (by decide) rfl rfl (by first | rfl | (simp; done) | (simp; omega)) rfl (by first | exact .own _ _ _ rfl rfl _ (by first | rfl | simp) | exact .emp | exact .nil | exact .sl _ (by first | simp; done | intro e he; simp at he; obtain ⟨_, _, rfl⟩ := he; rfl)) (by first | omega | (simp; omega) | (unfold maxLen; simp; omega)) (by first | omega | (simp; omega) | (unfold maxLen; simp; omega))) ?_
    refine zab rfl rfl (zaa rfl) (zat rfl tf104_1 (by decide) rfl) ?_
    refine ops_eff rfl (zaa rfl) (za7 rfl ti102 rfl rfl rfl rfl rfl rfl (by decide) (by decide)) ?_
    refine zaj ?_
    repeat (first | refine zaf ?_ | refine zak ?_ | refine zad ?_ | refine zal ?_ | refine zac ?_)
    all_goals refine zae ?_
    all_goals (refine zab rfl rfl (zaa rfl) (zat rfl tf104_1 (by decide) rfl) ?_)
    all_goals (refine zab rfl rfl (zaa rfl) (za3 rfl ta102 rfl rfl rfl rfl rfl) ?_)
    all_goals (refine zab rfl rfl (zaa rfl) (does_len_own rfl ts102 rfl) ?_)
    all_goals (refine ops_opP rfl rfl (zaa rfl) (does_gtr rfl rfl rfl) (fun h122 => ?_) (fun h122 => ?_))
    all_goals refine zaj ?_
    all_goals (repeat (first | refine zaf ?_ | refine zak ?_ | refine zad ?_ | refine zal ?_ | refine zac ?_))
    all_goals (first | refine aw_true rfl ?_ | refine za6 rfl ?_)
    all_goals (repeat (first | refine zaf ?_ | refine zak ?_ | refine zad ?_ | refine zal ?_ | refine zac ?_))
    all_goals dsimp only at h122
    all_goals try simp only [List.length_cons, List.length_nil] at h122
    · have hstep : xstS most i s r t = none := by unfold xstS; rw [if_neg (by rintro (h | h) <;> omega), if_pos (by omega)]
      refine zae ?_
      refine zab rfl rfl (zaa rfl) (does_build rfl ti104 tp104 rfl rfl) ?_
      refine ops_eff rfl (zaa rfl) (za7 rfl ti104 rfl rfl rfl rfl rfl rfl (by decide) (by decide)) ?_
      refine zab rfl rfl (zaa rfl) (mv_s (.inr rfl) rfl) ?_
      refine zaj ?_
      repeat (first | refine zaf ?_ | refine zak ?_ | refine zad ?_ | refine zal ?_ | refine zac ?_)
      (refine zbd ?_; repeat (first | refine ath_r ?_ | refine abl_r ?_))
      exact post_zs (N := 0) (.inr rfl) ta104 ti104 rfl rfl rfl rfl rfl rfl (by rw [HI, ← hE, hstep]; rfl)
    · have hstep : xstS most i s r t = some ⟨s.st, s.mv ++ [(⟨i, findI s.st r.1, t⟩ : Mvx)], s.full⟩ := by
        unfold xstS
        rw [if_neg (by rintro (h | h) <;> omega), if_neg (by omega)]
        simp only [if_neg hf]
      obtain ⟨g1, g2⟩ := key _ hstep
      refine zae ?_
      refine zab rfl rfl (zaa rfl) (does_add rfl rfl rfl (IntWalk.i64_in _ (by omega))) ?_
      refine zab rfl rfl (zaa rfl) (mv_s (.inl rfl) rfl) ?_
      refine zaj ?_
      repeat (first | refine zaf ?_ | refine zak ?_ | refine zad ?_ | refine zal ?_ | refine zac ?_)
      exact ⟨(q + 1, ⟨s.st, s.mv ++ [(⟨i, findI s.st r.1, t⟩ : Mvx)], s.full⟩), ⟨by show q + 1 ≤ on.length; omega, g1, by (try rw [List.getElem?_append_left hlt]); exact hxi, g2⟩, by show on.length - (q + 1) < on.length - q; omega,
        wk_st [0, 1, 2, 5, 4] (by decide) ⟨⟨_, rfl, .rowE zSA_lo rfl⟩, ⟨_, rfl, obRn_agg (.cons (.own _ _ _ _ _ rfl (by simp)) (.cons (.own _ _ _ _ _ rfl (by simp)) (.cons (.lo _ (.s _)) .nil)))⟩, ⟨_, rfl, .rowE (rows_lo _) rfl⟩, ⟨_, rfl, .rowE (mvs_lo _) hmrow.symm⟩, ⟨_, rfl, ob_mp rfl⟩, trivial⟩ ⟨.lo _ (by repeat' (first | exact Lo.s _ | exact Lo.emp | exact Lo.any | exact zap | exact zao | refine zah ?_ ?_ | refine zai ?_ ?_ | refine zaq ?_ | refine zan ?_ | refine Lo.cells ?_ | refine Lo.agg _ ?_ | refine Lo.ref _ ?_ | refine Lo.tup _ ?_ | refine Lo.fn _ _ ?_ | refine Lo.sl _ ?_ | intro _)), .lo _ hln, .ptr 0 0 3 0 0 rfl, .ptr 1 1 3 0 0 rfl, .mp 4 4 rfl, .lo _ (by repeat' (first | exact Lo.s _ | exact Lo.emp | exact Lo.any | exact zap | exact zao | refine zah ?_ ?_ | refine zai ?_ ?_ | refine zaq ?_ | refine zan ?_ | refine Lo.cells ?_ | refine Lo.agg _ ?_ | refine Lo.ref _ ?_ | refine Lo.tup _ ?_ | refine Lo.fn _ _ ?_ | refine Lo.sl _ ?_ | intro _)), .lo _ lo_I, .lo _ (by repeat' (first | exact Lo.s _ | exact Lo.emp | exact Lo.any | exact zap | exact zao | refine zah ?_ ?_ | refine zai ?_ ?_ | refine zaq ?_ | refine zan ?_ | refine Lo.cells ?_ | refine Lo.agg _ ?_ | refine Lo.ref _ ?_ | refine Lo.tup _ ?_ | refine Lo.fn _ _ ?_ | refine Lo.sl _ ?_ | intro _)), .lo _ (by repeat' (first | exact Lo.s _ | exact Lo.emp | exact Lo.any | exact zap | exact zao | refine zah ?_ ?_ | refine zai ?_ ?_ | refine zaq ?_ | refine zan ?_ | refine Lo.cells ?_ | refine Lo.agg _ ?_ | refine Lo.ref _ ?_ | refine Lo.tup _ ?_ | refine Lo.fn _ _ ?_ | refine Lo.sl _ ?_ | intro _)), trivial⟩⟩
end Go.Proofs.Ytmhbfoaecebobaa.Aw
end
section
namespace Go.Proofs.Ytmhbfoaecebobaa.Aw
set_option linter.unusedSimpArgs false
set_option linter.unusedVariables false
set_option linter.unusedSectionVars false
open Go Go.RowKit Go.Proofs
variable {P : Program} [IsP P]
theorem rowI_lo (l : List Int) : ∀ e ∈ l.map eI, ∀ c ∈ e.cells, Lo 0 c := by
  intro e he c hc
  obtain ⟨x, _, rfl⟩ := List.mem_map.1 he
  simp [eI, AV.cells] at hc; subst hc; exact .s _
end Go.Proofs.Ytmhbfoaecebobaa.Aw
end
section
namespace Go.Proofs.Ytmhbfoaecebobaa.Aw
set_option linter.unusedSimpArgs false
set_option linter.unusedVariables false
set_option linter.unusedSectionVars false
open Go Go.RowKit Go.Proofs
variable {P : Program} [IsP P]
end Go.Proofs.Ytmhbfoaecebobaa.Aw
end
section
namespace Go.Proofs.Ytmhbfoaecebobaa.Aw
set_option linter.unusedSimpArgs false
set_option linter.unusedVariables false
set_option linter.unusedSectionVars false
open Go Go.RowKit Go.Proofs
variable {P : Program} [IsP P]
instance : DecidableEq Mvx := fun a b => decidable_of_iff (a.fr = b.fr ∧ a.tt = b.tt ∧ a.sym = b.sym) ⟨fun h => by cases a; cases b; simp_all, fun h => by subst h; exact ⟨rfl, rfl, rfl⟩⟩
end Go.Proofs.Ytmhbfoaecebobaa.Aw
end
section
namespace Go.Proofs.Ytmhbfoaecebobaa.Aw
set_option linter.unusedSimpArgs false
set_option linter.unusedVariables false
set_option linter.unusedSectionVars false
open Go Go.RowKit Go.Proofs
variable {P : Program} [IsP P]
theorem rowS_SI {n : Net} {most : Int} {i : Nat} {x : List Int} (hx : markB n x = true) : ∀ (on : List Int) (s s' : Spc), SI n most s → rowS n most i x on s = some s' → SI n most s' ∧ s.st.length ≤ s'.st.length
  | [], s, s', hs, h => by simp only [rowS, Option.some.injEq] at h; subst h; exact ⟨hs, Nat.le_refl _⟩
  | t :: ts, s, s', hs, h => by
    simp only [rowS] at h
    cases e : xstS most i s (FireE n x t) t with
    | none => rw [e] at h; cases h
    | some s1 =>
      rw [e] at h
      obtain ⟨g1, g2⟩ := rowS_SI hx ts s1 s' (hs.step hx e) h
      refine ⟨g1, Nat.le_trans ?_ g2⟩
      unfold xstS at e
      split at e
      · cases e; exact Nat.le_refl _
      · split at e
        · cases e
        · cases e
          dsimp only
          split
          · simp
          · exact Nat.le_refl _
theorem expS_SI {n : Net} {most : Int} : ∀ (f i : Nat) (s s' : Spc), SI n most s → expS n most f i s = some s' → SI n most s'
  | 0, i, s, s', hs, h => by simp only [expS, Option.some.injEq] at h; subst h; exact hs
  | f + 1, i, s, s', hs, h => by
    unfold expS at h
    split at h
    · rename_i hi
      cases e : rowS n most i (gti s.st i) (enabledL (gti s.st i) 0 n.trans) s with
      | none => rw [e] at h; cases h
      | some s1 =>
        rw [e] at h
        exact expS_SI f (i + 1) s1 s' (rowS_SI (hs.gti hi) _ s s1 hs e).1 h
    · simp only [Option.some.injEq] at h; subst h; exact hs
theorem explE_SI {n : Net} {m : List Int} {most : Int} (h : (explE n m most).2 = 0) : markB n m = true ∧ most ≤ 2000 ∧ SI n most (explE n m most).1 := by
  unfold explE at h ⊢
  split at h
  · rename_i h1
    rw [if_pos h1]
    split at h
    · simp at h
    · rename_i h2
      rw [if_neg h2]
      cases e : expS n most (most.toNat + 1) 0 ⟨[m], [], true⟩ with
      | none => rw [e] at h; simp [explR] at h
      | some s => exact ⟨h1, by omega, expS_SI _ _ _ _ (SI.init h1 (by omega)) e⟩
  · simp at h
end Go.Proofs.Ytmhbfoaecebobaa.Aw
end
section
namespace Go.Proofs.Ytmhbfoaecebobaa.Aw
set_option linter.unusedSimpArgs false
set_option linter.unusedVariables false
open Go.RowKit
def Chg (s s' : Sto) (W : List Nat) : Prop := ∀ id, id ∉ W → s'.abs[id]? = s.abs[id]?
theorem Chg.refl (s : Sto) : Chg s s [] := fun _ _ => rfl
theorem Chg.trans {a b c : Sto} {V W : List Nat} (h : Chg a b V) (k : Chg b c W) : Chg a c (V ++ W) := fun id hid => by
  simp only [List.mem_append, not_or] at hid
  exact (k id hid.2).trans (h id hid.1)
section
variable {P : Program} {o : Oper} {F : Frm} {σ : List Ob}
end
structure CallE (P : Program) (f : FuncId) (args : List AV) (σ : List Ob) (r : AV) (σ' : List Ob) : Prop where
  ent : Enters P f
  call : ∀ (G : Cx) (vargs : Array Value), Rel G σ → vargs.size = args.length → (∀ (j : Nat) v x, vargs[j]? = some v → args[j]? = some x → Rep G v x) →
    Calls P f vargs G.w fun e w' => ∃ v G', e = .returned v ∧ G'.w = w' ∧ G.Ext G' ∧ Rel G' σ' ∧ Rep G' v r
section
variable {P : Program} {o : Oper} {F : Frm} {σ σ' : List Ob} {f : FuncId} {args : List AV} {r : AV}
def ObLo (k : Nat) : Ob → Prop
  | .row _ cs | .fz _ cs => ∀ c ∈ cs, Lo k c
  | _ => True
theorem lo_of_cells {k : Nat} {x : AV} (h : ∀ c ∈ x.cells, Lo k c) : Lo k x := by
  by_cases hx : ∃ cs, x = .agg cs
  · obtain ⟨cs, rfl⟩ := hx; exact .agg cs h
  · have : x.cells = [x] := by cases x <;> first | rfl | (exact absurd ⟨_, rfl⟩ hx)
    exact h x (by rw [this]; simp)
theorem rep_lo {G : Cx} {k : Nat} (hk : ∀ id, k ≤ id → G.mu id = none) {v : Value} {x : AV} (h : Rep G v x) : Lo k x := by
  have key : ∀ id b, G.mu id = some b → id < k := fun id b hb => by
    rcases Nat.lt_or_ge id k with h | h
    · exact h
    · rw [hk id h] at hb; cases hb
  induction h with
  | any v => exact .any
  | s v => exact .s v
  | agg vs cs hl h1 _ ih =>
    refine .agg cs fun c hc => ?_
    obtain ⟨j, hj, rfl⟩ := List.mem_iff_getElem.1 hc
    exact ih j _ _ (Array.getElem?_eq_getElem (by omega)) (List.getElem?_eq_getElem hj)
  | emp A hA => exact .emp
  | slnil A cap => exact .sl [] (by simp)
  | sl b o cap sz l val hc hm h1 h2 _ ih =>
    refine .sl l fun e he => lo_of_cells fun c hcc => ?_
    obtain ⟨i, hi, rfl⟩ := List.mem_iff_getElem.1 he
    obtain ⟨j, hj, rfl⟩ := List.mem_iff_getElem.1 hcc
    exact ih i _ j _ (List.getElem?_eq_getElem hi) (List.getElem?_eq_getElem hj)
  | ref b o cs val h1 h2 _ ih =>
    refine .ref cs fun c hc => ?_
    obtain ⟨j, hj, rfl⟩ := List.mem_iff_getElem.1 hc
    exact ih j _ (List.getElem?_eq_getElem hj)
  | own0 id sz A hA hm => exact .own _ _ _ (key _ _ hm)
  | own id sz n b cap hm hn hc hb => exact .own _ _ _ (key _ _ hm)
  | ptr id sz k j b hm => exact .ptr _ _ _ _ (key _ _ hm)
  | fn f vs cs hl _ ih =>
    refine .fn f cs fun c hc => ?_
    obtain ⟨j, hj, rfl⟩ := List.mem_iff_getElem.1 hc
    exact ih j _ _ (Array.getElem?_eq_getElem (by omega)) (List.getElem?_eq_getElem hj)
  | tup vs cs hl _ ih =>
    refine .tup cs fun c hc => ?_
    obtain ⟨j, hj, rfl⟩ := List.mem_iff_getElem.1 hc
    exact ih j _ _ (Array.getElem?_eq_getElem (by omega)) (List.getElem?_eq_getElem hj)
  | mp id b hm => exact .mp _ (key _ _ hm)
  | sub id sz o n b cap A hm hA _ => exact .sub _ _ _ _ (key _ _ hm)
theorem rel_lo {G : Cx} (hr : Rel G σ) {id : Nat} {ob : Ob} (hs : σ[id]? = some ob) : ObLo σ.length ob := by
  have h1 := hr.obs id ob hs
  have row : ∀ b sz cs fr, RowAt G b sz cs fr → ∀ c ∈ cs, Lo σ.length c := by
    rintro b sz cs fr ⟨cur, t, q, h2, h3, h4, h5⟩ e he
    obtain ⟨i, hi, rfl⟩ := List.mem_iff_getElem.1 he
    obtain ⟨_, _, h6⟩ := h5 i _ (List.getElem?_eq_getElem hi)
    refine lo_of_cells fun c hc => ?_
    obtain ⟨j, hj, rfl⟩ := List.mem_iff_getElem.1 hc
    obtain ⟨v, _, h7⟩ := h6 j _ (List.getElem?_eq_getElem hj)
    exact rep_lo hr.fresh h7
  cases ob with
  | row sz cs =>
    simp only [ObOk] at h1
    cases hx : G.mu id with
    | none => rw [hx] at h1; exact h1.elim
    | some x =>
      rw [hx] at h1
      cases x with
      | none => simp only at h1; subst h1; intro c hc; simp at hc
      | some b => exact row b sz cs _ h1.1
  | fz sz cs =>
    simp only [ObOk] at h1
    cases hx : G.mu id with
    | none => rw [hx] at h1; exact h1.elim
    | some x =>
      rw [hx] at h1
      cases x with
      | none => simp only at h1; subst h1; intro c hc; simp at hc
      | some b => exact row b sz cs _ h1.1
  | _ => trivial
def Cx.cut (G : Cx) (k : Nat) : Cx := { G with mu := fun i => if i < k then G.mu i else none }
theorem cut_rel {G : Cx} {k : Nat} (hr : Rel G σ) (hk : k ≤ σ.length) (hl : ∀ ob ∈ σ.take k, ObLo k ob) : Rel (G.cut k) (σ.take k) := by
  have hlow : ∀ v x, Rep G v x → Lo k x → Rep (G.cut k) v x := fun v x h hx => h.low hx (fun _ _ h => h) (fun _ _ _ => rfl) (fun id y hid hy => by simp [Cx.cut, hid, hy]) (fun _ => RowsKept.refl _)
  have hmu : ∀ id b, (G.cut k).mu id = some b → G.mu id = some b := fun id b h => by
    simp only [Cx.cut] at h
    split at h
    · exact h
    · cases h
  refine ⟨hr.below, hr.le, hr.st, fun id ob hob => ?_, fun i j b hi hj hmi hmj => ?_, fun id hid => ?_⟩
  · have hmem := hl ob (List.mem_of_getElem? hob)
    rw [List.getElem?_take] at hob
    split at hob
    · rename_i hid
      have h1 := hr.obs id ob hob
      have e : (G.cut k).mu id = G.mu id := by simp [Cx.cut, hid]
      have row : ∀ b sz cs fr, (∀ c ∈ cs, Lo k c) → RowAt G b sz cs fr → RowAt (G.cut k) b sz cs fr := by
        rintro b sz cs fr hlo ⟨cur, t, q, h2, h3, h4, h5⟩
        refine ⟨cur, t, q, h2, h3, h4, fun i x hx => ⟨(h5 i x hx).1, (h5 i x hx).2.1, fun j c hc => ?_⟩⟩
        obtain ⟨v, h6, h7⟩ := (h5 i x hx).2.2 j c hc
        exact ⟨v, h6, hlow v c h7 ((hlo x (List.mem_of_getElem? hx)).cells c (List.mem_of_getElem? hc))⟩
      cases ob with
      | dead => exact fun b hb => h1 b (by rw [← e]; exact hb)
      | row sz cs =>
        have hlo : ∀ c ∈ cs, Lo k c := hmem
        simp only [ObOk] at h1 ⊢
        rw [e]
        cases hx : G.mu id with
        | none => rw [hx] at h1; exact h1
        | some x =>
          rw [hx] at h1
          cases x with
          | none => exact h1
          | some b => exact ⟨row b sz cs _ hlo h1.1, h1.2⟩
      | fz sz cs =>
        have hlo : ∀ c ∈ cs, Lo k c := hmem
        simp only [ObOk] at h1 ⊢
        rw [e]
        cases hx : G.mu id with
        | none => rw [hx] at h1; exact h1
        | some x =>
          rw [hx] at h1
          cases x with
          | none => exact h1
          | some b => exact ⟨row b sz cs _ hlo h1.1, h1.2⟩
      | mp X =>
        obtain ⟨b, g1, g2, g3, g4, g5⟩ := h1
        exact ⟨b, e.trans g1, g2, g3, g4, fun j hj => g5 j (hmu j _ hj)⟩
    · cases hob
  · have al : ∀ i, alive (σ.take k) i → alive σ i := by
      rintro i ⟨sz, cs, h⟩
      rw [List.getElem?_take] at h
      split at h
      · exact ⟨sz, cs, h⟩
      · cases h
    exact hr.inj i j b (al i hi) (al j hj) (hmu i _ hmi) (hmu j _ hmj)
  · rw [List.length_take, Nat.min_eq_left hk] at hid
    simp only [Cx.cut]
    rw [if_neg (by omega)]
theorem CallE.cut (h : CallE P f args σ r σ') (hk : σ.length ≤ σ'.length) {W : List Nat} (hW : ∀ id, id ∉ W → σ'[id]? = σ[id]?) (hl : ∀ id ∈ W, id < σ.length → ∀ ob, σ'[id]? = some ob → ObLo σ.length ob) (hr : Lo σ.length r) : CallE P f args σ r (σ'.take σ.length) :=
  ⟨h.ent, fun G vargs hrel hsz hrep => (h.call G vargs hrel hsz hrep).mono (by
    rintro e w' ⟨v, G', rfl, rfl, he, hr', hv⟩
    have hl' : ∀ ob ∈ σ'.take σ.length, ObLo σ.length ob := fun ob hob => by
      obtain ⟨id, hid, rfl⟩ := List.mem_iff_getElem.1 hob
      have hlt : id < σ.length := by rw [List.length_take] at hid; omega
      have hget : σ'[id]? = some (σ'.take σ.length)[id] := by
        have := List.getElem?_eq_getElem hid
        rw [List.getElem?_take, if_pos hlt] at this
        exact this
      by_cases hm : id ∈ W
      · exact hl id hm hlt _ hget
      · rw [hW id hm] at hget
        exact rel_lo hrel hget
    refine ⟨v, G'.cut σ.length, rfl, rfl, ⟨he.base, he.w0, he.st, he.cell, fun id x hx => ?_, he.size, he.rows, he.stN⟩, cut_rel hr' hk hl', ?_⟩
    · have hid : id < σ.length := by
        rcases Nat.lt_or_ge id σ.length with h1 | h1
        · exact h1
        · rw [hrel.fresh id h1] at hx; cases hx
      simp only [Cx.cut, if_pos hid]
      exact he.mu id x hx
    · exact hv.low hr (fun _ _ h => h) (fun _ _ _ => rfl) (fun id y hid hy => by simp [Cx.cut, hid, hy]) (fun _ => RowsKept.refl _))⟩
def Cx.keep (G : Cx) (k m : Nat) : Cx := { G with mu := fun i => if i < k then G.mu i else if i = k then G.mu m else none }
theorem keep_rel {G : Cx} {k m : Nat} {ob0 : Ob} (hr : Rel G σ) (hk : k ≤ m) (hm : σ[m]? = some ob0) (hl : ∀ ob ∈ σ.take k, ObLo k ob) (hl0 : ObLo k ob0) : Rel (G.keep k m) (σ.take k ++ [ob0]) := by
  have hmlt : m < σ.length := (List.getElem?_eq_some_iff.1 hm).1
  have htk : (σ.take k).length = k := by rw [List.length_take]; omega
  have hlow : ∀ v x, Rep G v x → Lo k x → Rep (G.keep k m) v x := fun v x h hx => h.low hx (fun _ _ h => h) (fun _ _ _ => rfl) (fun id y hid hy => by simp [Cx.keep, hid, hy]) (fun _ => RowsKept.refl _)
  have hmu : ∀ i x, (G.keep k m).mu i = some x → i ≤ k ∧ G.mu (if i < k then i else m) = some x := fun i x h => by
    simp only [Cx.keep] at h
    split at h
    · rename_i h1; exact ⟨by omega, by rw [if_pos h1]; exact h⟩
    · rename_i h1
      split at h
      · rename_i h2; exact ⟨by omega, by rw [if_neg h1]; exact h⟩
      · cases h
  have horig : ∀ i ob, (σ.take k ++ [ob0])[i]? = some ob → i ≤ k ∧ σ[if i < k then i else m]? = some ob ∧ (G.keep k m).mu i = G.mu (if i < k then i else m) ∧ ObLo k ob := fun i ob h => by
    rcases Nat.lt_trichotomy i k with h1 | h1 | h1
    · rw [List.getElem?_append_left (by omega), List.getElem?_take, if_pos h1] at h
      refine ⟨by omega, by rw [if_pos h1]; exact h, by simp [Cx.keep, h1], hl ob ?_⟩
      have : (σ.take k)[i]? = some ob := by rw [List.getElem?_take, if_pos h1]; exact h
      exact List.mem_of_getElem? this
    · subst h1
      rw [List.getElem?_append_right (by omega), htk, Nat.sub_self] at h
      simp at h; subst h
      exact ⟨by omega, by rw [if_neg (by omega)]; exact hm, by simp [Cx.keep], hl0⟩
    · rw [List.getElem?_eq_none (by simp; omega)] at h; cases h
  have hinj : ∀ i j, i ≤ k → j ≤ k → (if i < k then i else m) = (if j < k then j else m) → i = j := fun i j hi hj h => by
    split at h <;> split at h <;> omega
  refine ⟨hr.below, hr.le, hr.st, fun id ob hob => ?_, fun i j b hi hj hmi hmj => ?_, fun id hid => ?_⟩
  · obtain ⟨hik, hs, e, hlo⟩ := horig id ob hob
    have h1 := hr.obs _ ob hs
    generalize (if id < k then id else m) = o at hs e h1
    have row : ∀ b sz cs fr, (∀ c ∈ cs, Lo k c) → RowAt G b sz cs fr → RowAt (G.keep k m) b sz cs fr := by
      rintro b sz cs fr hlo ⟨cur, t, q, h2, h3, h4, h5⟩
      refine ⟨cur, t, q, h2, h3, h4, fun i x hx => ⟨(h5 i x hx).1, (h5 i x hx).2.1, fun j c hc => ?_⟩⟩
      obtain ⟨v, h6, h7⟩ := (h5 i x hx).2.2 j c hc
      exact ⟨v, h6, hlow v c h7 ((hlo x (List.mem_of_getElem? hx)).cells c (List.mem_of_getElem? hc))⟩
    cases ob with
    | dead => exact fun b hb => h1 b (by rw [← e]; exact hb)
    | row sz cs =>
      simp only [ObOk] at h1 ⊢
      rw [e]
      cases hx : G.mu o with
      | none => rw [hx] at h1; exact h1
      | some x =>
        rw [hx] at h1
        cases x with
        | none => exact h1
        | some b => exact ⟨row b sz cs _ hlo h1.1, h1.2⟩
    | fz sz cs =>
      simp only [ObOk] at h1 ⊢
      rw [e]
      cases hx : G.mu o with
      | none => rw [hx] at h1; exact h1
      | some x =>
        rw [hx] at h1
        cases x with
        | none => exact h1
        | some b => exact ⟨row b sz cs _ hlo h1.1, h1.2⟩
    | mp X =>
      obtain ⟨b, g1, g2, g3, g4, g5⟩ := h1
      refine ⟨b, e.trans g1, g2, g3, g4, fun j hj => ?_⟩
      obtain ⟨hj1, hj2⟩ := hmu j _ hj
      obtain ⟨hi1, hi2⟩ := hmu id _ (e.trans g1)
      exact hinj j id hj1 hi1 ((g5 _ hj2).trans (g5 _ hi2).symm)
  · have al : ∀ i, alive (σ.take k ++ [ob0]) i → i ≤ k ∧ alive σ (if i < k then i else m) := by
      rintro i ⟨sz, cs, h⟩
      obtain ⟨h1, h2, _⟩ := horig i _ h
      exact ⟨h1, sz, cs, h2⟩
    exact hinj i j (al i hi).1 (al j hj).1 (hr.inj _ _ b (al i hi).2 (al j hj).2 (hmu i _ hmi).2 (hmu j _ hmj).2)
  · rw [List.length_append, htk] at hid
    simp only [List.length_singleton] at hid
    simp only [Cx.keep]
    rw [if_neg (by omega), if_neg (by omega)]
theorem CallE.keep {m sz n : Nat} {ob0 : Ob} (h : CallE P f args σ (.own m sz n) σ') (hk : σ.length ≤ m) (hm : σ'[m]? = some ob0) {W : List Nat} (hW : ∀ id, id ∉ W → σ'[id]? = σ[id]?) (hl : ∀ id ∈ W, id < σ.length → ∀ ob, σ'[id]? = some ob → ObLo σ.length ob) (hr : ObLo σ.length ob0) : CallE P f args σ (.own σ.length sz n) (σ'.take σ.length ++ [ob0]) :=
  ⟨h.ent, fun G vargs hrel hsz hrep => (h.call G vargs hrel hsz hrep).mono (by
    rintro e w' ⟨v, G', rfl, rfl, he, hr', hv⟩
    have hl' : ∀ ob ∈ σ'.take σ.length, ObLo σ.length ob := fun ob hob => by
      obtain ⟨id, hid, rfl⟩ := List.mem_iff_getElem.1 hob
      have hlt : id < σ.length := by rw [List.length_take] at hid; omega
      have hget : σ'[id]? = some (σ'.take σ.length)[id] := by
        have := List.getElem?_eq_getElem hid
        rw [List.getElem?_take, if_pos hlt] at this
        exact this
      by_cases hm : id ∈ W
      · exact hl id hm hlt _ hget
      · rw [hW id hm] at hget
        exact rel_lo hrel hget
    refine ⟨v, G'.keep σ.length m, rfl, rfl, ⟨he.base, he.w0, he.st, he.cell, fun id x hx => ?_, he.size, he.rows, he.stN⟩, keep_rel hr' hk hm hl' hr, ?_⟩
    · have hid : id < σ.length := by
        rcases Nat.lt_or_ge id σ.length with h1 | h1
        · exact h1
        · rw [hrel.fresh id h1] at hx; cases hx
      simp only [Cx.keep, if_pos hid]
      exact he.mu id x hx
    · have e : (G'.keep σ.length m).mu σ.length = G'.mu m := by simp [Cx.keep]
      cases hv with
      | own0 _ _ A hA hm2 => exact .own0 _ _ A hA (e.trans hm2)
      | own _ _ _ b cap hm2 hn hc hb => exact .own _ _ _ b cap (e.trans hm2) hn hc hb)⟩
end
end Go.Proofs.Ytmhbfoaecebobaa.Aw
end
section
namespace Go.Proofs.Ytmhbfoaecebobaa.Aw
set_option linter.unusedSimpArgs false
set_option linter.unusedVariables false
set_option linter.unusedSectionVars false
open Go.RowKit
structure KE (G G' : Cx) : Prop where
  step : G.Step G'
  mu0 : ∀ y, G.mu 0 = some y → G'.mu 0 = some y
  rows : RowsKept G.w G'.w
theorem KE.refl (G : Cx) : KE G G := ⟨.refl G, fun _ h => h, RowsKept.refl _⟩
theorem KE.trans {G H K : Cx} (h : KE G H) (k : KE H K) : KE G K := ⟨h.step.trans k.step, fun y x => k.mu0 y (h.mu0 y x), h.rows.trans k.rows⟩
theorem KE.of {G G' : Cx} (e : G.Ext G') : KE G G' := ⟨e.step, e.mu 0, e.rows⟩
def liftK (N : Nat) (G : Cx) (Q : Exit → Frm → List Ob → Prop) : Exit → Act → World → Prop :=
  fun e a' w' => ∃ G' F' σ', G'.w = w' ∧ KE G G' ∧ S8 N G' a' F' σ' ∧ Q e F' σ'
theorem liftK_mono {N : Nat} {G G1 : Cx} (h : KE G G1) {Q Q' : Exit → Frm → List Ob → Prop} (hq : ∀ e F σ, Q e F σ → Q' e F σ) {e : Exit} {a : Act} {w : World} (x : liftK N G1 Q e a w) : liftK N G Q' e a w := by
  obtain ⟨G', F', σ', h1, h2, h3, h4⟩ := x
  exact ⟨G', F', σ', h1, h.trans h2, h3, hq _ _ _ h4⟩
def KWp (P : Program) (N : Nat) (c : Code) (F : Frm) (σ : List Ob) (Q : Exit → Frm → List Ob → Prop) : Prop :=
  ∀ G a, S8 N G a F σ → c.wp P (liftK N G Q) a G.w
def KOps (P : Program) (N : Nat) (ops : Array Oper) (l : List Oper) (F : Frm) (σ : List Ob) (Q : Exit → Frm → List Ob → Prop) : Prop :=
  ∀ G a, S8 N G a F σ → wpList P ops (liftK N G Q) l a G.w
section
variable {P : Program} {N : Nat} {F : Frm} {σ : List Ob} {Q : Exit → Frm → List Ob → Prop}
theorem kw_seq {x y : Code} (h : KWp P N x F σ (AThen (fun F σ => KWp P N y F σ Q) Q)) : KWp P N (.seq x y) F σ Q := fun G a hs => by
  refine wp_seq (Code.wp_mono (fun e a1 w1 q => ?_) (h G a hs))
  obtain ⟨G', F', σ', rfl, h2, h3, h4⟩ := q
  cases e with
  | normal => exact Code.wp_mono (fun e a w q => liftK_mono h2 (fun _ _ _ x => x) q) (h4 G' a1 h3)
  | _ => exact ⟨G', F', σ', rfl, h2, h3, h4⟩
theorem kw_skip (h : Q .normal F σ) : KWp P N .skip F σ Q := fun G a hs => wp_skip ⟨G, F, σ, rfl, .refl G, hs, h⟩
theorem kw_exit {id : Nat} (h : Q (.exit id) F σ) : KWp P N (.exit id) F σ Q := fun G a hs => wp_exit ⟨G, F, σ, rfl, .refl G, hs, h⟩
theorem kw_ret (h : Q .ret F σ) : KWp P N .ret F σ Q := fun G a hs => wp_ret ⟨G, F, σ, rfl, .refl G, hs, h⟩
theorem zbb {id : Nat} {c : Code} (h : KWp P N c F σ (ABlk id Q)) : KWp P N (.block id c) F σ Q := fun G a hs => by
  refine wp_block (Code.wp_mono (fun e a1 w1 q => ?_) (h G a hs))
  obtain ⟨G', F', σ', rfl, h2, h3, h4⟩ := q
  cases e with
  | exit id' =>
    simp only [ABlk] at h4
    simp only [Exit.inBlock]
    split
    · rename_i e; rw [if_pos e] at h4; exact ⟨G', F', σ', rfl, h2, h3, h4⟩
    · rename_i e; rw [if_neg e] at h4; exact ⟨G', F', σ', rfl, h2, h3, h4⟩
  | _ => exact ⟨G', F', σ', rfl, h2, h3, h4⟩
theorem kw_cond {c : Operand} {x y : Code} {b : Bool} (hc : F.eval c = .s (.bool b)) (ht : b = true → KWp P N x F σ Q) (hf : b = false → KWp P N y F σ Q) : KWp P N (.cond c x y) F σ Q := fun G a hs =>
  wp_cond_split (rep_bool hs.fr hc) (fun e => ht e G a hs) (fun e => hf e G a hs)
theorem kw_true {c : Operand} {x y : Code} (hc : F.eval c = .s (.bool true)) (ht : KWp P N x F σ Q) : KWp P N (.cond c x y) F σ Q := kw_cond hc (fun _ => ht) (fun e => by cases e)
theorem kw_false {c : Operand} {x y : Code} (hc : F.eval c = .s (.bool false)) (ht : KWp P N y F σ Q) : KWp P N (.cond c x y) F σ Q := kw_cond hc (fun e => by cases e) (fun _ => ht)
theorem kw_loop {c : Code} (I : Nat → Frm → List Ob → Prop) (m : Nat) (h0 : I m F σ)
    (round : ∀ m F σ, I m F σ → KWp P N c F σ (AThen (fun F' σ' => ∃ m', m' < m ∧ I m' F' σ') Q)) : KWp P N (.loop c) F σ Q := fun G a hs => by
  refine wp_loop_ghost (fun n a w => ∃ G' F' σ', G'.w = w ∧ KE G G' ∧ S8 N G' a F' σ' ∧ I n F' σ') m ⟨G, F, σ, rfl, .refl G, hs, h0⟩ ?_
  rintro n a w ⟨G', F', σ', rfl, h2, h3, h4⟩
  refine Code.wp_mono (fun e a1 w1 q => ?_) (round n F' σ' h4 G' a h3)
  obtain ⟨G2, F2, σ2, rfl, h5, h6, h7⟩ := q
  cases e with
  | normal => obtain ⟨m', hm, hi⟩ := h7; exact ⟨m', hm, ⟨G2, F2, σ2, rfl, h2.trans h5, h6, hi⟩⟩
  | _ => exact ⟨G2, F2, σ2, rfl, h2.trans h5, h6, h7⟩
theorem kw_region {id : Nat} {l : List Oper} (h : KOps P N l.toArray l F σ Q) : KWp P N (.region id l.toArray false) F σ Q := fun G a hs => wp_region_lit (h G a hs)
theorem kw_mono {c : Code} {Q' : Exit → Frm → List Ob → Prop} (h : KWp P N c F σ Q) (hq : ∀ e F σ, Q e F σ → Q' e F σ) : KWp P N c F σ Q' := fun G a hs =>
  Code.wp_mono (fun e a w q => liftK_mono (.refl G) hq q) (h G a hs)
end
section
variable {P : Program} {N : Nat} {F : Frm} {σ σ' : List Ob} {Q : Exit → Frm → List Ob → Prop} {ops : Array Oper} {o : Oper} {l : List Oper} {x : AV}
theorem kops_nil (h : Q .normal F σ) : KOps P N ops [] F σ Q := fun G a hs => ⟨G, F, σ, rfl, .refl G, hs, h⟩
theorem za9 {d : Nat} (hd : o.dst = some d) (hN : Nat.blt d N = true) (hr : Runs ops F o true) (hD : Does P o F σ x σ') (k : KOps P N ops l ((d, x) :: F) σ' Q) : KOps P N ops (o :: l) F σ Q := fun G a hs => by
  unfold wpList
  rw [if_pos (hr.wanted hs.fr)]
  left
  refine hD G a _ _ hs.rel (fun y _ => rep_eval hs.fr y) (fun v G' e r hv => ?_)
  rw [hd]
  exact wpList_mono (fun e' a w q => liftK_mono (KE.of e) (fun _ _ _ x => x) q) _ _ _ (k G' _ ((hs.step e r).put (by simpa [Nat.blt_eq] using hN) hv))
theorem kops_eff (hd : o.dst = none) (hr : Runs ops F o true) (hD : Does P o F σ x σ') (k : KOps P N ops l F σ' Q) : KOps P N ops (o :: l) F σ Q := fun G a hs => by
  unfold wpList
  rw [if_pos (hr.wanted hs.fr)]
  left
  refine hD G a _ _ hs.rel (fun y _ => rep_eval hs.fr y) (fun v G' e r hv => ?_)
  rw [hd]
  exact wpList_mono (fun e' a w q => liftK_mono (KE.of e) (fun _ _ _ x => x) q) _ _ _ (k G' _ (hs.step e r))
end
def WeakK (N : Nat) (F : Frm) (σ : List Ob) (F' : Frm) (σ' : List Ob) : Prop := ∀ G a, S8 N G a F σ → ∃ G', G'.w = G.w ∧ KE G G' ∧ S8 N G' a F' σ'
theorem WeakK.refl {N : Nat} {F : Frm} {σ : List Ob} : WeakK N F σ F σ := fun G a h => ⟨G, rfl, .refl G, h⟩
section
variable {P : Program} {N : Nat} {F F' : Frm} {σ σ' : List Ob} {Q : Exit → Frm → List Ob → Prop}
theorem kw_weak {c : Code} (w : WeakK N F σ F' σ') (h : KWp P N c F' σ' Q) : KWp P N c F σ Q := fun G a hs => by
  obtain ⟨G1, e1, s1, h1⟩ := w G a hs
  rw [← e1]
  exact Code.wp_mono (fun e a w q => liftK_mono s1 (fun _ _ _ x => x) q) (h G1 a h1)
theorem kwk_st (ρ : List Nat) (h0 : ρ[0]? = some 0) (hn : ρ.Nodup) (hs : StL ρ σ ρ σ') (hf : FrRn F ρ F') : WeakK N F σ F' σ' := fun G a h =>
  ⟨G.ren ρ, rfl, ⟨⟨rfl, rfl, fun _ _ h => h, fun _ _ _ => rfl, fun _ _ h => .inl h⟩, fun y hy => by simp [Cx.ren, h0, hy], RowsKept.refl _⟩, ⟨ren_rel h.rel hn (stRn_of ρ σ' hs), frRn_ok h.fr F' hf, h.df, h.nt⟩⟩
theorem kw_loops {c : Code} {S : Type} (fr : S → Frm) (st : S → List Ob) (inv : S → Prop) (ms : S → Nat) (s0 : S) (hw : WeakK N F σ (fr s0) (st s0)) (h0 : inv s0)
    (round : ∀ s, inv s → KWp P N c (fr s) (st s) (AThen (fun F' σ' => ∃ s', inv s' ∧ ms s' < ms s ∧ WeakK N F' σ' (fr s') (st s')) Q)) : KWp P N (.loop c) F σ Q := by
  refine kw_weak hw (kw_loop (fun m F σ => ∃ s, inv s ∧ ms s = m ∧ WeakK N F σ (fr s) (st s)) (ms s0) ⟨s0, h0, rfl, WeakK.refl⟩ (fun m F σ h => ?_))
  obtain ⟨s, h1, rfl, h3⟩ := h
  refine kw_weak h3 (kw_mono (round s h1) (fun e F σ q => ?_))
  cases e with
  | normal => obtain ⟨s', g1, g2, g3⟩ := q; exact ⟨ms s', g2, s', g1, rfl, g3⟩
  | _ => exact q
variable {ops : Array Oper} {o : Oper} {l : List Oper} {d : Nat}
theorem kops_opP {p : Prop} [Decidable p] (hd : o.dst = some d) (hN : Nat.blt d N = true) (hr : Runs ops F o true) (hD : Does P o F σ (.s (.bool (decide p))) σ) (k1 : p → KOps P N ops l ((d, .s (.bool true)) :: F) σ Q) (k2 : ¬ p → KOps P N ops l ((d, .s (.bool false)) :: F) σ Q) : KOps P N ops (o :: l) F σ Q := by
  by_cases h : p
  · exact za9 hd hN hr (dec_t h hD) (k1 h)
  · exact za9 hd hN hr (dec_f h hD) (k2 h)
theorem fr_keep {G G' : Cx} {a : Act} (hF : ∀ p ∈ F, Lo 1 p.2) (h : FOk G a F) (k : KE G G') : FOk G' a F := fun t => by
  have key : ∀ F : Frm, (∀ p ∈ F, Lo 1 p.2) → Lo 1 (F.get t) := by
    intro F
    induction F with
    | nil => intro _; exact .any
    | cons p F ih =>
      intro hF
      obtain ⟨d, x⟩ := p
      simp only [Frm.get]
      cases Nat.beq d t with
      | true => exact hF (d, x) List.mem_cons_self
      | false => exact ih (fun p hp => hF p (List.mem_cons_of_mem _ hp))
  refine (h t).low (key F hF) k.step.st k.step.cell (fun id y hid hy => ?_) (fun _ => k.rows)
  obtain rfl : id = 0 := by omega
  exact k.mu0 y hy
section
variable {fo : Operand} {ar : Array Operand} {ts : Array TypeId} {f : FuncId} {x : AV} {e n : Int}
end
end
theorem hF_nil : ∀ p ∈ ([] : Frm), Lo 1 p.2 := by simp
theorem hF_cons {d : Nat} {x : AV} {F : Frm} (h : Lo 1 x) (t : ∀ p ∈ F, Lo 1 p.2) : ∀ p ∈ (d, x) :: F, Lo 1 p.2 := fun p hp => by
  rcases List.mem_cons.1 hp with rfl | hp
  · exact h
  · exact t p hp
end Go.Proofs.Ytmhbfoaecebobaa.Aw
end
section
namespace Go.Proofs.Ytmhbfoaecebobaa.Aw
set_option linter.unusedSimpArgs false
set_option linter.unusedVariables false
set_option linter.unusedSectionVars false
open Go Go.RowKit Go.Proofs
inductive ObR2 (ρ : List Nat) : Ob → Ob → Prop
  | of (ob ob' : Ob) (h : ObRn ρ ob ob') : ObR2 ρ ob ob'
  | rowN (sz : Nat) (cs cs' : List AV) (hl : cs.length = cs'.length) (h : ∀ (k : Nat) e e', cs[k]? = some e → cs'[k]? = some e' → e.cells.length = e'.cells.length ∧ ∀ (j : Nat) x y, e.cells[j]? = some x → e'.cells[j]? = some y → Rn ρ x y) : ObR2 ρ (.row sz cs) (.row sz cs')
def StR2 (σ : List Ob) (ρ : List Nat) (σ' : List Ob) : Prop := σ'.length = ρ.length ∧ ∀ (j i : Nat) ob', ρ[j]? = some i → σ'[j]? = some ob' → ∃ ob, σ[i]? = some ob ∧ ObR2 ρ ob ob'
theorem row_ren {G : Cx} {ρ : List Nat} {i j : Nat} {sz : Nat} {cs cs' : List AV} (hm : (G.ren ρ).mu j = G.mu i) (hl : cs.length = cs'.length)
    (h : ∀ (k : Nat) e e', cs[k]? = some e → cs'[k]? = some e' → e.cells.length = e'.cells.length ∧ ∀ (j : Nat) x y, e.cells[j]? = some x → e'.cells[j]? = some y → Rn ρ x y) (h3 : ObOk G i (.row sz cs)) : ObOk (G.ren ρ) j (.row sz cs') := by
  simp only [ObOk, hm] at h3 ⊢
  cases hx : G.mu i with
  | none => rw [hx] at h3; exact h3
  | some x =>
    rw [hx] at h3
    cases x with
    | none => exact List.length_eq_zero_iff.1 (by rw [← hl, h3]; rfl)
    | some b => exact ⟨ren_row h3.1 hl h, h3.2⟩
theorem ren_rel2 {G : Cx} {σ σ' : List Ob} {ρ : List Nat} (hr : Rel G σ) (hn : ρ.Nodup) (hs : StR2 σ ρ σ') : Rel (G.ren ρ) σ' := by
  obtain ⟨hlen, hst⟩ := hs
  -- what is not a row of rows is renamed as before
  let τ : List Ob := σ'.map fun ob => match ob with | .row sz cs => .dead | ob => ob
  have hτ : StRn σ ρ τ := by
    refine ⟨by simp [τ, hlen], fun j i ob' hj hob => ?_⟩
    simp only [τ, List.getElem?_map, Option.map_eq_some_iff] at hob
    obtain ⟨ob1, h1, h2⟩ := hob
    obtain ⟨ob, h3, h4⟩ := hst j i ob1 hj h1
    refine ⟨ob, h3, ?_⟩
    subst h2
    cases h4 with
    | of _ _ h =>
      cases h with
      | dead => exact .dead _
      | row sz cs h => exact .dead _
      | fz sz cs h => exact .fz _ _ h
      | rowR sz e e' h h1 hl => exact .dead _
      | mp X n hn => exact .mp X n hn
    | rowN sz cs cs' hl h => exact .dead _
  have hr1 := ren_rel hr hn hτ
  have hmu : ∀ j i, ρ[j]? = some i → (G.ren ρ).mu j = G.mu i := fun j i h => by simp [Cx.ren, h]
  refine ⟨hr1.below, hr1.le, hr1.st, fun j ob' hob => ?_, fun j j' b hj hj' hm hm' => ?_, fun j hj => hr1.fresh j (by simp [τ]; exact hj)⟩
  · have hj : j < ρ.length := by rw [← hlen]; exact (List.getElem?_eq_some_iff.1 hob).1
    have hρ := List.getElem?_eq_getElem hj
    obtain ⟨ob, h1, h2⟩ := hst j _ ob' hρ hob
    have keep : (∀ sz cs, ob' ≠ .row sz cs) → ObOk (G.ren ρ) j ob' := fun h => hr1.obs j ob' (by
      show (σ'.map _)[j]? = _
      rw [List.getElem?_map, hob]
      cases ob' with
      | row sz cs => exact absurd rfl (h sz cs)
      | dead => rfl
      | fz sz cs => rfl
      | mp X => rfl)
    cases h2 with
    | of _ _ h =>
      cases h with
      | row sz cs h =>
        refine row_ren (hmu j _ hρ) rfl (fun k e e' he he' => ?_) (hr.obs _ _ h1)
        rw [he] at he'; cases he'
        refine ⟨rfl, fun i x y hx hy => ?_⟩
        rw [hx] at hy; cases hy
        exact .lo _ (h e (List.mem_of_getElem? he) x (List.mem_of_getElem? hx))
      | rowR sz e e' h g1 hl =>
        refine row_ren (cs := [e]) (hmu j _ hρ) rfl (fun k x x' he he' => ?_) (hr.obs _ _ h1)
        cases k with
        | succ k => simp at he
        | zero => simp at he he'; subst he he'; exact ⟨hl, g1⟩
      | dead => exact keep (fun sz cs h => by cases h)
      | fz sz cs h => exact keep (fun sz cs h => by cases h)
      | mp X n hn => exact keep (fun sz cs h => by cases h)
    | rowN sz cs cs' hl h => exact row_ren (hmu j _ hρ) hl h (hr.obs _ _ h1)
  · obtain ⟨sz, cs, h1⟩ := hj
    obtain ⟨sz', cs', h1'⟩ := hj'
    have hlj : j < ρ.length := by rw [← hlen]; exact (List.getElem?_eq_some_iff.1 h1).1
    have hlj' : j' < ρ.length := by rw [← hlen]; exact (List.getElem?_eq_some_iff.1 h1').1
    have al : ∀ j sz cs (hlj : j < ρ.length), σ'[j]? = some (.row sz cs) → alive σ ρ[j] := by
      intro j sz cs hlj h1
      obtain ⟨ob, h2, h3⟩ := hst j _ _ (List.getElem?_eq_getElem hlj) h1
      cases h3 with
      | of _ _ h =>
        cases h with
        | row _ _ _ => exact ⟨sz, cs, h2⟩
        | rowR _ e _ _ _ _ => exact ⟨sz, [e], h2⟩
      | rowN _ cs0 _ _ _ => exact ⟨sz, cs0, h2⟩
    have e := hr.inj ρ[j] ρ[j'] b (al j sz cs hlj h1) (al j' sz' cs' hlj' h1') (by simpa [Cx.ren, hlj] using hm) (by simpa [Cx.ren, hlj'] using hm')
    exact (List.getElem_inj hn).1 e
section
variable {N : Nat} {F F' : Frm} {σ σ' : List Ob}
theorem wk_ren2 (ρ : List Nat) (hn : ρ.Nodup) (hs : StR2 σ ρ σ') (hf : FrRn F ρ F') : Weak N F σ F' σ' := fun G a h =>
  ⟨G.ren ρ, rfl, ⟨rfl, rfl, fun _ _ h => h, fun _ _ _ => rfl, fun _ _ h => .inl h⟩, ⟨ren_rel2 h.rel hn hs, frRn_ok h.fr F' hf, h.df, h.nt⟩⟩
end
def rho (m n j L : Nat) : List Nat := (List.range (m + n)).set (j + m) L
theorem rho_lo {m n j L i : Nat} (h : i < m + n) (hne : i ≠ j + m) : (rho m n j L)[i]? = some i := by
  unfold rho
  rw [List.getElem?_set_ne (fun e => hne e.symm), List.getElem?_range h]
theorem rho_j {m n j L : Nat} (h : j < n) : (rho m n j L)[j + m]? = some L := by
  unfold rho
  rw [List.getElem?_set_self (by simp; omega)]
def ownR (m sz : Nat) (rows : List (List AV)) : List AV := (List.range rows.length).map fun t => .own (t + m) sz ((rows[t]?).getD []).length
theorem ownR_len (m sz : Nat) (rows : List (List AV)) : (ownR m sz rows).length = rows.length := by simp [ownR]
theorem ownR_get {m sz : Nat} {rows : List (List AV)} {t : Nat} {r : List AV} (h : rows[t]? = some r) : (ownR m sz rows)[t]? = some (.own (t + m) sz r.length) := by
  have ht := (List.getElem?_eq_some_iff.1 h).1
  simp [ownR, List.getElem?_range ht, h]
def obsR (sz : Nat) (rows : List (List AV)) : List Ob := rows.map (.row sz)
theorem obsR_get {sz : Nat} {rows : List (List AV)} {t : Nat} {r : List AV} (h : rows[t]? = some r) : (obsR sz rows)[t]? = some (.row sz r) := by simp [obsR, h]
theorem obsR_len (sz : Nat) (rows : List (List AV)) : (obsR sz rows).length = rows.length := by simp [obsR]
theorem obsR_set (sz : Nat) (rows : List (List AV)) (j : Nat) (r : List AV) : obsR sz (rows.set j r) = (obsR sz rows).set j (.row sz r) := by simp [obsR, List.map_set]
theorem ownR_ren {m sz sz0 : Nat} {rows : List (List AV)} {j L : Nat} {r : List AV} (hj : j < rows.length) : ObR2 (rho m rows.length j L) (.row sz0 ((ownR m sz rows).set j (.own L sz r.length))) (.row sz0 (ownR m sz (rows.set j r))) := by
  refine .rowN _ _ _ (by simp [ownR_len]) (fun k e e' he he' => ?_)
  have hk : k < rows.length := by have := (List.getElem?_eq_some_iff.1 he').1; simpa [ownR_len] using this
  by_cases h : k = j
  · subst h
    rw [List.getElem?_set_self (by rw [ownR_len]; exact hj)] at he
    obtain rfl := Option.some.inj he
    rw [ownR_get (List.getElem?_set_self hj)] at he'
    obtain rfl := Option.some.inj he'
    refine ⟨rfl, fun i x y hx hy => ?_⟩
    cases i with
    | succ i => simp [AV.cells] at hx
    | zero => simp [AV.cells] at hx hy; subst hx hy; exact .own _ _ _ _ _ (rho_j hj) rfl
  · rw [List.getElem?_set_ne (fun e => h e.symm), ownR_get (List.getElem?_eq_getElem hk)] at he
    obtain rfl := Option.some.inj he
    rw [ownR_get (show (rows.set j r)[k]? = some rows[k] by rw [List.getElem?_set_ne (fun e => h e.symm)]; exact List.getElem?_eq_getElem hk)] at he'
    obtain rfl := Option.some.inj he'
    refine ⟨rfl, fun i x y hx hy => ?_⟩
    cases i with
    | succ i => simp [AV.cells] at hx
    | zero => simp [AV.cells] at hx hy; subst hx hy; exact .own _ _ _ _ _ (rho_lo (by omega) (by omega)) rfl
theorem obsR_lo {ρ : List Nat} {sz : Nat} {rows : List (List AV)} (h : ∀ r ∈ rows, ∀ e ∈ r, ∀ c ∈ e.cells, Lo 0 c) : ∀ o ∈ obsR sz rows, ObR2 ρ o o := by
  intro o ho
  simp only [obsR, List.mem_map] at ho
  obtain ⟨r, hr, rfl⟩ := ho
  exact .of _ _ (.row sz r (h r hr))
section
variable {N : Nat} {F : Frm} {σ : List Ob}
theorem wk_ownE {id sz sz2 k : Nat} {cs : List AV} (hs : σ[id]? = some (.row sz cs)) (hk : cs[k]? = some (.s (.slice none 0 0))) : Weak N F σ F (σ.set id (.row sz (cs.set k (.own σ.length sz2 0))) ++ [.row sz2 []]) := fun G a h => by
  have he := nil_ext h.rel
  have hr := nil_rel h.rel sz2
  have hid : id < σ.length := (List.getElem?_eq_some_iff.1 hs).1
  have hkl := (List.getElem?_eq_some_iff.1 hk).1
  refine ⟨G.new σ.length G.w none, rfl, he.step, ?_, h.fr.ext he, h.df, h.nt⟩
  rw [show σ.set id (Ob.row sz (cs.set k (.own σ.length sz2 0))) ++ [Ob.row sz2 []] = (σ ++ [Ob.row sz2 []]).set id (Ob.row sz (cs.set k (.own σ.length sz2 0))) by rw [List.set_append_left _ _ hid]]
  refine reread_rel hr (by rw [List.getElem?_append_left hid]; exact hs) (fun h => by rw [h] at hkl; simp at hkl) ?_
  rintro b f ⟨cur, t, fr, g1, g2, g3, g4⟩
  refine ⟨cur, t, fr, g1, g2, by simpa using g3, fun i y hy => ?_⟩
  by_cases hi : i = k
  · subst hi
    rw [List.getElem?_set_self hkl] at hy
    obtain rfl := Option.some.inj hy
    obtain ⟨k1, k2, k3⟩ := g4 i _ hk
    refine ⟨k1, fun c hc => ?_, fun j c hc => ?_⟩
    · simp [AV.cells] at hc; subst hc; rfl
    · cases j with
      | succ j => simp [AV.cells] at hc
      | zero =>
        simp [AV.cells] at hc
        subst hc
        obtain ⟨v, h6, h7⟩ := k3 0 _ rfl
        refine ⟨v, h6, ?_⟩
        cases h7
        exact .own0 σ.length sz2 none (fun a ha => by cases ha) (by simp [Cx.new])
  · rw [List.getElem?_set_ne (fun e => hi e.symm)] at hy
    exact g4 i y hy
theorem wk_nils_k {id sz sz2 n : Nat} {S : List Ob} (hs : S[id]? = some (.row sz (List.replicate n (.s (.slice none 0 0))))) : ∀ k, k ≤ n →
    Weak N F S F (S.set id (.row sz (ownR S.length sz2 (List.replicate k []) ++ List.replicate (n - k) (.s (.slice none 0 0)))) ++ obsR sz2 (List.replicate k []))
  | 0, _ => by
    have hid : id < S.length := (List.getElem?_eq_some_iff.1 hs).1
    have e : S.set id (.row sz (ownR S.length sz2 (List.replicate 0 []) ++ List.replicate (n - 0) (.s (.slice none 0 0)))) ++ obsR sz2 (List.replicate 0 []) = S := by
      simp only [ownR, obsR, List.replicate_zero, List.length_nil, List.range_zero, List.map_nil, List.nil_append, List.append_nil, Nat.sub_zero]
      refine List.ext_getElem? fun i => ?_
      by_cases hi : id = i
      · subst hi; rw [List.getElem?_set_self hid, hs]
      · rw [List.getElem?_set_ne hi]
    rw [e]
    exact Weak.refl
  | k + 1, hk => by
    have hid : id < S.length := (List.getElem?_eq_some_iff.1 hs).1
    refine (wk_nils_k (sz2 := sz2) hs k (by omega)).trans ?_
    have hL : (S.set id (.row sz (ownR S.length sz2 (List.replicate k []) ++ List.replicate (n - k) (.s (.slice none 0 0)))) ++ obsR sz2 (List.replicate k [])).length = k + S.length := by simp [obsR]; omega
    have h1 : (ownR S.length sz2 (List.replicate k ([] : List AV)) ++ List.replicate (n - k) (AV.s (.slice none 0 0)))[k]? = some (.s (.slice none 0 0)) := by
      rw [List.getElem?_append_right (by simp [ownR_len]), ownR_len, List.length_replicate, Nat.sub_self, List.getElem?_replicate, if_pos (by omega)]
    have := wk_ownE (N := N) (F := F) (σ := S.set id (.row sz (ownR S.length sz2 (List.replicate k []) ++ List.replicate (n - k) (.s (.slice none 0 0)))) ++ obsR sz2 (List.replicate k [])) (id := id) (sz := sz) (sz2 := sz2) (k := k)
      (by rw [List.getElem?_append_left (by simpa using hid), List.getElem?_set_self hid]) h1
    rw [hL] at this
    have e : (S.set id (Ob.row sz (ownR S.length sz2 (List.replicate k []) ++ List.replicate (n - k) (.s (.slice none 0 0)))) ++ obsR sz2 (List.replicate k [])).set id (Ob.row sz ((ownR S.length sz2 (List.replicate k []) ++ List.replicate (n - k) (AV.s (.slice none 0 0))).set k (.own (k + S.length) sz2 0))) ++ [Ob.row sz2 []]
        = S.set id (Ob.row sz (ownR S.length sz2 (List.replicate (k + 1) []) ++ List.replicate (n - (k + 1)) (.s (.slice none 0 0)))) ++ obsR sz2 (List.replicate (k + 1) []) := by
      have e1 : (ownR S.length sz2 (List.replicate k ([] : List AV)) ++ List.replicate (n - k) (AV.s (.slice none 0 0))).set k (.own (k + S.length) sz2 0) = ownR S.length sz2 (List.replicate (k + 1) ([] : List AV)) ++ List.replicate (n - (k + 1)) (AV.s (.slice none 0 0)) := by
        rw [List.set_append_right _ _ (by simp [ownR_len]), ownR_len, List.length_replicate, Nat.sub_self, show n - k = (n - (k + 1)) + 1 by omega, List.replicate_succ, List.set_cons_zero]
        have : ownR S.length sz2 (List.replicate (k + 1) ([] : List AV)) = ownR S.length sz2 (List.replicate k ([] : List AV)) ++ [.own (k + S.length) sz2 0] := by
          unfold ownR
          simp only [List.length_replicate, List.range_succ, List.map_append, List.map_cons, List.map_nil]
          congr 1
          · refine List.map_congr_left fun t ht => ?_
            have := List.mem_range.1 ht
            simp [List.getElem?_replicate, show t < k + 1 by omega, this]
          · simp [List.getElem?_replicate]
        rw [this, List.append_assoc]; rfl
      rw [e1, List.set_append_left _ _ (by simpa using hid), List.set_set, show obsR sz2 (List.replicate (k + 1) ([] : List AV)) = obsR sz2 (List.replicate k []) ++ [Ob.row sz2 []] by simp [obsR, List.replicate_succ'], List.append_assoc]
    rw [e] at this
    exact this
theorem wk_nils {id sz sz2 n : Nat} {S : List Ob} (hs : S[id]? = some (.row sz (List.replicate n (.s (.slice none 0 0))))) :
    Weak N F S F (S.set id (.row sz (ownR S.length sz2 (List.replicate n []))) ++ obsR sz2 (List.replicate n [])) := by
  have := wk_nils_k (N := N) (F := F) (sz2 := sz2) hs n (Nat.le_refl _)
  rwa [Nat.sub_self, List.replicate_zero, List.append_nil] at this
theorem wk_fzE {id sz k i sz2 : Nat} {cs cs2 : List AV} (hs : σ[id]? = some (.row sz cs)) (hk : cs[k]? = some (.own i sz2 cs2.length)) (hi : σ[i]? = some (.row sz2 cs2)) (hne : i ≠ id) :
    Weak N F σ F ((σ.set i (.fz sz2 cs2)).set id (.row sz (cs.set k (.sl cs2)))) := fun G a h => by
  obtain ⟨he, hr⟩ := froz_ok h.rel hi
  have hid : id < σ.length := (List.getElem?_eq_some_iff.1 hs).1
  have hil : i < σ.length := (List.getElem?_eq_some_iff.1 hi).1
  have hkl := (List.getElem?_eq_some_iff.1 hk).1
  refine ⟨G.froz i, rfl, he.step, ?_, h.fr.ext he, h.df, h.nt⟩
  refine reread_rel hr (by rw [List.getElem?_set_ne hne]; exact hs) (fun h => by rw [h] at hkl; simp at hkl) ?_
  rintro b f ⟨cur, t, fr, g1, g2, g3, g4⟩
  refine ⟨cur, t, fr, g1, g2, by simpa using g3, fun l y hy => ?_⟩
  by_cases hl : l = k
  · subst hl
    rw [List.getElem?_set_self hkl] at hy
    obtain rfl := Option.some.inj hy
    obtain ⟨k1, k2, k3⟩ := g4 l _ hk
    refine ⟨k1, fun c hc => ?_, fun j c hc => ?_⟩
    · simp [AV.cells] at hc; subst hc; rfl
    · cases j with
      | succ j => simp [AV.cells] at hc
      | zero =>
        simp [AV.cells] at hc
        subst hc
        obtain ⟨v, h6, h7⟩ := k3 0 _ rfl
        exact ⟨v, h6, rep_fz hr (List.getElem?_set_self hil) rfl h7⟩
  · rw [List.getElem?_set_ne (fun e => hl e.symm)] at hy
    exact g4 l y hy
theorem wk_fzs_k {id sz sz2 : Nat} {S : List Ob} {rows : List (List AV)} (hs : S[id]? = some (.row sz (ownR S.length sz2 rows))) : ∀ k, k ≤ rows.length →
    ∃ X, Weak N F (S ++ obsR sz2 rows) F (S.set id (.row sz ((rows.take k).map AV.sl ++ (ownR S.length sz2 rows).drop k)) ++ X) ∧ X.length = rows.length ∧ ∀ t, k ≤ t → X[t]? = (obsR sz2 rows)[t]?
  | 0, _ => by
    have hid : id < S.length := (List.getElem?_eq_some_iff.1 hs).1
    refine ⟨obsR sz2 rows, ?_, obsR_len _ _, fun t _ => rfl⟩
    have e : S.set id (.row sz ((rows.take 0).map AV.sl ++ (ownR S.length sz2 rows).drop 0)) = S := by
      simp only [List.take_zero, List.map_nil, List.nil_append, List.drop_zero]
      refine List.ext_getElem? fun i => ?_
      by_cases hi : id = i
      · subst hi; rw [List.getElem?_set_self hid, hs]
      · rw [List.getElem?_set_ne hi]
    rw [e]
    exact Weak.refl
  | k + 1, hk => by
    have hid : id < S.length := (List.getElem?_eq_some_iff.1 hs).1
    obtain ⟨X, h1, h2, h3⟩ := wk_fzs_k hs k (by omega)
    have hkr : rows[k]? = some rows[k] := List.getElem?_eq_getElem (by omega)
    have hXk : X[k]? = some (.row sz2 rows[k]) := by rw [h3 k (Nat.le_refl _), obsR_get hkr]
    have hg := ownR_get (m := S.length) (sz := sz2) hkr
    have hlt : ((rows.take k).map AV.sl).length = k := by simp; omega
    have hc : ((rows.take k).map AV.sl ++ (ownR S.length sz2 rows).drop k)[k]? = some (.own (k + S.length) sz2 rows[k].length) := by
      rw [List.getElem?_append_right (by omega), hlt, Nat.sub_self, List.getElem?_drop, Nat.add_zero, hg]
    have := wk_fzE (N := N) (F := F) (σ := S.set id (.row sz ((rows.take k).map AV.sl ++ (ownR S.length sz2 rows).drop k)) ++ X) (id := id) (sz := sz) (k := k) (i := k + S.length) (sz2 := sz2) (cs2 := rows[k])
      (by rw [List.getElem?_append_left (by simpa using hid), List.getElem?_set_self hid]) hc (by rw [List.getElem?_append_right (by simp), List.length_set, Nat.add_sub_cancel]; exact hXk) (by omega)
    refine ⟨X.set k (.fz sz2 rows[k]), ?_, by simpa using h2, fun t ht => by rw [List.getElem?_set_ne (by omega)]; exact h3 t (by omega)⟩
    have e : ((S.set id (.row sz ((rows.take k).map AV.sl ++ (ownR S.length sz2 rows).drop k)) ++ X).set (k + S.length) (.fz sz2 rows[k])).set id (.row sz (((rows.take k).map AV.sl ++ (ownR S.length sz2 rows).drop k).set k (.sl rows[k])))
        = S.set id (.row sz ((rows.take (k + 1)).map AV.sl ++ (ownR S.length sz2 rows).drop (k + 1))) ++ X.set k (.fz sz2 rows[k]) := by
      have e1 : ((rows.take k).map AV.sl ++ (ownR S.length sz2 rows).drop k).set k (.sl rows[k]) = (rows.take (k + 1)).map AV.sl ++ (ownR S.length sz2 rows).drop (k + 1) := by
        rw [List.set_append_right _ _ (by omega), hlt, Nat.sub_self, List.drop_eq_getElem_cons (show k < (ownR S.length sz2 rows).length by rw [ownR_len]; omega), List.set_cons_zero, List.take_add_one, hkr]
        simp only [List.map_append, Option.toList, List.map_cons, List.map_nil, List.append_assoc, List.cons_append, List.nil_append]
      rw [e1, List.set_append_right _ _ (by simp), List.length_set, Nat.add_sub_cancel, List.set_append_left _ _ (by simpa using hid), List.set_set]
    rw [e] at this
    exact h1.trans this
theorem wk_fzs {id sz sz2 : Nat} {S : List Ob} {rows : List (List AV)} (hs : S[id]? = some (.row sz (ownR S.length sz2 rows))) :
    ∃ X, Weak N F (S ++ obsR sz2 rows) F (S.set id (.row sz (rows.map AV.sl)) ++ X) := by
  obtain ⟨X, h1, _, _⟩ := wk_fzs_k (N := N) (F := F) hs rows.length (Nat.le_refl _)
  refine ⟨X, ?_⟩
  rwa [List.take_length, List.drop_eq_nil_of_le (by rw [ownR_len]; exact Nat.le_refl _), List.append_nil] at h1
end
end Go.Proofs.Ytmhbfoaecebobaa.Aw
end
section
namespace Go.Proofs.Ytmhbfoaecebobaa.Aw
set_option linter.unusedSimpArgs false
set_option linter.unusedVariables false
set_option linter.unusedSectionVars false
open Go Go.RowKit Go.Proofs
section
variable {N : Nat} {F F' : Frm} {σ σ' : List Ob}
theorem WeakK.weak (h : WeakK N F σ F' σ') : Weak N F σ F' σ' := fun G a hs => by
  obtain ⟨G', h1, h2, h3⟩ := h G a hs
  exact ⟨G', h1, h2.step, h3⟩
theorem WeakK.trans {F1 F2 : Frm} {σ1 σ2 : List Ob} (h : WeakK N F σ F1 σ1) (k : WeakK N F1 σ1 F2 σ2) : WeakK N F σ F2 σ2 := fun G a hs => by
  obtain ⟨G1, e1, s1, h1⟩ := h G a hs
  obtain ⟨G2, e2, s2, h2⟩ := k G1 a h1
  exact ⟨G2, e2.trans e1, s1.trans s2, h2⟩
theorem kwk_froz {id sz : Nat} {cs : List AV} (hs : σ[id]? = some (.row sz cs)) : WeakK N F σ F (σ.set id (.fz sz cs)) := fun G a h => by
  obtain ⟨h1, h2⟩ := froz_ok h.rel hs
  exact ⟨G.froz id, rfl, KE.of h1, h.step h1 h2⟩
theorem kwk_ref {d id sz k : Nat} {cs : List AV} {e : AV} (hd : F.get d = .ptr id sz k 0) (hs : σ[id]? = some (.fz sz cs)) (he : cs[k]? = some e) : WeakK N F σ ((d, .ref e.cells) :: F) σ := fun G a h =>
  ⟨G, rfl, .refl G, h.rel, h.fr.more (rep_fzp h.rel hs he (by rw [← hd]; exact h.fr d)), h.df, h.nt⟩
theorem kwk_last {d sz : Nat} {e : AV} (hd : F.get d = .ptr σ.length sz 0 0) : WeakK N F (σ ++ [.row sz [e]]) ((d, .ref e.cells) :: F) (σ ++ [.fz sz [e]]) := by
  have h1 := kwk_froz (N := N) (F := F) (σ := σ ++ [.row sz [e]]) (id := σ.length) (sz := sz) (cs := [e]) (by simp)
  rw [show (σ ++ [Ob.row sz [e]]).set σ.length (.fz sz [e]) = σ ++ [.fz sz [e]] by rw [List.set_append_right _ _ (Nat.le_refl _), Nat.sub_self]; rfl] at h1
  exact h1.trans (kwk_ref (cs := [e]) hd (by simp) rfl)
theorem lo_up {k : Nat} {x : AV} (h : Lo 0 x) : Lo k x := by
  induction h with
  | any => exact .any
  | s v => exact .s v
  | agg cs _ ih => exact .agg cs ih
  | emp => exact .emp
  | sl l _ ih => exact .sl l ih
  | ref cs _ ih => exact .ref cs ih
  | own id sz n h => omega
  | ptr id sz i j h => omega
  | fn f cs _ ih => exact .fn f cs ih
  | tup l _ ih => exact .tup l ih
  | mp id h => omega
  | sub id sz o n h => omega
def LoOb (k : Nat) : Ob → Prop
  | .row _ cs => ∀ e ∈ cs, ∀ c ∈ e.cells, Lo k c
  | .fz _ cs => ∀ e ∈ cs, ∀ c ∈ e.cells, Lo k c
  | .dead => True
  | .mp _ => True
def FrLo (F : Frm) (k : Nat) : Frm → Prop
  | [] => True
  | (d, y) :: F' => (F.get d = y ∧ Lo k y) ∧ FrLo F k F'
theorem kwk_cut {X : List Ob} (h0 : 0 < σ.length) (hσ : ∀ ob ∈ σ, LoOb σ.length ob) (hF : FrLo F σ.length F') : WeakK N F (σ ++ X) F' σ := fun G a h => by
  let G' : Cx := { G with mu := fun i => if i < σ.length then G.mu i else none }
  have hmu : ∀ i, i < σ.length → G'.mu i = G.mu i := fun i hi => if_pos hi
  have low : ∀ {v x}, Rep G v x → Lo σ.length x → Rep G' v x := fun hv hx => hv.low hx (fun _ _ h => h) (fun _ _ _ => rfl) (fun id y hid hy => by rw [hmu id hid]; exact hy) (fun _ => RowsKept.refl _)
  have hr := h.rel
  have rowlow : ∀ {b sz : Nat} {cs : List AV} {f : Nat × Nat → Prop}, (∀ e ∈ cs, ∀ c ∈ e.cells, Lo σ.length c) → RowAt G b sz cs f → RowAt G' b sz cs f := fun hlo ⟨cur, t, fr, g1, g2, g3, g4⟩ =>
    ⟨cur, t, fr, g1, g2, g3, fun k e he => ⟨(g4 k e he).1, (g4 k e he).2.1, fun j c hc => by
      obtain ⟨v, h6, h7⟩ := (g4 k e he).2.2 j c hc
      exact ⟨v, h6, low h7 (hlo e (List.mem_of_getElem? he) c (List.mem_of_getElem? hc))⟩⟩⟩
  refine ⟨G', rfl, ⟨⟨rfl, rfl, fun _ _ h => h, fun _ _ _ => rfl, fun _ _ h => .inl h⟩, fun y hy => by rw [hmu 0 h0]; exact hy, RowsKept.refl _⟩, ⟨⟨hr.below, hr.le, hr.st, fun id ob hob => ?_, fun i j b hi hj hm hm' => ?_, fun id hid => if_neg (by omega)⟩, ?_, h.df, h.nt⟩⟩
  · have hid := (List.getElem?_eq_some_iff.1 hob).1
    have h1 := hr.obs id ob (by rw [List.getElem?_append_left hid]; exact hob)
    have hlo := hσ ob (List.mem_of_getElem? hob)
    cases ob with
    | dead => intro b hb; rw [hmu id hid] at hb; exact h1 b hb
    | row sz cs =>
      simp only [ObOk, hmu id hid] at h1 ⊢
      cases hx : G.mu id with
      | none => rw [hx] at h1; exact h1
      | some x =>
        rw [hx] at h1
        cases x with
        | none => exact h1
        | some b => exact ⟨rowlow hlo h1.1, h1.2⟩
    | fz sz cs =>
      simp only [ObOk, hmu id hid] at h1 ⊢
      cases hx : G.mu id with
      | none => rw [hx] at h1; exact h1
      | some x =>
        rw [hx] at h1
        cases x with
        | none => exact h1
        | some b => exact ⟨rowlow hlo h1.1, h1.2⟩
    | mp X =>
      obtain ⟨b, g1, g2, g3, g4, g5⟩ := h1
      refine ⟨b, (hmu id hid).trans g1, g2, g3, g4, fun j hj => g5 j ?_⟩
      by_cases hjl : j < σ.length
      · rwa [hmu j hjl] at hj
      · simp only [G', if_neg hjl] at hj; cases hj
  · obtain ⟨sz, cs, h1⟩ := hi
    obtain ⟨sz', cs', h1'⟩ := hj
    have hil := (List.getElem?_eq_some_iff.1 h1).1
    have hjl := (List.getElem?_eq_some_iff.1 h1').1
    rw [hmu i hil] at hm
    rw [hmu j hjl] at hm'
    exact hr.inj i j b ⟨sz, cs, by rw [List.getElem?_append_left hil]; exact h1⟩ ⟨sz', cs', by rw [List.getElem?_append_left hjl]; exact h1'⟩ hm hm'
  · have key : ∀ F', FrLo F σ.length F' → FOk G' a F' := by
      intro F'
      induction F' with
      | nil => intro _ d; exact .any _
      | cons p F' ih =>
        obtain ⟨d, y⟩ := p
        rintro ⟨⟨g1, g2⟩, g3⟩ t
        simp only [Frm.get]
        cases e : Nat.beq d t with
        | true =>
          have := Nat.eq_of_beq_eq_true e
          subst this
          have := h.fr d
          rw [g1] at this
          exact low this g2
        | false => exact ih g3 t
    exact key F' hF
theorem kwk_fzC {id sz i sz2 : Nat} {e e' : AV} {pre post cs2 : List AV} (hs : σ[id]? = some (.row sz [e])) (h1 : e.cells = pre ++ .own i sz2 cs2.length :: post) (hi : σ[i]? = some (.row sz2 cs2)) (hne : i ≠ id) (h2 : e'.cells = pre ++ .sl cs2 :: post) :
    WeakK N F σ F ((σ.set i (.fz sz2 cs2)).set id (.row sz [e'])) := fun G a h => by
  obtain ⟨he, hr⟩ := froz_ok h.rel hi
  have hid : id < σ.length := (List.getElem?_eq_some_iff.1 hs).1
  have hil : i < σ.length := (List.getElem?_eq_some_iff.1 hi).1
  refine ⟨G.froz i, rfl, KE.of he, ?_, h.fr.ext he, h.df, h.nt⟩
  refine reread_rel hr (by rw [List.getElem?_set_ne hne]; exact hs) (fun h => by cases h) ?_
  rintro b f ⟨cur, t, fr, g1, g2, g3, g4⟩
  refine ⟨cur, t, fr, g1, g2, g3, fun k y hy => ?_⟩
  cases k with
  | succ k => simp at hy
  | zero =>
    simp at hy
    subst hy
    obtain ⟨k1, k2, k3⟩ := g4 0 e rfl
    rw [h1] at k1 k2 k3
    rw [h2]
    refine ⟨by simpa using k1, fun c hc => ?_, fun j c hc => ?_⟩
    · simp only [List.mem_append, List.mem_cons] at hc
      rcases hc with hc | rfl | hc
      · exact k2 c (by simp [hc])
      · rfl
      · exact k2 c (by simp [hc])
    · by_cases hj : j = pre.length
      · subst hj
        simp at hc
        subst hc
        obtain ⟨v, h6, h7⟩ := k3 pre.length (.own i sz2 cs2.length) (by simp)
        exact ⟨v, h6, rep_fz hr (List.getElem?_set_self hil) rfl h7⟩
      · have e : (pre ++ AV.own i sz2 cs2.length :: post)[j]? = some c := by
          rw [← hc]
          by_cases hlt : j < pre.length
          · rw [List.getElem?_append_left hlt, List.getElem?_append_left hlt]
          · rw [List.getElem?_append_right (by omega), List.getElem?_append_right (by omega)]
            obtain ⟨i, hi⟩ : ∃ i, j - pre.length = i + 1 := ⟨j - pre.length - 1, by omega⟩
            rw [hi]; rfl
        exact k3 j c e
end
def mv (k i : Nat) : List Nat := (List.range k).set i k
theorem mv_ne {k i t : Nat} (h : t < k) (hne : t ≠ i) : (mv k i)[t]? = some t := by
  unfold mv
  rw [List.getElem?_set_ne (fun e => hne e.symm), List.getElem?_range h]
theorem mv_eq {k i : Nat} (h : i < k) : (mv k i)[i]? = some k := by
  unfold mv
  rw [List.getElem?_set_self (by simpa using h)]
theorem mv_nd (k i : Nat) : (mv k i).Nodup := by
  unfold mv
  refine List.nodup_iff_pairwise_ne.2 ?_
  rw [List.pairwise_iff_getElem]
  intro a b ha hb hlt
  simp only [List.length_set, List.length_range] at ha hb
  rw [List.getElem_set, List.getElem_set]
  split <;> split <;> first | omega | (simp only [List.getElem_range]; omega)
theorem stR2_mv {σ0 σ' : List Ob} {k i : Nat} {ob ob' : Ob} (h0 : σ0.length = k) (h1 : σ'.length = k) (hi : σ'[i]? = some ob') (ho : ObR2 (mv k i) ob ob')
    (h : ∀ (t : Nat) a b, t ≠ i → σ0[t]? = some a → σ'[t]? = some b → ObR2 (mv k i) a b) : StR2 (σ0 ++ [ob]) (mv k i) σ' := by
  have hik : i < k := by rw [← h1]; exact (List.getElem?_eq_some_iff.1 hi).1
  refine ⟨by simp [mv, h1], fun t u o ht hot => ?_⟩
  have htk : t < k := by rw [← h1]; exact (List.getElem?_eq_some_iff.1 hot).1
  by_cases e : t = i
  · subst e
    rw [mv_eq hik] at ht
    obtain rfl := Option.some.inj ht
    rw [hi] at hot
    obtain rfl := Option.some.inj hot
    exact ⟨ob, by rw [← h0]; simp, ho⟩
  · rw [mv_ne htk e] at ht
    obtain rfl := Option.some.inj ht
    obtain ⟨a, ha⟩ : ∃ a, σ0[t]? = some a := ⟨σ0[t]'(by omega), List.getElem?_eq_getElem (by omega)⟩
    exact ⟨a, by rw [List.getElem?_append_left (by omega)]; exact ha, h t a o e ha hot⟩
theorem ownR_mv {m sz sz0 : Nat} {rows : List (List AV)} {j k : Nat} {r : List AV} (hj : j < rows.length) (hk : k = rows.length + m) : ObR2 (mv k (j + m)) (.row sz0 ((ownR m sz rows).set j (.own k sz r.length))) (.row sz0 (ownR m sz (rows.set j r))) := by
  subst hk
  have := ownR_ren (m := m) (sz := sz) (sz0 := sz0) (rows := rows) (j := j) (L := rows.length + m) (r := r) hj
  rwa [show rho m rows.length j (rows.length + m) = mv (rows.length + m) (j + m) by unfold rho mv; rw [Nat.add_comm m]] at this
theorem obsR_mv {ρ : List Nat} {sz : Nat} {rows : List (List AV)} (h : ∀ r ∈ rows, ∀ e ∈ r, ∀ c ∈ e.cells, Lo 0 c) {t : Nat} {a b : Ob} (ha : (obsR sz rows)[t]? = some a) (hb : (obsR sz rows)[t]? = some b) : ObR2 ρ a b := by
  rw [ha] at hb
  obtain rfl := Option.some.inj hb
  exact obsR_lo h a (List.mem_of_getElem? ha)
section
variable {P : Program} {N : Nat} {F : Frm} {σ σ' : List Ob} {Q : Exit → Frm → List Ob → Prop} {ops : Array Oper} {o : Oper} {l : List Oper} {d : Nat} {fo : Operand} {ar : Array Operand} {ts : Array TypeId} {f : FuncId} {y : AV} {args caps : List AV}
end
end Go.Proofs.Ytmhbfoaecebobaa.Aw
end
section
namespace Go.Proofs.Ytmhbfoaecebobaa.Aw
set_option linter.unusedSimpArgs false
set_option linter.unusedVariables false
set_option linter.unusedSectionVars false
open Go Go.RowKit Go.Proofs
section
variable {P : Program} {o : Oper} {F : Frm} {σ : List Ob}
def DoesR (P : Program) (o : Oper) (F : Frm) (σ : List Ob) (R : AV → List Ob → Prop) : Prop :=
  ∀ (G : Cx) (a : Act) (next : Act → World → Prop) (Q : Exit → Act → World → Prop), Rel G σ → (∀ y ∈ o.op.operands, Rep G (a.eval y) (F.eval y)) →
    (∀ v G' x σ', R x σ' → G.Ext G' → Rel G' σ' → Rep G' v x → next (a.put o.dst v) G'.w) → o.wp P a G.w next Q
theorem doesR_new {R : AV → List Ob → Prop} (h : ∀ (G : Cx) (ρ : Operand → Value), Rel G σ → (∀ y ∈ o.op.operands, Rep G (ρ y) (F.eval y)) → ∃ v G' x σ', R x σ' ∧ (execOp ρ o).run P G.w = .ok (.value v) G'.w ∧ G.Ext G' ∧ Rel G' σ' ∧ Rep G' v x) : DoesR P o F σ R := by
  intro G a next Q hr ho hn
  obtain ⟨v, G', x, σ', h0, h1, h2, h3, h4⟩ := h G a.eval hr ho
  unfold Oper.wp
  rw [h1]
  exact hn v G' x σ' h0 h2 h3 h4
theorem does_slice_sub {t e : TypeId} {x y : Operand} {z : Option Value} {n bt : Nat} {id sz q m : Nat} {k : IntKind} {i : Int} {l : Nat} (ho : o.op = .slice t x (some y) none none) (ht : tySlice P t = some e) (hi : tyInfo P e = some (z, n, bt)) (hn : n = sz) (hx : F.eval x = .sub id sz q m) (hm0 : 0 < m) (hy : F.eval y = .s (.int k i)) (hk : i = (l : Int)) (hl : l ≤ m) : Does P o F σ (.sub id sz (q + l) (m - l)) σ :=
  does_val fun G ρ hr hop => by
    have g1 := hop x (by simp [ho, Op.operands])
    have g2 := hop y (by simp [ho, Op.operands])
    rw [hx] at g1
    rw [hy] at g2
    have e2 := rep_s g2
    obtain ⟨q1, q2⟩ := elem_of ht
    subst hk hn
    generalize hv : ρ x = u at g1
    cases g1 with
    | sub _ _ _ _ b cap A hm hA hc =>
      have hA := hA hm0
      subst hA
      obtain ⟨c1, c2, cur, te, f, h3, h4⟩ := hc
      have h2 := run_slice_l (P := P) G.w t (some ⟨b, q * n, none⟩) m cap q2 k (l : Int) (by omega) (by omega)
      refine ⟨sliced (some ⟨b, q * n, none⟩) l m cap n, by simp only [execOp, ho, Option.map_some, Option.map_none, hv, e2, Sem.run_bind, run_sliceAt_slice (P := P) G.w t _ _ _ _ q2, h2, q1, run_sizeOf hi, Result.andThen_ok, Sem.run_pure, Int.toNat_natCast], ?_⟩
      refine .sub id n (q + l) (m - l) b (cap - l) _ hm (fun h0 => ?_) ⟨by omega, by omega, cur, te, f, h3, by rw [show q + l + (cap - l) = q + cap by omega]; exact h4⟩
      have : ¬ (cap = l) := by omega
      simp [this, Addr.add_lit, Nat.add_mul]
theorem run_append_at {t ty e : TypeId} {z : Option Value} {sz bt : Nat} (ht : tySlice P t = some e) (hi : tyInfo P e = some (z, sz, bt)) (w : World) (g q n cap : Nat) (cur : Array Value) (te : TypeId) (hg : w.heap[g]? = some (.cells cur te (0, 0)))
    (A : Option Addr) (m c : Nat) (news : List Value) (hl : news.length = m * sz) (hA : A = none → m = 0) (hnews : ∀ a, A = some a → ∀ (j : Nat) u, news[j]? = some u → w.cell? (a.add j) = some u) (h1 : ∀ u ∈ news, u.oneCell' = true)
    (hroom : n + m ≤ cap) (hfit : q + n * sz + news.length ≤ cur.size) :
    (Builtin.append_ #[t, t] ty #[.slice (some ⟨g, q, none⟩) n cap, .slice A m c]).run P w = .ok (.slice (some ⟨g, q, none⟩) (n + m) cap) (w.setRow g (cur.toList.take (q + n * sz) ++ news ++ cur.toList.drop (q + n * sz + news.length)).toArray) := by
  have hf : (Builtin.firstCells sz m (.slice A m c)).run P w = .ok news.toArray w := by
    cases A with
    | none =>
      have := hA rfl
      subst this
      have : news = [] := List.eq_nil_of_length_eq_zero (by simpa using hl)
      subst this
      simp [Builtin.firstCells]
    | some a => exact run_firstCells_some (P := P) w sz m a m c news hl (hnews a rfl)
  have hst := run_storeCells_at P g (q + n * sz) te news 0 cur w hg (by simpa using hfit) h1
  simp only [Nat.add_zero] at hst
  simp [Builtin.append_, run_underlying (slice_of ht), run_sizeOf hi, Builtin.lenOf, hroom, hf, Addr.add_lit, hst]
def SubR (σ : List Ob) (id sz q n : Nat) (cs l : List AV) (x : AV) (σ' : List Ob) : Prop :=
  ∃ (q' : Nat) (cs' : List AV), (q' = q ∧ cs' = cs ++ l ∨ q' = 0 ∧ cs' = cs.drop q ++ l) ∧ x = .sub σ.length sz q' (n + l.length) ∧ σ' = σ.set id .dead ++ [.row sz cs']
theorem does_append_sub {t e : TypeId} {s y : Operand} {z : Value} {sz bt id q n : Nat} {y' : AV} {cs l : List AV} (ho : o.op = .call { callee := .builtin .append, args := #[s, y], argTypes := #[t, t] })
    (ht : tySlice P t = some e) (hi : tyInfo P e = some (some z, sz, bt)) (hzs : z.cells.size = sz) (hsz : 0 < sz) (hx : F.eval s = .sub id sz q n) (hs : σ[id]? = some (.row sz cs)) (hn : q + n = cs.length) (hn0 : 0 < n) (hy : F.eval y = y') (hsrc : Src σ sz y' l)
    (h63 : n + l.length ≤ maxLen) (hby : (n + l.length) * bt ≤ 140737488355328) : DoesR P o F σ (SubR σ id sz q n cs l) :=
  doesR_new fun G ρ hr hop => by
    have g1 := hop s (by simp [ho, Op.operands, Call.operands])
    have g2 := hop y (by simp [ho, Op.operands, Call.operands])
    rw [hx] at g1
    rw [hy] at g2
    generalize hv1 : ρ s = v1 at g1
    have hid : id < σ.length := (List.getElem?_eq_some_iff.1 hs).1
    have hbl : (cs.drop q).length = n := by rw [List.length_drop]; omega
    have hbase : (cs.drop q).take n = cs.drop q := List.take_of_length_le (by omega)
    obtain ⟨B0, cap, olds, hvo, hvb⟩ := src_vals hsz hr (Src.sub id _ cs hs rfl q n (by omega)) g1
    rw [hbase] at hvb hvo
    rw [hbl] at hvo
    cases g1 with
    | sub _ _ _ _ b cap0 A0 hm hA0 hc0 =>
      cases hvo
      obtain ⟨c1, c2, cur, te2, f2, h3, h4⟩ := hc0
      have hA0 := hA0 hn0
      subst hA0
      have h1 := hr.obs id _ hs
      simp only [ObOk, hm] at h1
      obtain ⟨⟨cur0, te, fr, hcur, rfl, hcl, hrow⟩, hbb, hst⟩ := h1
      rw [hcur] at h3
      cases h3
      obtain ⟨A, c, news, hv2, hvn⟩ := src_vals hsz hr hsrc g2
      have hsmall : n + l.length ≤ 9223372036854775807 := by simp only [maxLen] at h63; omega
      have hop2 : ∀ (v : Value) (w : World), (Builtin.append_ #[t, t] o.type #[.slice (some ⟨b, q * sz, none⟩) n cap, .slice A l.length c]).run P G.w = .ok v w → (execOp ρ o).run P G.w = .ok (.value v) w := by
        intro v w h
        simp only [execOp, ho, resolve, invoke, builtin, Sem.run_bind, Sem.run_pure, Result.andThen_ok, List.map_toArray, List.map_cons, List.map_nil, hv1, hv2, h]
      have hAn : A = none → l.length = 0 := fun h => by rw [hvn.nil h]; rfl
      have hol := hvb.len
      rw [hbl] at hol
      have hk := kill_rel hr id
      have hcl3 : cur.toList.length = cur.size := Array.length_toList
      by_cases hroom : n + l.length ≤ cap
      · -- in its place
        have hcsz : q * sz + n * sz = cs.length * sz := by rw [← Nat.add_mul, hn]
        have hfit : q * sz + n * sz + news.length ≤ cur.size := by
          rw [hvn.len, ← Nat.add_mul, ← Nat.add_mul]
          exact Nat.le_trans (Nat.mul_le_mul_right _ (by omega)) h4
        have hrun := run_append_at (P := P) ht hi (ty := o.type) G.w b (q * sz) n cap cur te2 hcur A l.length c news hvn.len hAn hvn.at_ hvn.one hroom hfit
        rw [hcsz] at hrun hfit
        obtain ⟨nc, hnc⟩ : ∃ nc : Array Value, nc = (cur.toList.take (cs.length * sz) ++ news ++ cur.toList.drop (cs.length * sz + news.length)).toArray := ⟨_, rfl⟩
        rw [← hnc] at hrun
        have hncs : nc.size = cur.size := by
          rw [hnc]
          simp only [List.size_toArray, List.length_append, List.length_take, List.length_drop, Array.length_toList]
          omega
        have hrow2 : ∀ (k : Nat) x, (cs ++ l)[k]? = some x → x.cells.length = sz ∧ (∀ c ∈ x.cells, c.one = true) ∧ ∀ (j : Nat) c, x.cells[j]? = some c → ∃ v, nc[k * sz + j]? = some v ∧ Rep G v c := by
          intro k x hkx
          have hkl : k < cs.length + l.length := by have := (List.getElem?_eq_some_iff.1 hkx).1; simpa using this
          by_cases hk1 : k < cs.length
          · rw [List.getElem?_append_left hk1] at hkx
            obtain ⟨r1, r2, r3⟩ := hrow k x hkx
            refine ⟨r1, r2, fun j c hc => ?_⟩
            have hj : j < sz := by have := (List.getElem?_eq_some_iff.1 hc).1; omega
            have hpos : k * sz + j < cs.length * sz := by
              have : (k + 1) * sz ≤ cs.length * sz := Nat.mul_le_mul_right _ hk1
              rw [Nat.add_mul] at this; omega
            obtain ⟨u, r4, r5⟩ := r3 j c hc
            refine ⟨u, ?_, r5⟩
            rw [hnc, List.getElem?_toArray, List.append_assoc, List.getElem?_append_left (by rw [List.length_take, hcl3]; omega), List.getElem?_take, if_pos hpos, Array.getElem?_toList]
            exact r4
          · rw [List.getElem?_append_right (by omega)] at hkx
            obtain ⟨r1, r2, r3⟩ := hvn.rep _ x hkx
            refine ⟨r1, r2, fun j c hc => ?_⟩
            have hj : j < sz := by have := (List.getElem?_eq_some_iff.1 hc).1; omega
            obtain ⟨u, r4, r5⟩ := r3 j c hc
            refine ⟨u, ?_, r5⟩
            have hle : cs.length * sz ≤ k * sz := Nat.mul_le_mul_right _ (by omega)
            have hlt : (k - cs.length) * sz + j < news.length := (List.getElem?_eq_some_iff.1 r4).1
            have htk : (cur.toList.take (cs.length * sz)).length = cs.length * sz := by rw [List.length_take, hcl3]; omega
            rw [Nat.sub_mul] at hlt r4
            rw [hnc, List.getElem?_toArray, List.append_assoc, List.getElem?_append_right (by rw [htk]; omega), htk, List.getElem?_append_left (by omega)]
            rw [← r4]
            congr 1
            omega
        have hw := write_rel (cs' := cs ++ l) hr hs hm hcur hncs (by rw [hncs, List.length_append, Nat.add_mul, ← hvn.len]; exact hfit) hrow2
        have hwe := write_ext hr hs hm hcur hncs
        have hm2 : ({ G with w := G.w.setRow b nc } : Cx).mu id = some (some b) := hm
        obtain ⟨h9, h10⟩ := rename_rel (id := id) (sz := sz) (cs := cs ++ l) hw (by rw [List.getElem?_set_self hid]) hm2
        rw [List.set_set, List.length_set] at h9
        rw [List.length_set] at h10
        refine ⟨_, _, .sub σ.length sz q (n + l.length), σ.set id .dead ++ [.row sz (cs ++ l)], ⟨q, _, .inl ⟨rfl, rfl⟩, rfl, rfl⟩, hop2 _ _ hrun, hwe.trans h10, h9, ?_⟩
        refine .sub σ.length sz q _ b cap _ (by simp [Cx.new]) (fun _ => rfl) ⟨hroom, c2, nc, te2, (0, 0), ?_, by rw [hncs]; exact h4⟩
        exact setRow_heap _ _ cur nc _ _ hcur
      · -- into a new block
        have hrun := run_append_new (P := P) ht hi (ty := o.type) G.w (some ⟨b, q * sz, none⟩) n cap olds hol (fun h => by cases h) hvb.at_ A l.length c news hvn.len hAn hvn.at_ (by omega) hsmall hby
        obtain ⟨cells, hcs⟩ : ∃ cells, cells = olds.toArray ++ news.toArray ++ Builtin.zeroCells z.cells (grownCap G.w (n + l.length) cap e - (n + l.length)) := ⟨_, rfl⟩
        rw [← hcs] at hrun
        have hge := grownCap_ge G.w (n + l.length) cap e
        have hcm : grownCap G.w (n + l.length) cap e ≤ maxLen := grownCap_le_maxLen G.w _ cap e h63
        have hsize : cells.size = grownCap G.w (n + l.length) cap e * sz := by
          rw [hcs]
          simp only [Array.size_append, List.size_toArray, size_zeroCells, hzs, hol, hvn.len, ← Nat.add_mul]
          congr 1
          omega
        have hcl2 : ∀ i, i < (n + l.length) * sz → cells[i]? = (olds ++ news)[i]? := fun i hi => by
          rw [hcs, ← Array.getElem?_toList]
          simp only [Array.toList_append, List.append_assoc]
          rw [← List.append_assoc, List.getElem?_append_left (by rw [List.length_append, hol, hvn.len, ← Nat.add_mul]; exact hi)]
        have hrow2 : ∀ (k : Nat) x, (cs.drop q ++ l)[k]? = some x → x.cells.length = sz ∧ (∀ c ∈ x.cells, c.one = true) ∧ ∀ (j : Nat) c, x.cells[j]? = some c → ∃ v, cells[k * sz + j]? = some v ∧ Rep G v c := by
          intro k x hkx
          have hkl : k < n + l.length := by have := (List.getElem?_eq_some_iff.1 hkx).1; rw [List.length_append, hbl] at this; exact this
          have hpos : ∀ j, j < sz → k * sz + j < (n + l.length) * sz := fun j hj => by
            have : (k + 1) * sz ≤ (n + l.length) * sz := Nat.mul_le_mul_right _ hkl
            rw [Nat.add_mul] at this; omega
          by_cases hk1 : k < n
          · rw [List.getElem?_append_left (by omega)] at hkx
            obtain ⟨r1, r2, r3⟩ := hvb.rep k x hkx
            refine ⟨r1, r2, fun j c hc => ?_⟩
            have hj : j < sz := by have := (List.getElem?_eq_some_iff.1 hc).1; omega
            obtain ⟨u, r4, r5⟩ := r3 j c hc
            refine ⟨u, ?_, r5⟩
            rw [hcl2 _ (hpos j hj), List.getElem?_append_left (List.getElem?_eq_some_iff.1 r4).1]
            exact r4
          · rw [List.getElem?_append_right (by omega), hbl] at hkx
            obtain ⟨r1, r2, r3⟩ := hvn.rep _ x hkx
            refine ⟨r1, r2, fun j c hc => ?_⟩
            have hj : j < sz := by have := (List.getElem?_eq_some_iff.1 hc).1; omega
            obtain ⟨u, r4, r5⟩ := r3 j c hc
            refine ⟨u, ?_, r5⟩
            have hle : n * sz ≤ k * sz := Nat.mul_le_mul_right _ (by omega)
            rw [Nat.sub_mul] at r4
            rw [hcl2 _ (hpos j hj), List.getElem?_append_right (by omega), hol, ← r4]
            congr 1
            omega
        have h9 := alloc_rel hk G.w.drew rfl hk.below.drew cells e sz (cs.drop q ++ l) (by rw [hsize, List.length_append, hbl]; exact Nat.mul_le_mul_right _ hge) hrow2
        have h10 := alloc_ext hk G.w.drew rfl cells e
        rw [List.length_set] at h9 h10
        refine ⟨_, _, .sub σ.length sz 0 (n + l.length), σ.set id .dead ++ [.row sz (cs.drop q ++ l)], ⟨0, _, .inr ⟨rfl, rfl⟩, rfl, rfl⟩, hop2 _ _ hrun, h10, h9, ?_⟩
        refine .sub σ.length sz 0 _ G.w.heap.size _ _ (by simp [Cx.new]) (fun _ => by simp) ⟨hge, hcm, cells, e, (0, 0), ?_, by rw [hsize, Nat.zero_add]; exact Nat.le_refl _⟩
        show (G.w.drew.alloc (.cells cells e)).heap[G.w.heap.size]? = _
        exact heap_alloc_new G.w.drew _
end
section
variable {P : Program} {N : Nat} {F : Frm} {σ σ' : List Ob} {Q : Exit → Frm → List Ob → Prop} {ops : Array Oper} {o : Oper} {l : List Oper} {x : AV}
theorem kops_opR {d : Nat} {R : AV → List Ob → Prop} (hd : o.dst = some d) (hN : Nat.blt d N = true) (hr : Runs ops F o true) (hD : DoesR P o F σ R) (k : ∀ x σ', R x σ' → KOps P N ops l ((d, x) :: F) σ' Q) : KOps P N ops (o :: l) F σ Q := fun G a hs => by
  unfold wpList
  rw [if_pos (hr.wanted hs.fr)]
  left
  refine hD G a _ _ hs.rel (fun y _ => rep_eval hs.fr y) (fun v G' x σ' hR e r hv => ?_)
  rw [hd]
  exact wpList_mono (fun e' a w q => liftK_mono (.of e) (fun _ _ _ x => x) q) _ _ _ (k x σ' hR G' _ ((hs.step e r).put (by simpa [Nat.blt_eq] using hN) hv))
theorem rep_own_sub {G : Cx} {v : Value} {id sz n : Nat} (h0 : 0 < n) (h : Rep G v (.own id sz n)) : Rep G v (.sub id sz 0 n) := by
  cases h with
  | own0 => omega
  | own _ _ _ b cap hm hn hc hb =>
    obtain ⟨cur, te, f, h3, h4⟩ := hb
    exact .sub id sz 0 n b cap _ hm (fun _ => by simp) ⟨hn, hc, cur, te, f, h3, by rw [h4, Nat.zero_add]; exact Nat.le_refl _⟩
theorem kwk_sub0 {d id sz n : Nat} (hd : F.get d = .own id sz n) (h0 : 0 < n) : WeakK N F σ ((d, .sub id sz 0 n) :: F) σ := fun G a h =>
  ⟨G, rfl, .refl G, h.rel, h.fr.more (rep_own_sub h0 (by rw [← hd]; exact h.fr d)), h.df, h.nt⟩
structure CallR (P : Program) (f : FuncId) (args : List AV) (σ : List Ob) (y : AV) (σ' : List Ob) : Prop where
  ent : Enters P f
  call : ∀ (G : Cx) (vargs : Array Value), Rel G σ → vargs.size = args.length → (∀ (j : Nat) v x, vargs[j]? = some v → args[j]? = some x → Rep G v x) →
    Calls P f vargs G.w fun ex w' => ∃ (v : Value) (G' : Cx), ex = .returned v ∧ G'.w = w' ∧ KE G G' ∧ Rel G' σ' ∧ Rep G' v y
variable {d : Nat} {fo : Operand} {ar : Array Operand} {ts : Array TypeId} {f : FuncId} {y : AV} {args caps : List AV}
theorem ops_callR (hd : o.dst = some d) (hN : Nat.blt d N = true) (hr : Runs ops F o true) (ho : o.op = .call { callee := .value fo, args := ar, argTypes := ts }) (hf : F.eval fo = .fn f caps) (hp : CallR P f args σ y σ') (ha : ar.toList.map F.eval ++ caps = args) (hF : ∀ p ∈ F, Lo 1 p.2)
    (k : AOps P N ops l ((d, y) :: F) σ' Q) : AOps P N ops (o :: l) F σ Q := fun G a hs => by
  unfold wpList
  rw [if_pos (hr.wanted hs.fr)]
  left
  obtain ⟨cap, h1, h2, h3⟩ := call_args ho (fun y _ => rep_eval hs.fr y) hf
  rw [ha] at h2 h3
  unfold Oper.wp
  rw [call_enter ho a.eval h1 hp.ent G.w, Oper.upon_enter]
  refine (hp.call G _ hs.rel h2 h3).mono ?_
  rintro ex w' ⟨v, G', rfl, rfl, hk, hr', hv⟩
  rw [hd]
  have hfr : FOk G' a F := fr_keep hF hs.fr hk
  exact wpList_mono (fun e' a w q => lift_mono hk.step (fun _ _ _ x => x) q) _ _ _ (k G' _ (S8.put ⟨hr', hfr, hs.df, hs.nt⟩ (by simpa [Nat.blt_eq] using hN) hv))
theorem callR_fn {fn : Func} {c : Code} {t : Nat} (hf : P.funcs[f]? = some fn) (hname : (fn.name == "runtime.NumGoroutine") = false) (hb : fn.body = some c) (hn : args.length ≤ fn.ntmps) (hres : fn.results.toList = [.tmp t])
    (h : KWp P fn.ntmps c (argF 0 args) σ (fun e F σ1 => (e = .normal ∨ e = .ret) ∧ F.get t = y ∧ σ1 = σ')) : CallR P f args σ y σ' := by
  refine ⟨enters_of hf hname hb, fun G vargs hrel hsz hrep => ?_⟩
  refine calls_of_wp hf hb ?_
  have hfo : FOk G { tmps := vargs ++ Array.replicate (fn.ntmps - vargs.size) undef, defers := [] } (argF 0 args) := by
    intro d
    rw [argF_get]
    simp only [Nat.zero_le, if_true, Nat.sub_zero]
    by_cases hd : d < args.length
    · have h1 : (vargs ++ Array.replicate (fn.ntmps - vargs.size) undef).getD d undef = vargs[d]'(by omega) := by
        rw [Array.getD_eq_getD_getElem?, Array.getElem?_append_left (by omega)]
        simp [show d < vargs.size by omega]
      rw [h1]
      have h2 : args.getD d .any = args[d] := by rw [List.getD_eq_getElem?_getD, List.getElem?_eq_getElem hd]; rfl
      rw [h2]
      exact hrep d _ _ (by simp [show d < vargs.size by omega]) (by simp [hd])
    · have h2 : args.getD d .any = .any := by
        rw [List.getD_eq_getElem?_getD, List.getElem?_eq_none (by omega)]; rfl
      rw [h2]; exact .any _
  have hs8 : S8 fn.ntmps G { tmps := vargs ++ Array.replicate (fn.ntmps - vargs.size) undef, defers := [] } (argF 0 args) σ := ⟨hrel, hfo, rfl, by simp; omega⟩
  refine Code.wp_mono (fun e a w q => ?_) (h G _ hs8)
  obtain ⟨G', F', σ1, rfl, h2, h3, he, hy, rfl⟩ := q
  have hrl : ResL P F' σ1 fn.results.toList [y] := by rw [hres]; exact .cons _ _ _ _ (.tmp t y hy) .nil
  obtain ⟨v, h6, h7⟩ := results_run (fn := fn) h3.rel h3.fr hrl
  have post : ∃ (v' : Value) (G'' : Cx), Ending.returned v = .returned v' ∧ G''.w = G'.w ∧ KE G G'' ∧ Rel G'' σ1 ∧ Rep G'' v' y := ⟨v, G', rfl, rfl, h2, h3.rel, h7⟩
  rcases he with rfl | rfl
  · exact ⟨h3.df, _, h6, post⟩
  · exact ⟨h3.df, _, h6, post⟩
end
theorem kwk_sub {N : Nat} {F : Frm} {σ : List Ob} : ∀ {F'}, Sub F F' → WeakK N F σ F' σ := fun {F'} h G a hs => by
  refine ⟨G, rfl, .refl G, hs.rel, ?_, hs.df, hs.nt⟩
  have key : ∀ F', Sub F F' → FOk G a F' := by
    intro F'
    induction F' with
    | nil => intro _ d; exact .any _
    | cons p F' ih =>
      obtain ⟨d, y⟩ := p
      intro h t
      simp only [Frm.get]
      cases e : Nat.beq d t with
      | true => have := Nat.eq_of_beq_eq_true e; subst this; rw [← h.1]; exact hs.fr d
      | false => exact ih h.2 t
  exact key F' h
theorem kw_of {P : Program} {N : Nat} {F : Frm} {σ : List Ob} {Q : Exit → Frm → List Ob → Prop} {c : Code} (h : EWp P N c F σ Q) : KWp P N c F σ Q := fun G a hs =>
  Code.wp_mono (fun e a w q => by obtain ⟨G', F', σ', h1, h2, h3, h4⟩ := q; exact ⟨G', F', σ', h1, KE.of h2, h3, h4⟩) (h G a hs)
theorem kw_draw {P : Program} {N : Nat} {l : List Oper} {F : Frm} {σ : List Ob} {Q : Exit → Frm → List Ob → Prop} {id : Nat} (hm : P.follows .mixedOrders = true) (h : EDraw P N l F σ Q) : KWp P N (.region id l.toArray true) F σ Q := kw_of (ew_draw hm h)
theorem kdraw_ex {P : Program} {N : Nat} {l : List Oper} {F : Frm} {σ : List Ob} {Q : Exit → Frm → List Ob → Prop} (h : EX P N l.toArray l [] l F σ (fun F' σ' => Q .normal F' σ')) : EDraw P N l F σ Q := by
  obtain ⟨F', σ', out, ks, sts, h1, h2, h3⟩ := h
  exact edraw_steps h1 (by simpa using h2) h3
theorem set_last {α : Type} (l : List α) (a b : α) : (l ++ [a]).set l.length b = l ++ [b] := by
  rw [List.set_append_right _ _ (Nat.le_refl _), Nat.sub_self]; rfl
theorem last_get {α : Type} (l : List α) (a : α) : (l ++ [a])[l.length]? = some a := by simp
theorem aw_fzs {P : Program} {N : Nat} {c : Code} {F : Frm} {Q : Exit → Frm → List Ob → Prop} {id sz sz2 : Nat} {S : List Ob} {rows : List (List AV)} (hs : S[id]? = some (.row sz (ownR S.length sz2 rows)))
    (h : ∀ X, AWp P N c F (S.set id (.row sz (rows.map .sl)) ++ X) Q) : AWp P N c F (S ++ obsR sz2 rows) Q := by
  obtain ⟨X, hX⟩ := wk_fzs (N := N) (F := F) hs
  exact aw_weak hX (h X)
theorem lo_nils (n : Nat) : ∀ e ∈ List.replicate n (AV.s (.slice none 0 0)), ∀ c ∈ e.cells, Lo 0 c := by
  intro e he c hc
  rw [List.eq_of_mem_replicate he] at hc
  simp [AV.cells] at hc; subst hc; exact .s _
theorem kwk_own {N : Nat} {F : Frm} {σ : List Ob} {d : Nat} {x : AV} (sz : Nat) (hd : F.get d = x) (hx : x = .emp ∨ x = .s (.slice none 0 0)) : WeakK N F σ ((d, .own σ.length sz 0) :: F) (σ ++ [.row sz []]) := fun G a h => by
  have he := nil_ext h.rel
  refine ⟨G.new σ.length G.w none, rfl, .of he, nil_rel h.rel sz, (h.fr.ext he).more ?_, h.df, h.nt⟩
  have h1 := h.fr d
  rw [hd] at h1
  generalize a.tmps.getD d undef = v at h1
  rcases hx with rfl | rfl
  · cases h1 with | emp A hA => exact .own0 σ.length sz A hA (by simp [Cx.new])
  · cases h1; exact .own0 σ.length sz none (fun a ha => by cases ha) (by simp [Cx.new])
def stoN (A : List Ob) (sz : Nat) (rows : List (List AV)) : List Ob := A ++ .row 1 (ownR (A.length + 1) sz rows) :: obsR sz rows
theorem stoN_len (A : List Ob) (sz : Nat) (rows : List (List AV)) : (stoN A sz rows).length = rows.length + (A.length + 1) := by simp [stoN, obsR_len]; omega
theorem stoN_row {A : List Ob} {sz : Nat} {rows : List (List AV)} {j : Nat} {r : List AV} (h : rows[j]? = some r) : (stoN A sz rows)[j + (A.length + 1)]? = some (.row sz r) := by
  unfold stoN
  rw [List.getElem?_append_right (by omega), show j + (A.length + 1) - A.length = j + 1 by omega]
  exact obsR_get h
theorem stoN_loOb {A : List Ob} {sz : Nat} {rows : List (List AV)} (hA : ∀ ob ∈ A, LoOb (A.length + 1) ob) (hr : ∀ r ∈ rows, ∀ e ∈ r, ∀ c ∈ e.cells, Lo 0 c) (hup : ∀ ob ∈ A, ∀ k, A.length + 1 ≤ k → LoOb k ob) : ∀ ob ∈ stoN A sz rows, LoOb (stoN A sz rows).length ob := by
  rw [stoN_len]
  intro ob hob
  simp only [stoN, List.mem_append, List.mem_cons] at hob
  rcases hob with h | rfl | h
  · exact hup ob h _ (by omega)
  · intro e he c hc
    simp only [ownR, List.mem_map, List.mem_range] at he
    obtain ⟨t, ht, rfl⟩ := he
    simp [AV.cells] at hc; subst hc
    exact .own _ _ _ (by omega)
  · simp only [obsR, List.mem_map] at h
    obtain ⟨r, h1, rfl⟩ := h
    intro e he c hc; exact lo_up (hr r h1 e he c hc)
theorem stoN_ren {A : List Ob} {sz : Nat} {rows : List (List AV)} {v K : Nat} {r : List AV} {x : AV} (hA : ∀ a ∈ A, ObR2 (mv K (v + (A.length + 1))) a a) (hv : rows[v]? = some r) (hK : K = rows.length + (A.length + 1)) (hlo : ∀ r ∈ rows, ∀ e ∈ r, ∀ c ∈ e.cells, Lo 0 c) (hx : ∀ c ∈ x.cells, Lo 0 c) :
    StR2 ((A ++ .row 1 ((ownR (A.length + 1) sz rows).set v (.own K sz (r.length + 1))) :: (obsR sz rows).set v .dead) ++ [.row sz (r ++ [x])]) (mv K (v + (A.length + 1))) (stoN A sz (rows.set v (r ++ [x]))) := by
  have hvl : v < rows.length := (List.getElem?_eq_some_iff.1 hv).1
  refine stR2_mv (i := v + (A.length + 1)) (by simp [obsR_len, hK]; omega) (by rw [stoN_len, List.length_set, hK]) (ob' := .row sz (r ++ [x])) (stoN_row (List.getElem?_set_self hvl)) (.of _ _ (.rowE (by
    intro e he
    rcases List.mem_append.1 he with h | h
    · exact hlo r (List.mem_of_getElem? hv) e h
    · simp at h; subst h; exact hx) rfl)) (fun t a b ht ha hb => ?_)
  unfold stoN at hb
  by_cases h1 : t < A.length
  · rw [List.getElem?_append_left h1] at ha hb
    rw [ha] at hb
    obtain rfl := Option.some.inj hb
    exact hA a (List.mem_of_getElem? ha)
  · rw [List.getElem?_append_right (by omega)] at ha hb
    obtain ⟨u, hu⟩ : ∃ u, t - A.length = u := ⟨_, rfl⟩
    rw [hu] at ha hb
    cases u with
    | zero =>
      simp only [List.getElem?_cons_zero, Option.some.injEq] at ha hb
      subst ha hb
      have := ownR_mv (m := A.length + 1) (sz := sz) (sz0 := 1) (rows := rows) (j := v) (k := K) (r := r ++ [x]) hvl hK
      rwa [List.length_append] at this
    | succ u =>
      rw [List.getElem?_cons_succ] at ha hb
      rw [List.getElem?_set_ne (by omega)] at ha
      rw [obsR_set, List.getElem?_set_ne (by omega)] at hb
      exact obsR_mv hlo ha hb
end Go.Proofs.Ytmhbfoaecebobaa.Aw
end
