/-
  Texts joined: SpQ, ClS, SpR, SpS, SpL, OpA, SpU, SpT. Conditions: none.
-/
import Derived.Test.YthdpacbjbdkemaaJC10
import Derived.Test.YthdpacbjbdkemaaJC6
import Derived.Test.YthdpacbjbdkemaaJC5
import Derived.Test.YthdpacbjbdkemaaJC7
import Derived.Test.YthdpacbjbdkemaaJC9
import Derived.Test.YthdpacbjbdkemaaRows
import Derived.ProofKit
import Derived.Below
import Derived.ChangeShapes
import Derived.ChangeSame
import Derived.ChangeSlices
import Derived.DataReads
section
namespace Go.Proofs.Ythdpacbjbdkemaa
set_option linter.unusedSimpArgs false
set_option linter.unusedVariables false
open Go.RowKit
theorem enabledL_in {m : List Int} {t : Int} : ∀ {ts : List Tr} {i : Nat}, t ∈ enabledL m i ts → (i : Int) ≤ t ∧ t < ((i + ts.length : Nat) : Int)
  | [], i, h => by cases h
  | x :: ts, i, h => by
    rw [enabledL] at h
    have step : t ∈ enabledL m (i + 1) ts → (i : Int) ≤ t ∧ t < ((i + (x :: ts).length : Nat) : Int) := by
      intro h
      have := enabledL_in h
      simp only [List.length_cons] at this ⊢
      omega
    split at h
    · rcases List.mem_cons.1 h with h | h
      · subst h; simp only [List.length_cons]; omega
      · exact step h
    · exact step h
theorem mvOk_app {n : Net} {st : List (List Int)} {mv : List Mvx} {f : Bool} (h : MvOk n ⟨st, mv, f⟩) {st' : List (List Int)} (hs : st.length ≤ st'.length) {m : Mvx} (hm : 0 ≤ m.fr ∧ m.fr < st'.length ∧ 0 ≤ m.tt ∧ m.tt < st'.length ∧ 0 ≤ m.sym ∧ m.sym < n.trans.length) (f' : Bool) : MvOk n ⟨st', mv ++ [m], f'⟩ := by
  intro k hk
  simp only [List.length_append, List.length_singleton] at hk
  by_cases h1 : k < mv.length
  · have := h k h1
    rw [gtiL h1]
    simp only at this ⊢
    omega
  · have e : k = mv.length := by omega
    subst e
    rw [gtiZ]
    exact hm
theorem stepS_MvOk {n : Net} {most : Int} {i : Nat} {s s' : Spc} {x : List Int} {t : Int} (h : MvOk n s) (hi : i < s.st.length) (ht : 0 ≤ t ∧ t < n.trans.length) (he : stepS most i s (FireE n x t) t = some s') : MvOk n s' ∧ s.st.length ≤ s'.st.length := by
  unfold stepS at he
  split at he
  · cases he; exact ⟨h, Nat.le_refl _⟩
  · split at he
    · cases he
    · cases he
      by_cases hf : findI s.st (FireE n x t).1 < 0
      · simp only [if_pos hf]
        refine ⟨mvOk_app (f := s.full) h (by simp) ?_ _, by simp⟩
        simp only [List.length_append, List.length_singleton]
        omega
      · simp only [if_neg hf]
        obtain ⟨k, h1, _, h3⟩ := findI_pos (S := s.st) (m := (FireE n x t).1) (by omega)
        refine ⟨mvOk_app (f := s.full) h (Nat.le_refl _) ?_ _, Nat.le_refl _⟩
        simp only
        omega
theorem rowS_MvOk {n : Net} {most : Int} {i : Nat} {x : List Int} : ∀ (on : List Int) (s s' : Spc), MvOk n s → i < s.st.length → (∀ t ∈ on, 0 ≤ t ∧ t < (n.trans.length : Int)) → rowS n most i x on s = some s' → MvOk n s' ∧ s.st.length ≤ s'.st.length
  | [], s, s', hs, _, _, h => by simp only [rowS, Option.some.injEq] at h; subst h; exact ⟨hs, Nat.le_refl _⟩
  | t :: ts, s, s', hs, hi, ht, h => by
    simp only [rowS] at h
    cases e : stepS most i s (FireE n x t) t with
    | none => rw [e] at h; cases h
    | some s1 =>
      rw [e] at h
      obtain ⟨g1, g2⟩ := stepS_MvOk hs hi (ht t List.mem_cons_self) e
      obtain ⟨k1, k2⟩ := rowS_MvOk ts s1 s' g1 (by omega) (fun t h => ht t (List.mem_cons_of_mem _ h)) h
      exact ⟨k1, by omega⟩
theorem expS_MvOk {n : Net} {most : Int} : ∀ (f i : Nat) (s s' : Spc), MvOk n s → expS n most f i s = some s' → MvOk n s'
  | 0, i, s, s', hs, h => by simp only [expS, Option.some.injEq] at h; subst h; exact hs
  | f + 1, i, s, s', hs, h => by
    unfold expS at h
    split at h
    · rename_i hi
      cases e : rowS n most i (gti s.st i) (enabledL (gti s.st i) 0 n.trans) s with
      | none => rw [e] at h; cases h
      | some s1 =>
        rw [e] at h
        refine expS_MvOk f (i + 1) s1 s' (rowS_MvOk _ s s1 hs hi (fun t ht => ?_) e).1 h
        have := enabledL_in ht
        omega
    · simp only [Option.some.injEq] at h; subst h; exact hs
theorem explE_MvOk {n : Net} {m : List Int} {most : Int} (h : (explE n m most).2 = 0) : MvOk n (explE n m most).1 := by
  unfold explE at h ⊢
  split at h
  · rename_i h1
    rw [if_pos h1]
    split at h
    · simp at h
    · rename_i h2
      rw [if_neg h2]
      cases e : expS n most (most.toNat + 1) 0 ⟨[m], [], true⟩ with
      | none => rw [e] at h; simp [explR] at h
      | some s => exact expS_MvOk _ _ _ _ (fun k hk => by simp at hk) e
  · simp at h
def wholeE (n : Net) (most : Int) : Spc × Int := if (oneE n n.source).2 ≠ 0 then (zSp, (oneE n n.source).2) else if (explE n (oneE n n.source).1 most).2 = 0 ∧ (explE n (oneE n n.source).1 most).1.full = false then (zSp, 13) else explE n (oneE n n.source).1 most
def givenE (n : Net) (most : Int) : Int := if validB n = true then (if most < 1 ∨ 2000 < most then 2 else 0) else 1
def wordsE (n : Net) (s : Spc) (w : List ByteArray) : List Bool := w.foldl (fun set a => stepE n s.mv a set) (startE n s)
def accS (n : Net) (s : Spc) (w : List ByteArray) : Bool := decide (0 ≤ findI s.st (oneE n n.sink).1) && gti (wordsE n s w) (findI s.st (oneE n n.sink).1).toNat
def acceptsE (n : Net) (w : List ByteArray) (most : Int) : Bool × Int :=
  if validB n = false ∨ (w.any fun a => !nameB a) = true then (false, 1) else if givenE n most ≠ 0 then (false, givenE n most) else if 200 < w.length then (false, 5) else if (wholeE n most).2 ≠ 0 then (false, (wholeE n most).2) else (accS n (wholeE n most).1 w, 0)
end Go.Proofs.Ythdpacbjbdkemaa
namespace Go.Proofs.Ythdpacbjbdkemaa.Aw
set_option linter.unusedSimpArgs false
set_option linter.unusedVariables false
set_option linter.unusedSectionVars false
open Go Go.RowKit Go.Proofs
variable {P : Program} [IsP P]
theorem isName_pf (s : ByteArray) : Pure P 63 [eS s] (eB (nameB s)) :=
  retB_pure (ent_of Try.func63 rfl rfl) fun G vargs hst hsz hrep => by
    obtain ⟨q⟩ := vargs
    match q, hsz with
    | [x], _ =>
      have h3 := rep_s (hrep 0 x _ rfl rfl)
      subst h3
      exact isName_any s G.w
theorem pvalid_pf (n : Net) : Pure P 60 [eN n] (eB (validB n)) :=
  retB_pure (ent_of Try.func60 rfl rfl) fun G vargs hst hsz hrep => by
    obtain ⟨vt, rfl, h1⟩ := args1 hst hsz hrep
    exact valid_any n vt _ _ G.w h1
theorem given_pf (n : Net) (most : Int) : Pure P 51 [eN n, eI most] (eI (givenE n most)) := by
  have hv := pvalid_pf (P := P) n
  have HI : givenE n most = if validB n = true then (if most < 1 ∨ 2000 < most then 2 else 0) else 1 := rfl
  generalize givenE n most = R at HI ⊢
  generalize validB n = z at hv HI
  refine aw_fn (by rw [IsP.eq (P := P)]; exact Try.func51) rfl rfl rfl rfl rfl (lo_cons (lo_N n) (lo_cons (.s _) lo_nil)) (.s _) (by simp only [argF]; rfl) ?_
  repeat (first | refine aw_seq ?_ | refine ath_n ?_ | refine aw_skip ?_ | refine abl_n ?_ | refine aw_block ?_)
  refine aw_region ?_
  refine ops_op rfl rfl (runs_none rfl) (does_box rfl rfl rfl rfl) ?_
  refine aops_weak (wk_froz (id := 0) rfl) (aops_weak (wk_ref (d := 2) rfl rfl rfl) ?_)
  refine ops_op rfl rfl (runs_none rfl) (mv_s (.inr rfl) rfl) ?_
  refine ops_nil ?_
  repeat (first | refine aw_seq ?_ | refine ath_n ?_ | refine aw_skip ?_ | refine abl_n ?_ | refine aw_block ?_)
  all_goals refine aw_region ?_
  all_goals (first | refine ops_op rfl rfl (runs_none rfl) (does_load_refw rfl ta24 ti24 rfl rfl) ?_ | refine ops_op rfl rfl (runs_none rfl) (does_load_whole rfl ta24 ti24 rfl rfl rfl rfl rfl) ?_ | refine ops_op rfl rfl (runs_none rfl) (does_load_refs rfl ta24 ti24 rfl (Nat.le_of_ble_eq_true rfl)) ?_ | refine ops_op rfl rfl (runs_none rfl) (does_load_ptrs rfl ta24 ti24 rfl rfl rfl rfl (Nat.le_of_ble_eq_true rfl)) ?_)
  all_goals (first | refine ops_opP rfl rfl (runs_none rfl) (does_call rfl rfl (hv) (evc_cons rfl evc_nil)) (fun h6 => ?_) (fun h6 => ?_) | refine ops_opB rfl rfl (runs_none rfl) (does_call rfl rfl (hv) (evc_cons rfl evc_nil)) (fun h6 => ?_) (fun h6 => ?_))
  all_goals (first | refine ops_op rfl rfl (runs_none rfl) (does_notp rfl rfl) ?_ | refine ops_op rfl rfl (runs_none rfl) (does_not rfl rfl) ?_)
  all_goals refine ops_nil ?_
  all_goals (repeat (first | refine aw_seq ?_ | refine ath_n ?_ | refine aw_skip ?_ | refine abl_n ?_ | refine aw_block ?_))
  all_goals (first | refine aw_true rfl ?_ | refine aw_false rfl ?_)
  all_goals (repeat (first | refine aw_seq ?_ | refine ath_n ?_ | refine aw_skip ?_ | refine abl_n ?_ | refine aw_block ?_))
  rotate_left 1
  · skip
    refine aw_region ?_
    refine ops_op rfl rfl (runs_none rfl) (mv_s (.inr rfl) rfl) ?_
    refine ops_nil ?_
    repeat (first | refine aw_seq ?_ | refine ath_n ?_ | refine aw_skip ?_ | refine abl_n ?_ | refine aw_block ?_)
    (refine aw_ret ?_; repeat (first | refine ath_r ?_ | refine abl_r ?_))
    exact post1 (.inr rfl) rfl (congrArg eI (by rw [HI, if_neg (by rw [h6]; simp)]))
  rw [if_pos h6] at HI
  all_goals refine aw_region ?_
  all_goals refine ops_op rfl rfl (runs_none rfl) (mv_s (.inl rfl) rfl) ?_
  all_goals (first | refine ops_opP rfl rfl (runs_none rfl) (does_lss rfl rfl rfl) (fun h9 => ?_) (fun h9 => ?_) | refine ops_opB rfl rfl (runs_none rfl) (does_lss rfl rfl rfl) (fun h9 => ?_) (fun h9 => ?_))
  all_goals refine ops_op rfl rfl (runs_none rfl) (mv_s (.inl rfl) rfl) ?_
  all_goals (first | refine ops_op rfl rfl (runs_y rfl rfl rfl) (mv_s (.inl rfl) rfl) ?_ | refine ops_skip rfl rfl (runs_nf rfl rfl rfl) ?_ | refine ops_skip rfl rfl (runs_nu rfl rfl rfl) ?_)
  all_goals (first | refine ops_opP rfl rfl (runs_y rfl rfl rfl) (does_gtr rfl rfl rfl) (fun h12 => ?_) (fun h12 => ?_) | refine ops_opB rfl rfl (runs_y rfl rfl rfl) (does_gtr rfl rfl rfl) (fun h12 => ?_) (fun h12 => ?_) | refine ops_skip rfl rfl (runs_nf rfl rfl rfl) ?_ | refine ops_skip rfl rfl (runs_nu rfl rfl rfl) ?_)
  all_goals (first | refine ops_op rfl rfl (runs_none rfl) (pickT_s rfl rfl rfl) ?_ | refine ops_op rfl rfl (runs_none rfl) (pickF_s rfl rfl rfl) ?_ | refine ops_op rfl rfl (runs_none rfl) (does_pickT rfl rfl rfl) ?_ | refine ops_op rfl rfl (runs_none rfl) (does_pickF rfl rfl rfl) ?_)
  all_goals refine ops_nil ?_
  all_goals (repeat (first | refine aw_seq ?_ | refine ath_n ?_ | refine aw_skip ?_ | refine abl_n ?_ | refine aw_block ?_))
  all_goals (first | refine aw_true rfl ?_ | refine aw_false rfl ?_)
  all_goals (repeat (first | refine aw_seq ?_ | refine ath_n ?_ | refine aw_skip ?_ | refine abl_n ?_ | refine aw_block ?_))
  all_goals first
    | skip
      refine aw_region ?_
      refine ops_op rfl rfl (runs_none rfl) (mv_s (.inr rfl) rfl) ?_
      refine ops_nil ?_
      repeat (first | refine aw_seq ?_ | refine ath_n ?_ | refine aw_skip ?_ | refine abl_n ?_ | refine aw_block ?_)
      (refine aw_ret ?_; repeat (first | refine ath_r ?_ | refine abl_r ?_))
      exact post1 (.inr rfl) rfl (congrArg eI (by rw [HI, if_pos (by omega)]))
    | skip
  refine aw_region ?_
  refine ops_op rfl rfl (runs_none rfl) (mv_s (.inr rfl) rfl) ?_
  refine ops_nil ?_
  repeat (first | refine aw_seq ?_ | refine ath_n ?_ | refine aw_skip ?_ | refine abl_n ?_ | refine aw_block ?_)
  (refine aw_ret ?_; repeat (first | refine ath_r ?_ | refine abl_r ?_))
  exact post1 (.inr rfl) rfl (congrArg eI (by rw [HI, if_neg (by omega)]))
theorem post_cse {N : Nat} {F : Frm} {σ : List Ob} {ad u : Nat} {id : Nat} {ob : Ob} {cs : List AV} {e1 : AV} {s : Spc} {r : Spc × Int} {m : Int} {e : Exit} (he : e = .normal ∨ e = .ret) (ha : tyAgg P 29 = some true) (hp : F.get ad = .ptr id 3 0 0) (hs : σ[id]? = some ob) (ho : rowOf ob = some (3, cs)) (hk : cs[0]? = some e1) (he1 : e1.cells = (eSpc s).cells) (hu : F.get u = eI m) (hr : r = (s, m)) : APost P [.cell ad 29, .tmp u] (eSE r) e F σ := by
  subst hr
  refine post_cs (N := 0) he ha ti29 hp hs ho hk (by rw [he1]; rfl) hu ?_ (.refl _)
  rw [he1]; exact .refl _
set_option maxHeartbeats 1000000 in
theorem whole_pf (n : Net) (most : Int) : Pure P 53 [eN n, eI most] (eSE (wholeE n most)) := by
  have hi := initial_pf (P := P) n
  have HI : wholeE n most = if (oneE n n.source).2 ≠ 0 then (zSp, (oneE n n.source).2) else if (explE n (oneE n n.source).1 most).2 = 0 ∧ (explE n (oneE n n.source).1 most).1.full = false then (zSp, 13) else explE n (oneE n n.source).1 most := rfl
  generalize wholeE n most = R at HI ⊢
  generalize oneE n n.source = o at hi HI
  have hx := explore_pf (P := P) n o.1 most
  generalize explE n o.1 most = r at hx HI
  refine aw_fn (by rw [IsP.eq (P := P)]; exact Try.func53) rfl rfl rfl rfl rfl (lo_cons (lo_N n) (lo_cons (.s _) lo_nil)) (.tup _ (lo_cons (lo_Spc _) (lo_cons (.s _) lo_nil))) (by simp only [argF]; rfl) ?_
  repeat (first | refine aw_seq ?_ | refine ath_n ?_ | refine aw_skip ?_ | refine abl_n ?_ | refine aw_block ?_)
  refine aw_region ?_
  refine ops_op rfl rfl (runs_none rfl) (does_box rfl rfl rfl rfl) ?_
  refine aops_weak (wk_froz (id := 0) rfl) (aops_weak (wk_ref (d := 2) rfl rfl rfl) ?_)
  refine ops_op rfl rfl (runs_none rfl) (does_alloc rfl ti29 rfl rfl) ?_
  refine ops_op rfl rfl (runs_none rfl) (mv_s (.inr rfl) rfl) ?_
  refine ops_nil ?_
  repeat (first | refine aw_seq ?_ | refine ath_n ?_ | refine aw_skip ?_ | refine abl_n ?_ | refine aw_block ?_)
  refine aw_region ?_
  first | refine ops_op rfl rfl (runs_none rfl) (does_load_refw rfl ta24 ti24 rfl rfl) ?_ | refine ops_op rfl rfl (runs_none rfl) (does_load_whole rfl ta24 ti24 rfl rfl rfl rfl rfl) ?_ | refine ops_op rfl rfl (runs_none rfl) (does_load_refs rfl ta24 ti24 rfl (Nat.le_of_ble_eq_true rfl)) ?_ | refine ops_op rfl rfl (runs_none rfl) (does_load_ptrs rfl ta24 ti24 rfl rfl rfl rfl (Nat.le_of_ble_eq_true rfl)) ?_
  refine ops_op rfl rfl (runs_none rfl) (does_call rfl rfl (hi) (evc_cons rfl evc_nil)) ?_
  first | refine ops_op rfl rfl (runs_none rfl) (mv_tup (.inl rfl) rfl) ?_ | refine ops_op rfl rfl (runs_none rfl) (mv_s (.inl rfl) rfl) ?_
  refine ops_op rfl rfl (runs_none rfl) (does_extract rfl rfl rfl) ?_
  refine ops_op rfl rfl (runs_none rfl) (does_extract rfl rfl rfl) ?_
  first | refine ops_op rfl rfl (runs_none rfl) (mv_own (.inr rfl) rfl) ?_ | refine ops_op rfl rfl (runs_none rfl) (mv_sl (.inr rfl) rfl) ?_ | refine ops_op rfl rfl (runs_none rfl) (mv_s (.inr rfl) rfl) ?_ | refine ops_op rfl rfl (runs_none rfl) (mv_emp (.inr rfl) rfl) ?_ | refine ops_op rfl rfl (runs_none rfl) (mv_sub (.inr rfl) rfl) ?_
  refine ops_op rfl rfl (runs_none rfl) (mv_s (.inr rfl) rfl) ?_
  refine ops_nil ?_
  repeat (first | refine aw_seq ?_ | refine ath_n ?_ | refine aw_skip ?_ | refine abl_n ?_ | refine aw_block ?_)
  all_goals refine aw_region ?_
  all_goals refine ops_op rfl rfl (runs_none rfl) (mv_s (.inl rfl) rfl) ?_
  all_goals (first | refine ops_opP rfl rfl (runs_none rfl) (does_neq rfl rfl rfl) (fun h15 => ?_) (fun h15 => ?_) | refine ops_opB rfl rfl (runs_none rfl) (does_neq rfl rfl rfl) (fun h15 => ?_) (fun h15 => ?_))
  all_goals refine ops_nil ?_
  all_goals (repeat (first | refine aw_seq ?_ | refine ath_n ?_ | refine aw_skip ?_ | refine abl_n ?_ | refine aw_block ?_))
  all_goals (first | refine aw_true rfl ?_ | refine aw_false rfl ?_)
  all_goals (repeat (first | refine aw_seq ?_ | refine ath_n ?_ | refine aw_skip ?_ | refine abl_n ?_ | refine aw_block ?_))
  · rw [if_pos h15] at HI
    refine aw_region ?_
    refine ops_op rfl rfl (runs_none rfl) (does_build rfl ti29 tp29 rfl rfl) ?_
    refine ops_op rfl rfl (runs_none rfl) (mv_s (.inl rfl) rfl) ?_
    refine ops_eff rfl (runs_none rfl) (does_store rfl ti29 rfl rfl rfl rfl rfl rfl (by decide) (by decide)) ?_
    refine ops_op rfl rfl (runs_none rfl) (mv_s (.inr rfl) rfl) ?_
    refine ops_nil ?_
    repeat (first | refine aw_seq ?_ | refine ath_n ?_ | refine aw_skip ?_ | refine abl_n ?_ | refine aw_block ?_)
    (refine aw_ret ?_; repeat (first | refine ath_r ?_ | refine abl_r ?_))
    exact post_zs (N := 0) (.inr rfl) ta29 ti29 rfl rfl rfl rfl rfl rfl HI
  rw [if_neg h15] at HI
  refine aw_region ?_
  first | refine ops_op rfl rfl (runs_none rfl) (does_load_refw rfl ta24 ti24 rfl rfl) ?_ | refine ops_op rfl rfl (runs_none rfl) (does_load_whole rfl ta24 ti24 rfl rfl rfl rfl rfl) ?_ | refine ops_op rfl rfl (runs_none rfl) (does_load_refs rfl ta24 ti24 rfl (Nat.le_of_ble_eq_true rfl)) ?_ | refine ops_op rfl rfl (runs_none rfl) (does_load_ptrs rfl ta24 ti24 rfl rfl rfl rfl (Nat.le_of_ble_eq_true rfl)) ?_
  first | refine ops_op rfl rfl (runs_none rfl) (mv_own (.inl rfl) rfl) ?_ | refine ops_op rfl rfl (runs_none rfl) (mv_sl (.inl rfl) rfl) ?_ | refine ops_op rfl rfl (runs_none rfl) (mv_s (.inl rfl) rfl) ?_ | refine ops_op rfl rfl (runs_none rfl) (mv_emp (.inl rfl) rfl) ?_ | refine ops_op rfl rfl (runs_none rfl) (mv_sub (.inl rfl) rfl) ?_
  refine ops_op rfl rfl (runs_none rfl) (mv_s (.inl rfl) rfl) ?_
  refine ops_op rfl rfl (runs_none rfl) (does_call rfl rfl (hx) (evc_cons rfl (evc_cons rfl (evc_cons rfl evc_nil)))) ?_
  first | refine ops_op rfl rfl (runs_none rfl) (mv_tup (.inl rfl) rfl) ?_ | refine ops_op rfl rfl (runs_none rfl) (mv_s (.inl rfl) rfl) ?_
  refine ops_op rfl rfl (runs_none rfl) (does_extract rfl rfl rfl) ?_
  refine ops_op rfl rfl (runs_none rfl) (does_extract rfl rfl rfl) ?_
  refine ops_op rfl rfl (runs_none rfl) (does_alloc rfl ti29 rfl rfl) ?_
  refine ops_eff rfl (runs_none rfl) (does_store rfl ti29 rfl rfl rfl rfl rfl rfl (by decide) (by decide)) ?_
  refine ops_op rfl rfl (runs_none rfl) (mv_s (.inr rfl) rfl) ?_
  refine ops_nil ?_
  repeat (first | refine aw_seq ?_ | refine ath_n ?_ | refine aw_skip ?_ | refine abl_n ?_ | refine aw_block ?_)
  refine aw_weak (wk_froz (id := 2) rfl) ?_
  refine aw_weak (wk_ref (d := 8) rfl rfl rfl) ?_
  obtain ⟨b, hb⟩ : ∃ b, r.1.full = b := ⟨_, rfl⟩
  all_goals refine aw_region ?_
  all_goals refine ops_op rfl rfl (runs_none rfl) (mv_s (.inl rfl) rfl) ?_
  all_goals (first | refine ops_opP rfl rfl (runs_none rfl) (does_eql rfl rfl rfl) (fun h26 => ?_) (fun h26 => ?_) | refine ops_opB rfl rfl (runs_none rfl) (does_eql rfl rfl rfl) (fun h26 => ?_) (fun h26 => ?_))
  all_goals refine ops_op rfl rfl (runs_none rfl) (mv_s (.inl rfl) rfl) ?_
  all_goals (first | refine ops_op rfl rfl (runs_y rfl rfl rfl) (does_fieldAddr_ptr rfl tf29_2 (by decide) rfl) ?_ | refine ops_op rfl rfl (runs_y rfl rfl rfl) (does_fieldAddr_ref rfl tf29_2 (by decide) rfl) ?_ | refine ops_skip rfl rfl (runs_nt rfl rfl rfl) ?_ | refine ops_skip rfl rfl (runs_nu rfl rfl rfl) ?_)
  all_goals (first | refine ops_op rfl rfl (runs_y rfl rfl rfl) (does_load_ref rfl ta4 rfl) ?_ | refine ops_op rfl rfl (runs_y rfl rfl rfl) (does_load_ptr rfl ta4 rfl rfl rfl rfl rfl) ?_ | refine ops_skip rfl rfl (runs_nt rfl rfl rfl) ?_ | refine ops_skip rfl rfl (runs_nu rfl rfl rfl) ?_)
  all_goals (first | refine ops_op rfl rfl (runs_y rfl rfl rfl) (does_notp rfl rfl) ?_ | refine ops_op rfl rfl (runs_y rfl rfl rfl) (does_not rfl rfl) ?_ | refine ops_skip rfl rfl (runs_nt rfl rfl rfl) ?_ | refine ops_skip rfl rfl (runs_nu rfl rfl rfl) ?_)
  all_goals (first | refine ops_op rfl rfl (runs_none rfl) (pickT_s rfl rfl rfl) ?_ | refine ops_op rfl rfl (runs_none rfl) (pickF_s rfl rfl rfl) ?_ | refine ops_op rfl rfl (runs_none rfl) (does_pickT rfl rfl rfl) ?_ | refine ops_op rfl rfl (runs_none rfl) (does_pickF rfl rfl rfl) ?_)
  all_goals refine ops_nil ?_
  all_goals (repeat (first | refine aw_seq ?_ | refine ath_n ?_ | refine aw_skip ?_ | refine abl_n ?_ | refine aw_block ?_))
  · cases b
    · rw [if_pos ⟨h26, hb⟩] at HI
      refine aw_true (by show AV.s (.bool (!r.1.full)) = _; rw [hb]; rfl) ?_
      repeat (first | refine aw_seq ?_ | refine ath_n ?_ | refine aw_skip ?_ | refine abl_n ?_ | refine aw_block ?_)
      refine aw_region ?_
      refine ops_op rfl rfl (runs_none rfl) (does_build rfl ti29 tp29 rfl rfl) ?_
      refine ops_eff rfl (runs_none rfl) (does_store rfl ti29 rfl rfl rfl rfl rfl rfl (by decide) (by decide)) ?_
      refine ops_op rfl rfl (runs_none rfl) (mv_s (.inr rfl) rfl) ?_
      refine ops_nil ?_
      repeat (first | refine aw_seq ?_ | refine ath_n ?_ | refine aw_skip ?_ | refine abl_n ?_ | refine aw_block ?_)
      (refine aw_ret ?_; repeat (first | refine ath_r ?_ | refine abl_r ?_))
      exact post_zs (N := 0) (.inr rfl) ta29 ti29 rfl rfl rfl rfl rfl rfl HI
    · rw [if_neg (by rw [hb]; simp)] at HI
      refine aw_false (by show AV.s (.bool (!r.1.full)) = _; rw [hb]; rfl) ?_
      repeat (first | refine aw_seq ?_ | refine ath_n ?_ | refine aw_skip ?_ | refine abl_n ?_ | refine aw_block ?_)
      refine aw_region ?_
      first | refine ops_op rfl rfl (runs_none rfl) (does_load_refw rfl ta29 ti29 rfl rfl) ?_ | refine ops_op rfl rfl (runs_none rfl) (does_load_whole rfl ta29 ti29 rfl rfl rfl rfl rfl) ?_ | refine ops_op rfl rfl (runs_none rfl) (does_load_refs rfl ta29 ti29 rfl (Nat.le_of_ble_eq_true rfl)) ?_ | refine ops_op rfl rfl (runs_none rfl) (does_load_ptrs rfl ta29 ti29 rfl rfl rfl rfl (Nat.le_of_ble_eq_true rfl)) ?_
      refine ops_op rfl rfl (runs_none rfl) (mv_s (.inl rfl) rfl) ?_
      refine ops_eff rfl (runs_none rfl) (does_store rfl ti29 rfl rfl rfl rfl rfl rfl (by decide) (by decide)) ?_
      refine ops_op rfl rfl (runs_none rfl) (mv_s (.inr rfl) rfl) ?_
      refine ops_nil ?_
      repeat (first | refine aw_seq ?_ | refine ath_n ?_ | refine aw_skip ?_ | refine abl_n ?_ | refine aw_block ?_)
      (refine aw_ret ?_; repeat (first | refine ath_r ?_ | refine abl_r ?_))
      exact post_cse (N := 0) (s := r.1) (.inr rfl) ta29 rfl rfl rfl rfl rfl rfl HI
  · rw [if_neg (fun h => h26 h.1)] at HI
    refine aw_false rfl ?_
    repeat (first | refine aw_seq ?_ | refine ath_n ?_ | refine aw_skip ?_ | refine abl_n ?_ | refine aw_block ?_)
    refine aw_region ?_
    first | refine ops_op rfl rfl (runs_none rfl) (does_load_refw rfl ta29 ti29 rfl rfl) ?_ | refine ops_op rfl rfl (runs_none rfl) (does_load_whole rfl ta29 ti29 rfl rfl rfl rfl rfl) ?_ | refine ops_op rfl rfl (runs_none rfl) (does_load_refs rfl ta29 ti29 rfl (Nat.le_of_ble_eq_true rfl)) ?_ | refine ops_op rfl rfl (runs_none rfl) (does_load_ptrs rfl ta29 ti29 rfl rfl rfl rfl (Nat.le_of_ble_eq_true rfl)) ?_
    refine ops_op rfl rfl (runs_none rfl) (mv_s (.inl rfl) rfl) ?_
    refine ops_eff rfl (runs_none rfl) (does_store rfl ti29 rfl rfl rfl rfl rfl rfl (by decide) (by decide)) ?_
    refine ops_op rfl rfl (runs_none rfl) (mv_s (.inr rfl) rfl) ?_
    refine ops_nil ?_
    repeat (first | refine aw_seq ?_ | refine ath_n ?_ | refine aw_skip ?_ | refine abl_n ?_ | refine aw_block ?_)
    (refine aw_ret ?_; repeat (first | refine ath_r ?_ | refine abl_r ?_))
    exact post_cse (N := 0) (s := r.1) (.inr rfl) ta29 rfl rfl rfl rfl rfl rfl HI
theorem accepts1_pf (s : ByteArray) : Pure P 62 [eS s] (eB (!nameB s)) := by
  have hn := isName_pf (P := P) s
  refine aw_fn (by rw [IsP.eq (P := P)]; exact Try.func62) rfl rfl rfl rfl rfl (by repeat' (first | exact Lo.s _ | exact Lo.emp | exact Lo.any | exact lo_nil | exact lo_nilE | refine lo_cons ?_ ?_ | refine lo_consE ?_ ?_ | refine lo_map ?_ | refine lo_mapE ?_ | refine Lo.cells ?_ | refine Lo.agg _ ?_ | refine Lo.ref _ ?_ | refine Lo.tup _ ?_ | refine Lo.fn _ _ ?_ | refine Lo.sl _ ?_ | intro _)) (by repeat' (first | exact Lo.s _ | exact Lo.emp | exact Lo.any | exact lo_nil | exact lo_nilE | refine lo_cons ?_ ?_ | refine lo_consE ?_ ?_ | refine lo_map ?_ | refine lo_mapE ?_ | refine Lo.cells ?_ | refine Lo.agg _ ?_ | refine Lo.ref _ ?_ | refine Lo.tup _ ?_ | refine Lo.fn _ _ ?_ | refine Lo.sl _ ?_ | intro _)) (by simp only [argF]; rfl) ?_
  repeat (first | refine aw_seq ?_ | refine ath_n ?_ | refine aw_skip ?_ | refine abl_n ?_ | refine aw_block ?_)
  refine aw_region ?_
  refine ops_op rfl rfl (runs_none rfl) (mv_s (.inr rfl) rfl) ?_
  refine ops_nil ?_
  repeat (first | refine aw_seq ?_ | refine ath_n ?_ | refine aw_skip ?_ | refine abl_n ?_ | refine aw_block ?_)
  refine aw_region ?_
  refine ops_op rfl rfl (runs_none rfl) (mv_s (.inl rfl) rfl) ?_
  refine ops_op rfl rfl (runs_none rfl) (does_call rfl rfl (hn) (evc_cons rfl evc_nil)) ?_
  first | refine ops_op rfl rfl (runs_none rfl) (does_notp rfl rfl) ?_ | refine ops_op rfl rfl (runs_none rfl) (does_not rfl rfl) ?_
  refine ops_op rfl rfl (runs_none rfl) (mv_s (.inr rfl) rfl) ?_
  refine ops_nil ?_
  repeat (first | refine aw_seq ?_ | refine ath_n ?_ | refine aw_skip ?_ | refine abl_n ?_ | refine aw_block ?_)
  (refine aw_ret ?_; repeat (first | refine ath_r ?_ | refine abl_r ?_))
  exact post1 (.inr rfl) rfl rfl
theorem wholeE_ok {n : Net} {most : Int} (h : (wholeE n most).2 = 0) : validB n = true ∧ MvOk n (wholeE n most).1 ∧ 1 ≤ (wholeE n most).1.st.length ∧ (wholeE n most).1.st.length ≤ 2000 ∧ (wholeE n most).1.mv.length ≤ 20000 := by
  unfold wholeE at h ⊢
  split at h
  · rename_i h1; exact absurd h h1
  · rename_i h1
    rw [if_neg h1]
    split at h
    · simp at h
    · rename_i h2
      rw [if_neg h2]
      obtain ⟨g1, g2, g3⟩ := explE_SI h
      have := g3.le
      exact ⟨by unfold markB at g1; simp only [Bool.and_eq_true] at g1; exact g1.1, explE_MvOk h, g3.ne, by omega, g3.mvs⟩
theorem stepE_len {n : Net} {s : Spc} (hm : MvOk n s) (a : ByteArray) {set : List Bool} (hs : set.length = s.st.length) : (stepE n s.mv a set).length = s.st.length :=
  closeE_len (fun k hk => by obtain ⟨_, _, h1, h2, _⟩ := hm k hk; omega) (by rw [nextE_len, hs])
theorem startE_len {n : Net} {s : Spc} (hm : MvOk n s) : (startE n s).length = s.st.length :=
  closeE_len (fun k hk => by obtain ⟨_, _, h1, h2, _⟩ := hm k hk; omega) (by simp)
def eBE (r : Bool × Int) : AV := .tup [eB r.1, eI r.2]
theorem post_be {N : Nat} {F : Frm} {σ : List Ob} {t u : Nat} {r : Bool × Int} {l : Bool} {m : Int} {e : Exit} (he : e = .normal ∨ e = .ret) (h : F.get t = eB l) (h' : F.get u = eI m) (hr : r = (l, m)) : APost P [.tmp t, .tmp u] (eBE r) e F σ := by
  subst hr
  exact post2 he h h' (.refl _) (.refl _)
set_option maxHeartbeats 2000000 in
theorem accepts_pf (n : Net) (w : List ByteArray) (most : Int) : Pure P 27 [eN n, eL eS w, eI most] (eBE (acceptsE n w most)) := by
  have hv := pvalid_pf (P := P) n
  have hg := given_pf (P := P) n most
  have hw := whole_pf (P := P) n most
  have hnm := containsFS_pf (P := P) 62 [] (fun a => !nameB a) w (fun _ => .s _) (.fn _ _ (by simp)) (fun a _ => accepts1_pf a)
  have hok := wholeE_ok (n := n) (most := most)
  have HI : acceptsE n w most = if validB n = false ∨ (w.any fun a => !nameB a) = true then (false, 1) else if givenE n most ≠ 0 then (false, givenE n most) else if 200 < w.length then (false, 5) else if (wholeE n most).2 ≠ 0 then (false, (wholeE n most).2) else (accS n (wholeE n most).1 w, 0) := rfl
  generalize acceptsE n w most = R at HI ⊢
  generalize givenE n most = ge at hg HI
  generalize wholeE n most = r at hw HI hok
  obtain ⟨s, we⟩ := r
  generalize w.any (fun a => !nameB a) = zn at hnm HI
  replace hw : Pure P 53 [eN n, eI most] (.tup [eSpc s, eI we]) := hw
  have hln : Lo 0 (.ref (eN n).cells) := .ref _ (lo_N n).cells
  have hlw : Lo 0 (eL eS w) := lo_map fun _ => .s _
  have HVB : validB n = validB n := rfl
  obtain ⟨zv, hzv⟩ : ∃ zv, validB n = zv := ⟨_, rfl⟩
  rw [hzv] at hv HI
  refine aw_fn (by rw [IsP.eq (P := P)]; exact Try.func27) rfl rfl rfl rfl rfl (lo_cons (lo_N n) (lo_cons hlw (lo_cons (.s _) lo_nil))) (.tup _ (lo_cons (.s _) (lo_cons (.s _) lo_nil))) (by simp only [argF]; rfl) ?_
  refine aw_bdm (d := 1) rfl (fun hmx => ?_)
  unfold maxLen at hmx
  repeat (first | refine aw_seq ?_ | refine ath_n ?_ | refine aw_skip ?_ | refine abl_n ?_ | refine aw_block ?_)
  refine aw_region ?_
  refine ops_op rfl rfl (runs_none rfl) (does_box rfl rfl rfl rfl) ?_
  refine aops_weak (wk_froz (id := 0) rfl) (aops_weak (wk_ref (d := 3) rfl rfl rfl) ?_)
  refine ops_op rfl rfl (runs_none rfl) (mv_s (.inr rfl) rfl) ?_
  refine ops_op rfl rfl (runs_none rfl) (mv_s (.inr rfl) rfl) ?_
  refine ops_nil ?_
  repeat (first | refine aw_seq ?_ | refine ath_n ?_ | refine aw_skip ?_ | refine abl_n ?_ | refine aw_block ?_)
  all_goals refine aw_region ?_
  all_goals (first | refine ops_op rfl rfl (runs_none rfl) (does_load_refw rfl ta24 ti24 rfl rfl) ?_ | refine ops_op rfl rfl (runs_none rfl) (does_load_whole rfl ta24 ti24 rfl rfl rfl rfl rfl) ?_ | refine ops_op rfl rfl (runs_none rfl) (does_load_refs rfl ta24 ti24 rfl (Nat.le_of_ble_eq_true rfl)) ?_ | refine ops_op rfl rfl (runs_none rfl) (does_load_ptrs rfl ta24 ti24 rfl rfl rfl rfl (Nat.le_of_ble_eq_true rfl)) ?_)
  all_goals (first | refine ops_opP rfl rfl (runs_none rfl) (does_call rfl rfl (hv) (evc_cons rfl evc_nil)) (fun h16 => ?_) (fun h16 => ?_) | refine ops_opB rfl rfl (runs_none rfl) (does_call rfl rfl (hv) (evc_cons rfl evc_nil)) (fun h16 => ?_) (fun h16 => ?_))
  all_goals (first | refine ops_op rfl rfl (runs_none rfl) (does_notp rfl rfl) ?_ | refine ops_op rfl rfl (runs_none rfl) (does_not rfl rfl) ?_)
  all_goals refine ops_op rfl rfl (runs_none rfl) (mv_s (.inl rfl) rfl) ?_
  all_goals (first | refine ops_op rfl rfl (runs_y rfl rfl rfl) (mv_own (.inl rfl) rfl) ?_ | refine ops_op rfl rfl (runs_y rfl rfl rfl) (mv_sl (.inl rfl) rfl) ?_ | refine ops_op rfl rfl (runs_y rfl rfl rfl) (mv_s (.inl rfl) rfl) ?_ | refine ops_op rfl rfl (runs_y rfl rfl rfl) (mv_emp (.inl rfl) rfl) ?_ | refine ops_op rfl rfl (runs_y rfl rfl rfl) (mv_sub (.inl rfl) rfl) ?_ | refine ops_skip rfl rfl (runs_nf rfl rfl rfl) ?_ | refine ops_skip rfl rfl (runs_nu rfl rfl rfl) ?_)
  all_goals (first | refine ops_opP rfl rfl (runs_y rfl rfl rfl) (does_call rfl rfl (hnm) (evc_cons rfl (evc_cons rfl evc_nil))) (fun h20 => ?_) (fun h20 => ?_) | refine ops_opB rfl rfl (runs_y rfl rfl rfl) (does_call rfl rfl (hnm) (evc_cons rfl (evc_cons rfl evc_nil))) (fun h20 => ?_) (fun h20 => ?_) | refine ops_skip rfl rfl (runs_nf rfl rfl rfl) ?_ | refine ops_skip rfl rfl (runs_nu rfl rfl rfl) ?_)
  all_goals (first | refine ops_op rfl rfl (runs_none rfl) (pickT_s rfl rfl rfl) ?_ | refine ops_op rfl rfl (runs_none rfl) (pickF_s rfl rfl rfl) ?_ | refine ops_op rfl rfl (runs_none rfl) (does_pickT rfl rfl rfl) ?_ | refine ops_op rfl rfl (runs_none rfl) (does_pickF rfl rfl rfl) ?_)
  all_goals refine ops_nil ?_
  all_goals (repeat (first | refine aw_seq ?_ | refine ath_n ?_ | refine aw_skip ?_ | refine abl_n ?_ | refine aw_block ?_))
  all_goals (first | refine aw_true rfl ?_ | refine aw_false rfl ?_)
  all_goals (repeat (first | refine aw_seq ?_ | refine ath_n ?_ | refine aw_skip ?_ | refine abl_n ?_ | refine aw_block ?_))
  all_goals first
    | skip
      refine aw_region ?_
      refine ops_op rfl rfl (runs_none rfl) (mv_s (.inr rfl) rfl) ?_
      refine ops_op rfl rfl (runs_none rfl) (mv_s (.inr rfl) rfl) ?_
      refine ops_nil ?_
      repeat (first | refine aw_seq ?_ | refine ath_n ?_ | refine aw_skip ?_ | refine abl_n ?_ | refine aw_block ?_)
      (refine aw_ret ?_; repeat (first | refine ath_r ?_ | refine abl_r ?_))
      exact post_be (N := 0) (.inr rfl) rfl rfl (by rw [HI]; simp_all)
    | skip
  rw [if_neg (by simp_all)] at HI
  rw [h16] at hzv
  clear HVB
  refine aw_region ?_
  first | refine ops_op rfl rfl (runs_none rfl) (does_load_refw rfl ta24 ti24 rfl rfl) ?_ | refine ops_op rfl rfl (runs_none rfl) (does_load_whole rfl ta24 ti24 rfl rfl rfl rfl rfl) ?_ | refine ops_op rfl rfl (runs_none rfl) (does_load_refs rfl ta24 ti24 rfl (Nat.le_of_ble_eq_true rfl)) ?_ | refine ops_op rfl rfl (runs_none rfl) (does_load_ptrs rfl ta24 ti24 rfl rfl rfl rfl (Nat.le_of_ble_eq_true rfl)) ?_
  refine ops_op rfl rfl (runs_none rfl) (mv_s (.inl rfl) rfl) ?_
  refine ops_op rfl rfl (runs_none rfl) (does_call rfl rfl (hg) (evc_cons rfl (evc_cons rfl evc_nil))) ?_
  refine ops_op rfl rfl (runs_none rfl) (mv_s (.inr rfl) rfl) ?_
  refine ops_nil ?_
  repeat (first | refine aw_seq ?_ | refine ath_n ?_ | refine aw_skip ?_ | refine abl_n ?_ | refine aw_block ?_)
  all_goals refine aw_region ?_
  all_goals refine ops_op rfl rfl (runs_none rfl) (mv_s (.inl rfl) rfl) ?_
  all_goals (first | refine ops_opP rfl rfl (runs_none rfl) (does_neq rfl rfl rfl) (fun h26 => ?_) (fun h26 => ?_) | refine ops_opB rfl rfl (runs_none rfl) (does_neq rfl rfl rfl) (fun h26 => ?_) (fun h26 => ?_))
  all_goals refine ops_nil ?_
  all_goals (repeat (first | refine aw_seq ?_ | refine ath_n ?_ | refine aw_skip ?_ | refine abl_n ?_ | refine aw_block ?_))
  all_goals (first | refine aw_true rfl ?_ | refine aw_false rfl ?_)
  all_goals (repeat (first | refine aw_seq ?_ | refine ath_n ?_ | refine aw_skip ?_ | refine abl_n ?_ | refine aw_block ?_))
  · rw [if_pos h26] at HI
    refine aw_region ?_
    refine ops_op rfl rfl (runs_none rfl) (mv_s (.inl rfl) rfl) ?_
    refine ops_op rfl rfl (runs_none rfl) (mv_s (.inr rfl) rfl) ?_
    refine ops_op rfl rfl (runs_none rfl) (mv_s (.inr rfl) rfl) ?_
    refine ops_nil ?_
    repeat (first | refine aw_seq ?_ | refine ath_n ?_ | refine aw_skip ?_ | refine abl_n ?_ | refine aw_block ?_)
    (refine aw_ret ?_; repeat (first | refine ath_r ?_ | refine abl_r ?_))
    exact post_be (N := 0) (.inr rfl) rfl rfl HI
  rw [if_neg h26] at HI
  all_goals refine aw_region ?_
  all_goals (first | refine ops_op rfl rfl (runs_none rfl) (mv_own (.inl rfl) rfl) ?_ | refine ops_op rfl rfl (runs_none rfl) (mv_sl (.inl rfl) rfl) ?_ | refine ops_op rfl rfl (runs_none rfl) (mv_s (.inl rfl) rfl) ?_ | refine ops_op rfl rfl (runs_none rfl) (mv_emp (.inl rfl) rfl) ?_ | refine ops_op rfl rfl (runs_none rfl) (mv_sub (.inl rfl) rfl) ?_)
  all_goals (first | refine ops_op rfl rfl (runs_none rfl) (does_len_map rfl ts65 rfl) ?_ | refine ops_op rfl rfl (runs_none rfl) (does_len_sl rfl ts65 rfl) ?_ | refine ops_op rfl rfl (runs_none rfl) (does_len_own rfl ts65 rfl) ?_ | refine ops_op rfl rfl (runs_none rfl) (does_len_s rfl ts65 rfl) ?_ | refine ops_op rfl rfl (runs_none rfl) (does_len_emp rfl ts65 rfl) ?_ | refine ops_op rfl rfl (runs_none rfl) (does_len_sub rfl ts65 rfl) ?_)
  all_goals (first | refine ops_opP rfl rfl (runs_none rfl) (does_gtr rfl rfl rfl) (fun h30 => ?_) (fun h30 => ?_) | refine ops_opB rfl rfl (runs_none rfl) (does_gtr rfl rfl rfl) (fun h30 => ?_) (fun h30 => ?_))
  all_goals refine ops_nil ?_
  all_goals (repeat (first | refine aw_seq ?_ | refine ath_n ?_ | refine aw_skip ?_ | refine abl_n ?_ | refine aw_block ?_))
  all_goals (first | refine aw_true rfl ?_ | refine aw_false rfl ?_)
  all_goals (repeat (first | refine aw_seq ?_ | refine ath_n ?_ | refine aw_skip ?_ | refine abl_n ?_ | refine aw_block ?_))
  · rw [if_pos (by omega)] at HI
    refine aw_region ?_
    refine ops_op rfl rfl (runs_none rfl) (mv_s (.inr rfl) rfl) ?_
    refine ops_op rfl rfl (runs_none rfl) (mv_s (.inr rfl) rfl) ?_
    refine ops_nil ?_
    repeat (first | refine aw_seq ?_ | refine ath_n ?_ | refine aw_skip ?_ | refine abl_n ?_ | refine aw_block ?_)
    (refine aw_ret ?_; repeat (first | refine ath_r ?_ | refine abl_r ?_))
    exact post_be (N := 0) (.inr rfl) rfl rfl HI
  rw [if_neg (by omega)] at HI
  refine aw_region ?_
  first | refine ops_op rfl rfl (runs_none rfl) (does_load_refw rfl ta24 ti24 rfl rfl) ?_ | refine ops_op rfl rfl (runs_none rfl) (does_load_whole rfl ta24 ti24 rfl rfl rfl rfl rfl) ?_ | refine ops_op rfl rfl (runs_none rfl) (does_load_refs rfl ta24 ti24 rfl (Nat.le_of_ble_eq_true rfl)) ?_ | refine ops_op rfl rfl (runs_none rfl) (does_load_ptrs rfl ta24 ti24 rfl rfl rfl rfl (Nat.le_of_ble_eq_true rfl)) ?_
  refine ops_op rfl rfl (runs_none rfl) (mv_s (.inl rfl) rfl) ?_
  refine ops_op rfl rfl (runs_none rfl) (does_call rfl rfl (hw) (evc_cons rfl (evc_cons rfl evc_nil))) ?_
  first | refine ops_op rfl rfl (runs_none rfl) (mv_tup (.inl rfl) rfl) ?_ | refine ops_op rfl rfl (runs_none rfl) (mv_s (.inl rfl) rfl) ?_
  refine ops_op rfl rfl (runs_none rfl) (does_extract rfl rfl rfl) ?_
  refine ops_op rfl rfl (runs_none rfl) (does_extract rfl rfl rfl) ?_
  refine ops_op rfl rfl (runs_none rfl) (does_alloc rfl ti29 rfl rfl) ?_
  refine ops_eff rfl (runs_none rfl) (does_store rfl ti29 rfl rfl rfl rfl rfl rfl (by decide) (by decide)) ?_
  refine ops_op rfl rfl (runs_none rfl) (mv_s (.inr rfl) rfl) ?_
  refine ops_nil ?_
  repeat (first | refine aw_seq ?_ | refine ath_n ?_ | refine aw_skip ?_ | refine abl_n ?_ | refine aw_block ?_)
  refine aw_weak (wk_froz (id := 1) rfl) ?_
  refine aw_weak (wk_ref (d := 9) rfl rfl rfl) ?_
  all_goals refine aw_region ?_
  all_goals refine ops_op rfl rfl (runs_none rfl) (mv_s (.inl rfl) rfl) ?_
  all_goals (first | refine ops_opP rfl rfl (runs_none rfl) (does_neq rfl rfl rfl) (fun h38 => ?_) (fun h38 => ?_) | refine ops_opB rfl rfl (runs_none rfl) (does_neq rfl rfl rfl) (fun h38 => ?_) (fun h38 => ?_))
  all_goals refine ops_nil ?_
  all_goals (repeat (first | refine aw_seq ?_ | refine ath_n ?_ | refine aw_skip ?_ | refine abl_n ?_ | refine aw_block ?_))
  all_goals (first | refine aw_true rfl ?_ | refine aw_false rfl ?_)
  all_goals (repeat (first | refine aw_seq ?_ | refine ath_n ?_ | refine aw_skip ?_ | refine abl_n ?_ | refine aw_block ?_))
  · rw [if_pos h38] at HI
    refine aw_region ?_
    refine ops_op rfl rfl (runs_none rfl) (mv_s (.inl rfl) rfl) ?_
    refine ops_op rfl rfl (runs_none rfl) (mv_s (.inr rfl) rfl) ?_
    refine ops_op rfl rfl (runs_none rfl) (mv_s (.inr rfl) rfl) ?_
    refine ops_nil ?_
    repeat (first | refine aw_seq ?_ | refine ath_n ?_ | refine aw_skip ?_ | refine abl_n ?_ | refine aw_block ?_)
    (refine aw_ret ?_; repeat (first | refine ath_r ?_ | refine abl_r ?_))
    exact post_be (N := 0) (.inr rfl) rfl rfl HI
  rw [if_neg h38] at HI
  obtain ⟨_, hmo, hn1, hn2, hmv⟩ := hok (Classical.not_not.1 h38)
  replace hmo : MvOk n s := hmo
  replace hn1 : 1 ≤ s.st.length := hn1
  replace hn2 : s.st.length ≤ 2000 := hn2
  replace hmv : s.mv.length ≤ 20000 := hmv
  have hwk := walk_pf (P := P) n s hzv hmo hn2 hmv
  have hss := start_pf (P := P) n s (finE n s) hmo hn2 hn1 hmv
  have hlW := lo_wk n s (finE n s)
  replace HI : R = (accS n s w, 0) := HI
  have hacc : accS n s w = (decide (0 ≤ finE n s) && gti (wordsE n s w) (finE n s).toNat) := rfl
  have hfn : finE n s < 0 ∨ ∃ f : Nat, finE n s = f ∧ f < s.st.length := by
    by_cases hf : finE n s < 0
    · exact .inl hf
    · obtain ⟨k, h1, _, h3⟩ := findI_pos (S := s.st) (m := (oneE n n.sink).1) (by unfold finE at hf; omega)
      exact .inr ⟨k, h1, h3⟩
  refine aw_region ?_
  first | refine ops_op rfl rfl (runs_none rfl) (does_load_refw rfl ta24 ti24 rfl rfl) ?_ | refine ops_op rfl rfl (runs_none rfl) (does_load_whole rfl ta24 ti24 rfl rfl rfl rfl rfl) ?_ | refine ops_op rfl rfl (runs_none rfl) (does_load_refs rfl ta24 ti24 rfl (Nat.le_of_ble_eq_true rfl)) ?_ | refine ops_op rfl rfl (runs_none rfl) (does_load_ptrs rfl ta24 ti24 rfl rfl rfl rfl (Nat.le_of_ble_eq_true rfl)) ?_
  first | refine ops_op rfl rfl (runs_none rfl) (does_load_refw rfl ta29 ti29 rfl rfl) ?_ | refine ops_op rfl rfl (runs_none rfl) (does_load_whole rfl ta29 ti29 rfl rfl rfl rfl rfl) ?_ | refine ops_op rfl rfl (runs_none rfl) (does_load_refs rfl ta29 ti29 rfl (Nat.le_of_ble_eq_true rfl)) ?_ | refine ops_op rfl rfl (runs_none rfl) (does_load_ptrs rfl ta29 ti29 rfl rfl rfl rfl (Nat.le_of_ble_eq_true rfl)) ?_
  refine ops_op rfl rfl (runs_none rfl) (does_call rfl rfl (hwk) (evc_cons rfl (evc_cons rfl evc_nil))) ?_
  first | refine ops_op rfl rfl (runs_none rfl) (mv_ptr (.inr rfl) rfl) ?_ | refine ops_op rfl rfl (runs_none rfl) (mv_ref (.inr rfl) rfl) ?_ | refine ops_op rfl rfl (runs_none rfl) (mv_s (.inr rfl) rfl) ?_
  refine ops_nil ?_
  repeat (first | refine aw_seq ?_ | refine ath_n ?_ | refine aw_skip ?_ | refine abl_n ?_ | refine aw_block ?_)
  refine aw_region ?_
  first | refine ops_op rfl rfl (runs_none rfl) (mv_ptr (.inl rfl) rfl) ?_ | refine ops_op rfl rfl (runs_none rfl) (mv_ref (.inl rfl) rfl) ?_ | refine ops_op rfl rfl (runs_none rfl) (mv_s (.inl rfl) rfl) ?_
  refine ops_op rfl rfl (runs_none rfl) (does_call rfl rfl (hss) (evc_cons rfl evc_nil)) ?_
  first | refine ops_op rfl rfl (runs_none rfl) (mv_own (.inr rfl) rfl) ?_ | refine ops_op rfl rfl (runs_none rfl) (mv_sl (.inr rfl) rfl) ?_ | refine ops_op rfl rfl (runs_none rfl) (mv_s (.inr rfl) rfl) ?_ | refine ops_op rfl rfl (runs_none rfl) (mv_emp (.inr rfl) rfl) ?_ | refine ops_op rfl rfl (runs_none rfl) (mv_sub (.inr rfl) rfl) ?_
  refine ops_nil ?_
  repeat (first | refine aw_seq ?_ | refine ath_n ?_ | refine aw_skip ?_ | refine abl_n ?_ | refine aw_block ?_)
  refine aw_region ?_
  first | refine ops_op rfl rfl (runs_none rfl) (mv_own (.inl rfl) rfl) ?_ | refine ops_op rfl rfl (runs_none rfl) (mv_sl (.inl rfl) rfl) ?_ | refine ops_op rfl rfl (runs_none rfl) (mv_s (.inl rfl) rfl) ?_ | refine ops_op rfl rfl (runs_none rfl) (mv_emp (.inl rfl) rfl) ?_ | refine ops_op rfl rfl (runs_none rfl) (mv_sub (.inl rfl) rfl) ?_
  first | refine ops_op rfl rfl (runs_none rfl) (does_len_map rfl ts65 rfl) ?_ | refine ops_op rfl rfl (runs_none rfl) (does_len_sl rfl ts65 rfl) ?_ | refine ops_op rfl rfl (runs_none rfl) (does_len_own rfl ts65 rfl) ?_ | refine ops_op rfl rfl (runs_none rfl) (does_len_s rfl ts65 rfl) ?_ | refine ops_op rfl rfl (runs_none rfl) (does_len_emp rfl ts65 rfl) ?_ | refine ops_op rfl rfl (runs_none rfl) (does_len_sub rfl ts65 rfl) ?_
  refine ops_op rfl rfl (runs_none rfl) (mv_s (.inl rfl) rfl) ?_
  refine ops_nil ?_
  repeat (first | refine aw_seq ?_ | refine ath_n ?_ | refine aw_skip ?_ | refine abl_n ?_ | refine aw_block ?_)
  refine aw_loops (S := Nat × List Bool) (fun p => [(1, eL eS w), (11, .ref (wkC n s (finE n s))), (12, eL eB p.2), (45, eL eS w), (46, eI w.length), (47, eI p.1)]) (fun _ => []) (fun p => p.1 ≤ w.length ∧ p.2.length = s.st.length ∧ (w.drop p.1).foldl (fun set a => stepE n s.mv a set) p.2 = wordsE n s w) (fun p => w.length - p.1) (0, startE n s) (wk_st [] (by decide) trivial ⟨.lo _ hlw, .lo _ hlW, .lo _ (lo_map fun _ => .s _), .lo _ hlw, .lo _ (by repeat' (first | exact Lo.s _ | exact Lo.emp | exact Lo.any | exact lo_nil | exact lo_nilE | refine lo_cons ?_ ?_ | refine lo_consE ?_ ?_ | refine lo_map ?_ | refine lo_mapE ?_ | refine Lo.cells ?_ | refine Lo.agg _ ?_ | refine Lo.ref _ ?_ | refine Lo.tup _ ?_ | refine Lo.fn _ _ ?_ | refine Lo.sl _ ?_ | intro _)), .lo _ (by repeat' (first | exact Lo.s _ | exact Lo.emp | exact Lo.any | exact lo_nil | exact lo_nilE | refine lo_cons ?_ ?_ | refine lo_consE ?_ ?_ | refine lo_map ?_ | refine lo_mapE ?_ | refine Lo.cells ?_ | refine Lo.agg _ ?_ | refine Lo.ref _ ?_ | refine Lo.tup _ ?_ | refine Lo.fn _ _ ?_ | refine Lo.sl _ ?_ | intro _)), trivial⟩) ⟨Nat.zero_le _, startE_len hmo, rfl⟩ (fun p hp => ?_)
  obtain ⟨k, set⟩ := p
  obtain ⟨hk, hsl, hE⟩ := hp
  replace hk : k ≤ w.length := hk
  replace hsl : set.length = s.st.length := hsl
  replace hE : (w.drop k).foldl (fun set a => stepE n s.mv a set) set = wordsE n s w := hE
  repeat (first | refine aw_seq ?_ | refine ath_n ?_ | refine aw_skip ?_ | refine abl_n ?_ | refine aw_block ?_)
  all_goals refine aw_region ?_
  all_goals (first | refine ops_opP rfl rfl (runs_none rfl) (does_lss rfl rfl rfl) (fun h48 => ?_) (fun h48 => ?_) | refine ops_opB rfl rfl (runs_none rfl) (does_lss rfl rfl rfl) (fun h48 => ?_) (fun h48 => ?_))
  all_goals refine ops_nil ?_
  all_goals (repeat (first | refine aw_seq ?_ | refine ath_n ?_ | refine aw_skip ?_ | refine abl_n ?_ | refine aw_block ?_))
  all_goals (first | refine aw_true rfl ?_ | refine aw_false rfl ?_)
  all_goals (repeat (first | refine aw_seq ?_ | refine ath_n ?_ | refine aw_skip ?_ | refine abl_n ?_ | refine aw_block ?_))
  all_goals dsimp only at h48
  · have hkt : k < w.length := by omega
    have hix : (w.map eS)[k]? = some (eS (gti w k)) := ix_map hkt
    have hst := step_pf (P := P) n s (finE n s) hmo hn2 hmv set hsl (gti w k)
    rw [drop_gti hkt, List.foldl_cons] at hE
    have hl2 := stepE_len hmo (gti w k) hsl
    refine aw_region ?_
    first | refine ops_op rfl rfl (runs_none rfl) (does_index_sl rfl ts65 ti9 rfl rfl rfl hix rfl) ?_ | refine ops_op rfl rfl (runs_none rfl) (does_index_own rfl ts65 ti9 rfl rfl rfl hix) ?_ | refine ops_op rfl rfl (runs_none rfl) (does_index_sub rfl ts65 ti9 rfl rfl rfl hix) ?_
    first | refine ops_op rfl rfl (runs_none rfl) (does_load_ref rfl ta9 rfl) ?_ | refine ops_op rfl rfl (runs_none rfl) (does_load_ptr rfl ta9 rfl rfl rfl rfl rfl) ?_
    refine ops_op rfl rfl (runs_none rfl) (mv_s (.inr rfl) rfl) ?_
    refine ops_nil ?_
    repeat (first | refine aw_seq ?_ | refine ath_n ?_ | refine aw_skip ?_ | refine abl_n ?_ | refine aw_block ?_)
    refine aw_region ?_
    first | refine ops_op rfl rfl (runs_none rfl) (mv_ptr (.inl rfl) rfl) ?_ | refine ops_op rfl rfl (runs_none rfl) (mv_ref (.inl rfl) rfl) ?_ | refine ops_op rfl rfl (runs_none rfl) (mv_s (.inl rfl) rfl) ?_
    first | refine ops_op rfl rfl (runs_none rfl) (mv_own (.inl rfl) rfl) ?_ | refine ops_op rfl rfl (runs_none rfl) (mv_sl (.inl rfl) rfl) ?_ | refine ops_op rfl rfl (runs_none rfl) (mv_s (.inl rfl) rfl) ?_ | refine ops_op rfl rfl (runs_none rfl) (mv_emp (.inl rfl) rfl) ?_ | refine ops_op rfl rfl (runs_none rfl) (mv_sub (.inl rfl) rfl) ?_
    refine ops_op rfl rfl (runs_none rfl) (mv_s (.inl rfl) rfl) ?_
    refine ops_op rfl rfl (runs_none rfl) (does_call rfl rfl (hst) (evc_cons rfl (evc_cons rfl (evc_cons rfl evc_nil)))) ?_
    first | refine ops_op rfl rfl (runs_none rfl) (mv_own (.inr rfl) rfl) ?_ | refine ops_op rfl rfl (runs_none rfl) (mv_sl (.inr rfl) rfl) ?_ | refine ops_op rfl rfl (runs_none rfl) (mv_s (.inr rfl) rfl) ?_ | refine ops_op rfl rfl (runs_none rfl) (mv_emp (.inr rfl) rfl) ?_ | refine ops_op rfl rfl (runs_none rfl) (mv_sub (.inr rfl) rfl) ?_
    refine ops_nil ?_
    repeat (first | refine aw_seq ?_ | refine ath_n ?_ | refine aw_skip ?_ | refine abl_n ?_ | refine aw_block ?_)
    refine aw_region ?_
    refine ops_op rfl rfl (runs_none rfl) (does_add rfl rfl rfl (IntWalk.i64_in _ (by omega))) ?_
    refine ops_op rfl rfl (runs_none rfl) (mv_s (.inl rfl) rfl) ?_
    refine ops_nil ?_
    repeat (first | refine aw_seq ?_ | refine ath_n ?_ | refine aw_skip ?_ | refine abl_n ?_ | refine aw_block ?_)
    exact ⟨(k + 1, stepE n s.mv (gti w k) set), ⟨by show k + 1 ≤ w.length; omega, hl2, hE⟩, by show w.length - (k + 1) < w.length - k; omega, wk_st [] (by decide) trivial ⟨.lo _ hlw, .lo _ hlW, .lo _ (lo_map fun _ => .s _), .lo _ hlw, .lo _ (by repeat' (first | exact Lo.s _ | exact Lo.emp | exact Lo.any | exact lo_nil | exact lo_nilE | refine lo_cons ?_ ?_ | refine lo_consE ?_ ?_ | refine lo_map ?_ | refine lo_mapE ?_ | refine Lo.cells ?_ | refine Lo.agg _ ?_ | refine Lo.ref _ ?_ | refine Lo.tup _ ?_ | refine Lo.fn _ _ ?_ | refine Lo.sl _ ?_ | intro _)), .lo _ (by repeat' (first | exact Lo.s _ | exact Lo.emp | exact Lo.any | exact lo_nil | exact lo_nilE | refine lo_cons ?_ ?_ | refine lo_consE ?_ ?_ | refine lo_map ?_ | refine lo_mapE ?_ | refine Lo.cells ?_ | refine Lo.agg _ ?_ | refine Lo.ref _ ?_ | refine Lo.tup _ ?_ | refine Lo.fn _ _ ?_ | refine Lo.sl _ ?_ | intro _)), trivial⟩⟩
  · have e : k = w.length := by omega
    subst e
    rw [List.drop_length] at hE
    replace hE : set = wordsE n s w := hE
    rw [hacc, ← hE] at HI
    generalize finE n s = fin at *
    (refine aw_exit ?_; repeat (first | refine ath_x ?_ | refine abl_hit ?_ | refine abl_miss rfl ?_ | refine abl_n ?_ | refine ath_n ?_ | refine aw_seq ?_ | refine aw_skip ?_ | refine aw_block ?_))
    rcases hfn with hfn | ⟨f, rfl, hf⟩
    · skip
      refine aw_region ?_
      first | refine ops_op rfl rfl (runs_none rfl) (mv_ptr (.inl rfl) rfl) ?_ | refine ops_op rfl rfl (runs_none rfl) (mv_ref (.inl rfl) rfl) ?_ | refine ops_op rfl rfl (runs_none rfl) (mv_s (.inl rfl) rfl) ?_
      first | refine ops_op rfl rfl (runs_none rfl) (does_nil_ptr rfl rfl) ?_ | refine ops_op rfl rfl (runs_none rfl) (does_nil_ref rfl rfl) ?_ | refine ops_op rfl rfl (runs_none rfl) (does_nil_fn rfl rfl) ?_
      first | refine ops_op rfl rfl (runs_none rfl) (does_fieldAddr_ptr rfl tf99_3 (by decide) rfl) ?_ | refine ops_op rfl rfl (runs_none rfl) (does_fieldAddr_ref rfl tf99_3 (by decide) rfl) ?_
      first | refine ops_op rfl rfl (runs_none rfl) (does_load_ref rfl ta3 rfl) ?_ | refine ops_op rfl rfl (runs_none rfl) (does_load_ptr rfl ta3 rfl rfl rfl rfl rfl) ?_
      refine ops_op rfl rfl (runs_none rfl) (dec_f (by omega) (does_geq rfl rfl rfl)) ?_
      refine ops_op rfl rfl (runs_none rfl) (mv_s (.inl rfl) rfl) ?_
      first | refine ops_op rfl rfl (runs_y rfl rfl rfl) (mv_own (.inl rfl) rfl) ?_ | refine ops_op rfl rfl (runs_y rfl rfl rfl) (mv_sl (.inl rfl) rfl) ?_ | refine ops_op rfl rfl (runs_y rfl rfl rfl) (mv_s (.inl rfl) rfl) ?_ | refine ops_op rfl rfl (runs_y rfl rfl rfl) (mv_emp (.inl rfl) rfl) ?_ | refine ops_op rfl rfl (runs_y rfl rfl rfl) (mv_sub (.inl rfl) rfl) ?_ | refine ops_skip rfl rfl (runs_nt rfl rfl rfl) ?_ | refine ops_skip rfl rfl (runs_nu rfl rfl rfl) ?_
      first | refine ops_op rfl rfl (runs_y rfl rfl rfl) (mv_ptr (.inl rfl) rfl) ?_ | refine ops_op rfl rfl (runs_y rfl rfl rfl) (mv_ref (.inl rfl) rfl) ?_ | refine ops_op rfl rfl (runs_y rfl rfl rfl) (mv_s (.inl rfl) rfl) ?_ | refine ops_skip rfl rfl (runs_nt rfl rfl rfl) ?_ | refine ops_skip rfl rfl (runs_nu rfl rfl rfl) ?_
      first | refine ops_op rfl rfl (runs_y rfl rfl rfl) (does_nil_ptr rfl rfl) ?_ | refine ops_op rfl rfl (runs_y rfl rfl rfl) (does_nil_ref rfl rfl) ?_ | refine ops_op rfl rfl (runs_y rfl rfl rfl) (does_nil_fn rfl rfl) ?_ | refine ops_skip rfl rfl (runs_nt rfl rfl rfl) ?_ | refine ops_skip rfl rfl (runs_nu rfl rfl rfl) ?_
      first | refine ops_op rfl rfl (runs_y rfl rfl rfl) (does_fieldAddr_ptr rfl tf99_3 (by decide) rfl) ?_ | refine ops_op rfl rfl (runs_y rfl rfl rfl) (does_fieldAddr_ref rfl tf99_3 (by decide) rfl) ?_ | refine ops_skip rfl rfl (runs_nt rfl rfl rfl) ?_ | refine ops_skip rfl rfl (runs_nu rfl rfl rfl) ?_
      first | refine ops_op rfl rfl (runs_y rfl rfl rfl) (does_load_ref rfl ta3 rfl) ?_ | refine ops_op rfl rfl (runs_y rfl rfl rfl) (does_load_ptr rfl ta3 rfl rfl rfl rfl rfl) ?_ | refine ops_skip rfl rfl (runs_nt rfl rfl rfl) ?_ | refine ops_skip rfl rfl (runs_nu rfl rfl rfl) ?_
      first | refine ops_op rfl rfl (runs_y rfl rfl rfl) (does_index_sl rfl ts81 ti4 rfl rfl rfl (ix_map (by omega)) rfl) ?_ | refine ops_op rfl rfl (runs_y rfl rfl rfl) (does_index_own rfl ts81 ti4 rfl rfl rfl (by omega)) ?_ | refine ops_op rfl rfl (runs_y rfl rfl rfl) (does_index_sub rfl ts81 ti4 rfl rfl rfl (by omega)) ?_ | refine ops_skip rfl rfl (runs_nt rfl rfl rfl) ?_ | refine ops_skip rfl rfl (runs_nu rfl rfl rfl) ?_
      first | refine ops_op rfl rfl (runs_y rfl rfl rfl) (does_load_ref rfl ta4 rfl) ?_ | refine ops_op rfl rfl (runs_y rfl rfl rfl) (does_load_ptr rfl ta4 rfl rfl rfl rfl rfl) ?_ | refine ops_skip rfl rfl (runs_nt rfl rfl rfl) ?_ | refine ops_skip rfl rfl (runs_nu rfl rfl rfl) ?_
      first | refine ops_op rfl rfl (runs_none rfl) (pickT_s rfl rfl rfl) ?_ | refine ops_op rfl rfl (runs_none rfl) (pickF_s rfl rfl rfl) ?_ | refine ops_op rfl rfl (runs_none rfl) (does_pickT rfl rfl rfl) ?_ | refine ops_op rfl rfl (runs_none rfl) (does_pickF rfl rfl rfl) ?_
      refine ops_op rfl rfl (runs_none rfl) (mv_s (.inr rfl) rfl) ?_
      refine ops_op rfl rfl (runs_none rfl) (mv_s (.inr rfl) rfl) ?_
      refine ops_nil ?_
      repeat (first | refine aw_seq ?_ | refine ath_n ?_ | refine aw_skip ?_ | refine abl_n ?_ | refine aw_block ?_)
      (refine aw_ret ?_; repeat (first | refine ath_r ?_ | refine abl_r ?_))
      exact post_be (N := 0) (.inr rfl) rfl rfl (by rw [HI, decide_eq_false (by omega)]; rfl)
    · have hel : (set.map eB)[f]? = some (eB (gti set f)) := ix_map (by omega)
      refine aw_region ?_
      first | refine ops_op rfl rfl (runs_none rfl) (mv_ptr (.inl rfl) rfl) ?_ | refine ops_op rfl rfl (runs_none rfl) (mv_ref (.inl rfl) rfl) ?_ | refine ops_op rfl rfl (runs_none rfl) (mv_s (.inl rfl) rfl) ?_
      first | refine ops_op rfl rfl (runs_none rfl) (does_nil_ptr rfl rfl) ?_ | refine ops_op rfl rfl (runs_none rfl) (does_nil_ref rfl rfl) ?_ | refine ops_op rfl rfl (runs_none rfl) (does_nil_fn rfl rfl) ?_
      first | refine ops_op rfl rfl (runs_none rfl) (does_fieldAddr_ptr rfl tf99_3 (by decide) rfl) ?_ | refine ops_op rfl rfl (runs_none rfl) (does_fieldAddr_ref rfl tf99_3 (by decide) rfl) ?_
      first | refine ops_op rfl rfl (runs_none rfl) (does_load_ref rfl ta3 rfl) ?_ | refine ops_op rfl rfl (runs_none rfl) (does_load_ptr rfl ta3 rfl rfl rfl rfl rfl) ?_
      refine ops_op rfl rfl (runs_none rfl) (dec_t (by omega) (does_geq rfl rfl rfl)) ?_
      refine ops_op rfl rfl (runs_none rfl) (mv_s (.inl rfl) rfl) ?_
      first | refine ops_op rfl rfl (runs_y rfl rfl rfl) (mv_own (.inl rfl) rfl) ?_ | refine ops_op rfl rfl (runs_y rfl rfl rfl) (mv_sl (.inl rfl) rfl) ?_ | refine ops_op rfl rfl (runs_y rfl rfl rfl) (mv_s (.inl rfl) rfl) ?_ | refine ops_op rfl rfl (runs_y rfl rfl rfl) (mv_emp (.inl rfl) rfl) ?_ | refine ops_op rfl rfl (runs_y rfl rfl rfl) (mv_sub (.inl rfl) rfl) ?_ | refine ops_skip rfl rfl (runs_nt rfl rfl rfl) ?_ | refine ops_skip rfl rfl (runs_nu rfl rfl rfl) ?_
      first | refine ops_op rfl rfl (runs_y rfl rfl rfl) (mv_ptr (.inl rfl) rfl) ?_ | refine ops_op rfl rfl (runs_y rfl rfl rfl) (mv_ref (.inl rfl) rfl) ?_ | refine ops_op rfl rfl (runs_y rfl rfl rfl) (mv_s (.inl rfl) rfl) ?_ | refine ops_skip rfl rfl (runs_nt rfl rfl rfl) ?_ | refine ops_skip rfl rfl (runs_nu rfl rfl rfl) ?_
      first | refine ops_op rfl rfl (runs_y rfl rfl rfl) (does_nil_ptr rfl rfl) ?_ | refine ops_op rfl rfl (runs_y rfl rfl rfl) (does_nil_ref rfl rfl) ?_ | refine ops_op rfl rfl (runs_y rfl rfl rfl) (does_nil_fn rfl rfl) ?_ | refine ops_skip rfl rfl (runs_nt rfl rfl rfl) ?_ | refine ops_skip rfl rfl (runs_nu rfl rfl rfl) ?_
      first | refine ops_op rfl rfl (runs_y rfl rfl rfl) (does_fieldAddr_ptr rfl tf99_3 (by decide) rfl) ?_ | refine ops_op rfl rfl (runs_y rfl rfl rfl) (does_fieldAddr_ref rfl tf99_3 (by decide) rfl) ?_ | refine ops_skip rfl rfl (runs_nt rfl rfl rfl) ?_ | refine ops_skip rfl rfl (runs_nu rfl rfl rfl) ?_
      first | refine ops_op rfl rfl (runs_y rfl rfl rfl) (does_load_ref rfl ta3 rfl) ?_ | refine ops_op rfl rfl (runs_y rfl rfl rfl) (does_load_ptr rfl ta3 rfl rfl rfl rfl rfl) ?_ | refine ops_skip rfl rfl (runs_nt rfl rfl rfl) ?_ | refine ops_skip rfl rfl (runs_nu rfl rfl rfl) ?_
      first | refine ops_op rfl rfl (runs_y rfl rfl rfl) (does_index_sl rfl ts81 ti4 rfl rfl rfl hel rfl) ?_ | refine ops_op rfl rfl (runs_y rfl rfl rfl) (does_index_own rfl ts81 ti4 rfl rfl rfl hel) ?_ | refine ops_op rfl rfl (runs_y rfl rfl rfl) (does_index_sub rfl ts81 ti4 rfl rfl rfl hel) ?_ | refine ops_skip rfl rfl (runs_nt rfl rfl rfl) ?_ | refine ops_skip rfl rfl (runs_nu rfl rfl rfl) ?_
      first | refine ops_op rfl rfl (runs_y rfl rfl rfl) (does_load_ref rfl ta4 rfl) ?_ | refine ops_op rfl rfl (runs_y rfl rfl rfl) (does_load_ptr rfl ta4 rfl rfl rfl rfl rfl) ?_ | refine ops_skip rfl rfl (runs_nt rfl rfl rfl) ?_ | refine ops_skip rfl rfl (runs_nu rfl rfl rfl) ?_
      first | refine ops_op rfl rfl (runs_none rfl) (pickT_s rfl rfl rfl) ?_ | refine ops_op rfl rfl (runs_none rfl) (pickF_s rfl rfl rfl) ?_ | refine ops_op rfl rfl (runs_none rfl) (does_pickT rfl rfl rfl) ?_ | refine ops_op rfl rfl (runs_none rfl) (does_pickF rfl rfl rfl) ?_
      refine ops_op rfl rfl (runs_none rfl) (mv_s (.inr rfl) rfl) ?_
      refine ops_op rfl rfl (runs_none rfl) (mv_s (.inr rfl) rfl) ?_
      refine ops_nil ?_
      repeat (first | refine aw_seq ?_ | refine ath_n ?_ | refine aw_skip ?_ | refine abl_n ?_ | refine aw_block ?_)
      (refine aw_ret ?_; repeat (first | refine ath_r ?_ | refine abl_r ?_))
      exact post_be (N := 0) (.inr rfl) rfl rfl (by rw [HI, decide_eq_true (by omega), Int.toNat_natCast]; rfl)
end Go.Proofs.Ythdpacbjbdkemaa.Aw
end
section
namespace Go.Proofs.Ythdpacbjbdkemaa.Aw
set_option linter.unusedSimpArgs false
set_option linter.unusedVariables false
set_option linter.unusedSectionVars false
open Go Go.RowKit Go.Proofs
variable {P : Program} [IsP P]

theorem pure_emp {f : FuncId} {r : AV} (h0 : Pure P f [.s (.slice none 0 0)] r) (h1 : ∀ a : Addr, a.spot = none → Pure P f [.s (.slice (some a) 0 0)] r) : Pure P f [.emp] r :=
  ⟨h0.ent, h0.lo, fun G vargs hs hsz hrep => by
    have hlt : 0 < vargs.size := by rw [hsz]; simp
    have g := hrep 0 vargs[0] .emp (by simp [hlt]) rfl
    have one : ∀ {x : AV}, Rep G vargs[0] x → ∀ (j : Nat) v y, vargs[j]? = some v → [x][j]? = some y → Rep G v y := by
      intro x hx j v y hv hy
      cases j with
      | zero => simp at hy; subst hy; rw [Array.getElem?_eq_getElem hlt] at hv; cases hv; exact hx
      | succ j => simp at hy
    generalize hv : vargs[0] = v0 at g
    cases g with
    | emp A hA =>
      cases A with
      | none => exact h0.call G vargs hs hsz (one (by rw [hv]; exact .s _))
      | some a => exact (h1 a (hA a rfl)).call G vargs hs hsz (one (by rw [hv]; exact .s _))⟩
section
variable {o : Oper} {F : Frm} {σ : List Ob}
theorem does_append_e {t e : TypeId} {s y : Operand} {z : Option Value} {sz bt : Nat} {a : Addr} (ho : o.op = .call { callee := .builtin .append, args := #[s, y], argTypes := #[t, t] })
    (ht : tySlice P t = some e) (hi : tyInfo P e = some (z, sz, bt)) (hx : F.eval s = .emp) (hy : F.eval y = .s (.slice (some a) 0 0)) : Does P o F σ .emp σ :=
  does_val fun G ρ hr hop => by
    have g1 := hop s (by simp [ho, Op.operands, Call.operands])
    have g2 := hop y (by simp [ho, Op.operands, Call.operands])
    rw [hx] at g1
    rw [hy] at g2
    have g2 := rep_s g2
    generalize hv1 : ρ s = v1 at g1
    cases g1 with
    | emp B hB =>
      have hrun : (Builtin.append_ #[t, t] o.type #[.slice B 0 0, .slice (some a) 0 0]).run P G.w = .ok (.slice B 0 0) G.w := by
        have hf : (Builtin.firstCells sz 0 (.slice (some a) 0 0)).run P G.w = .ok #[] G.w := run_firstCells_some (P := P) G.w sz 0 a 0 0 [] (by simp) (by simp)
        cases B with
        | none => simp [Builtin.append_, run_underlying (slice_of ht), run_sizeOf hi, Builtin.lenOf, hf]
        | some a => simp [Builtin.append_, run_underlying (slice_of ht), run_sizeOf hi, Builtin.lenOf, hf, storeCells]
      refine ⟨.slice B 0 0, ?_, .emp B hB⟩
      simp only [execOp, ho, resolve, invoke, builtin, Sem.run_bind, Sem.run_pure, Result.andThen_ok, List.map_toArray, List.map_cons, List.map_nil, hv1, g2, hrun]
theorem does_eqsome {t t' e : TypeId} {x y : Operand} {a : Addr} (ho : o.op = .binOp .eql t x y t') (ht : tySlice P t = some e) (hx : F.eval x = .s (.slice (some a) 0 0)) (hy : F.eval y = .s (.slice none 0 0)) : Does P o F σ (.s (.bool false)) σ :=
  does_val fun G ρ hr hop => by
    have g1 := hop x (by simp [ho, Op.operands])
    have g2 := hop y (by simp [ho, Op.operands])
    rw [hx] at g1
    rw [hy] at g2
    have g1 := rep_s g1
    have g2 := rep_s g2
    have := run_nil_cmp (P := P) ht x y (some a) 0 0 .eql G.w (r := false) (.inl ⟨rfl, rfl⟩)
    refine ⟨.bool false, ?_, .s _⟩
    rw [Sem.run_bind] at this
    simp only [execOp, ho, Sem.run_bind, g1, g2]
    exact this ▸ rfl
end
theorem rep_semp {G : Cx} {v : Value} (h : Rep G v (.s (.slice none 0 0))) : Rep G v .emp := by cases h; exact .emp none (fun a ha => by cases ha)
theorem wk_semp {N d : Nat} {F : Frm} {σ : List Ob} (hd : F.get d = .s (.slice none 0 0)) : Weak N F σ ((d, .emp) :: F) σ := fun G a h =>
  ⟨G, rfl, .refl G, h.rel, h.fr.more (rep_semp (by rw [← hd]; exact h.fr d)), h.df, h.nt⟩
theorem cloneSE0_pf : Pure P 59 [.s (.slice none 0 0)] .emp := by
  refine aw_fn (by rw [IsP.eq (P := P)]; exact Try.func59) rfl rfl rfl rfl rfl (lo_cons (.s _) lo_nil) .emp (by simp only [argF]; rfl) ?_
  repeat (first | refine aw_seq ?_ | refine ath_n ?_ | refine aw_skip ?_ | refine abl_n ?_ | refine aw_block ?_)
  refine aw_region ?_
  first | refine ops_op rfl rfl (runs_none rfl) (mv_own (.inr rfl) rfl) ?_ | refine ops_op rfl rfl (runs_none rfl) (mv_sl (.inr rfl) rfl) ?_ | refine ops_op rfl rfl (runs_none rfl) (mv_s (.inr rfl) rfl) ?_ | refine ops_op rfl rfl (runs_none rfl) (mv_emp (.inr rfl) rfl) ?_ | refine ops_op rfl rfl (runs_none rfl) (mv_sub (.inr rfl) rfl) ?_
  refine ops_nil ?_
  repeat (first | refine aw_seq ?_ | refine ath_n ?_ | refine aw_skip ?_ | refine abl_n ?_ | refine aw_block ?_)
  refine aw_region ?_
  refine ops_op rfl rfl (runs_none rfl) (mv_s (.inl rfl) rfl) ?_
  refine ops_op rfl rfl (runs_none rfl) (does_eqnil0 rfl ts65 rfl rfl (.inl ⟨rfl, rfl⟩)) ?_
  refine ops_nil ?_
  repeat (first | refine aw_seq ?_ | refine ath_n ?_ | refine aw_skip ?_ | refine abl_n ?_ | refine aw_block ?_)
  refine aw_true rfl ?_
  repeat (first | refine aw_seq ?_ | refine ath_n ?_ | refine aw_skip ?_ | refine abl_n ?_ | refine aw_block ?_)
  refine aw_region ?_
  first | refine ops_op rfl rfl (runs_none rfl) (mv_own (.inr rfl) rfl) ?_ | refine ops_op rfl rfl (runs_none rfl) (mv_sl (.inr rfl) rfl) ?_ | refine ops_op rfl rfl (runs_none rfl) (mv_s (.inr rfl) rfl) ?_ | refine ops_op rfl rfl (runs_none rfl) (mv_emp (.inr rfl) rfl) ?_ | refine ops_op rfl rfl (runs_none rfl) (mv_sub (.inr rfl) rfl) ?_
  refine ops_nil ?_
  repeat (first | refine aw_seq ?_ | refine ath_n ?_ | refine aw_skip ?_ | refine abl_n ?_ | refine aw_block ?_)
  refine aw_weak (wk_semp (d := 2) rfl) ?_
  (refine aw_ret ?_; repeat (first | refine ath_r ?_ | refine abl_r ?_))
  exact post1 (.inr rfl) rfl rfl
theorem cloneSE1_pf (a : Addr) : Pure P 59 [.s (.slice (some a) 0 0)] .emp := by
  refine aw_fn (by rw [IsP.eq (P := P)]; exact Try.func59) rfl rfl rfl rfl rfl (lo_cons (.s _) lo_nil) .emp (by simp only [argF]; rfl) ?_
  repeat (first | refine aw_seq ?_ | refine ath_n ?_ | refine aw_skip ?_ | refine abl_n ?_ | refine aw_block ?_)
  refine aw_region ?_
  first | refine ops_op rfl rfl (runs_none rfl) (mv_own (.inr rfl) rfl) ?_ | refine ops_op rfl rfl (runs_none rfl) (mv_sl (.inr rfl) rfl) ?_ | refine ops_op rfl rfl (runs_none rfl) (mv_s (.inr rfl) rfl) ?_ | refine ops_op rfl rfl (runs_none rfl) (mv_emp (.inr rfl) rfl) ?_ | refine ops_op rfl rfl (runs_none rfl) (mv_sub (.inr rfl) rfl) ?_
  refine ops_nil ?_
  repeat (first | refine aw_seq ?_ | refine ath_n ?_ | refine aw_skip ?_ | refine abl_n ?_ | refine aw_block ?_)
  refine aw_region ?_
  refine ops_op rfl rfl (runs_none rfl) (mv_s (.inl rfl) rfl) ?_
  refine ops_op rfl rfl (runs_none rfl) (does_eqsome (a := a) rfl ts65 rfl rfl) ?_
  refine ops_nil ?_
  repeat (first | refine aw_seq ?_ | refine ath_n ?_ | refine aw_skip ?_ | refine abl_n ?_ | refine aw_block ?_)
  refine aw_false rfl ?_
  repeat (first | refine aw_seq ?_ | refine ath_n ?_ | refine aw_skip ?_ | refine abl_n ?_ | refine aw_block ?_)
  refine aw_region ?_
  refine ops_op rfl rfl (runs_none rfl) (does_lit0 rfl rfl ts65 ti9) ?_
  refine ops_op rfl rfl (runs_none rfl) (mv_s (.inl rfl) rfl) ?_
  refine ops_op rfl rfl (runs_none rfl) (does_append_e (a := a) rfl ts65 ti9 rfl rfl) ?_
  refine ops_op rfl rfl (runs_none rfl) (mv_emp (.inr rfl) rfl) ?_
  refine ops_nil ?_
  repeat (first | refine aw_seq ?_ | refine ath_n ?_ | refine aw_skip ?_ | refine abl_n ?_ | refine aw_block ?_)
  (refine aw_ret ?_; repeat (first | refine ath_r ?_ | refine abl_r ?_))
  exact post1 (.inr rfl) rfl rfl
theorem cloneSE_pf : Pure P 59 [.emp] .emp := pure_emp cloneSE0_pf (fun a ha => cloneSE1_pf a)
end Go.Proofs.Ythdpacbjbdkemaa.Aw
end
section
namespace Go.Proofs.Ythdpacbjbdkemaa.Aw
set_option linter.unusedSimpArgs false
set_option linter.unusedVariables false
set_option linter.unusedSectionVars false
open Go Go.RowKit Go.Proofs
variable {P : Program} [IsP P]

def exS : Spc := ⟨[[1, 0, 0], [0, 1, 0], [0, 0, 1]], [⟨0, 1, 0⟩, ⟨1, 0, 1⟩, ⟨1, 2, 2⟩], true⟩
theorem exS_ok : MvOk exN exS := by
  intro k hk
  have hk : k < 3 := hk
  match k, hk with
  | 0, _ => decide
  | 1, _ => decide
  | 2, _ => decide
  | k + 3, h => omega
theorem exN_ok : validB exN = true := by kernel_rfl
def orcW : Orc := fun f args => match args with
  | [x, .s (.int .i64 most)] => bif Nat.beq f 53 then (match unN x with
      | some n => some (.tup [eSpc (wholeE n most).1, eI (wholeE n most).2])
      | none => none)
    else bif Nat.beq f 51 then (match unN x with
      | some n => some (eI (givenE n most))
      | none => none)
    else none
  | [x, y] => bif Nat.beq f 54 && avEq x (eN exN) && avEq y (eSpc exS) then some (.ref (wkC exN exS (finE exN exS))) else none
  | [.emp] => bif Nat.beq f 59 then some .emp else none
  | [.ref c] => bif Nat.beq f 57 && avsEq c (wkC exN exS (finE exN exS)) then some (eL eB (startE exN exS)) else none
  | _ => none
def unBs : List AV → Option (List Bool)
  | [] => some []
  | .s (.bool n) :: l => match unBs l with
    | some r => some (n :: r)
    | none => none
  | _ :: _ => none
theorem unBs_of : ∀ {l : List AV} {r : List Bool}, unBs l = some r → l = r.map eB
  | [], r, h => by cases h; rfl
  | x :: l, r, h => by
    unfold unBs at h
    split at h
    · rename_i e; cases e
    · rename_i n l' e
      cases e
      split at h
      · rename_i r' hr
        cases h
        rw [unBs_of hr]; rfl
      · cases h
    · cases h
def orcSt : Orc := fun f args => match args with
  | [.ref c, .sl l, .s (.string a)] => bif Nat.beq f 58 && avsEq c (wkC exN exS (finE exN exS)) then (match unBs l with
      | some set => bif Nat.beq set.length 3 then some (eL eB (stepE exN exS.mv a set)) else none
      | none => none) else none
  | _ => none
theorem orcW_ok : OrcOk P orcW := by
  intro f args r h
  unfold orcW at h
  split at h
  · rename_i x most
    cases hb : Nat.beq f 53 with
    | true =>
      rw [hb, cond_true] at h
      split at h
      · rename_i n hn
        cases h
        rw [Nat.eq_of_beq_eq_true hb, unN_of hn]
        exact whole_pf n most
      · cases h
    | false =>
      rw [hb, cond_false] at h
      cases hb : Nat.beq f 51 with
      | true =>
        rw [hb, cond_true] at h
        split at h
        · rename_i n hn
          cases h
          rw [Nat.eq_of_beq_eq_true hb, unN_of hn]
          exact given_pf n most
        · cases h
      | false => rw [hb] at h; cases h
  · rename_i x y _
    generalize hb : (Nat.beq f 54 && avEq x (eN exN) && avEq y (eSpc exS)) = b at h
    cases b with
    | false => cases h
    | true =>
      cases h
      simp only [Bool.and_eq_true] at hb
      rw [Nat.eq_of_beq_eq_true hb.1.1, avEq_of _ _ hb.1.2, avEq_of _ _ hb.2]
      exact walk_pf exN exS exN_ok exS_ok (by decide) (by decide)
  · cases hb : Nat.beq f 59 with
    | true => rw [hb] at h; cases h; rw [Nat.eq_of_beq_eq_true hb]; exact cloneSE_pf
    | false => rw [hb] at h; cases h
  · rename_i c
    generalize hb : (Nat.beq f 57 && avsEq c (wkC exN exS (finE exN exS))) = b at h
    cases b with
    | false => cases h
    | true =>
      cases h
      simp only [Bool.and_eq_true] at hb
      rw [Nat.eq_of_beq_eq_true hb.1, avsEq_of _ _ hb.2]
      exact start_pf exN exS _ exS_ok (by decide) (by decide) (by decide)
  · cases h
theorem orcSt_ok : OrcOk P orcSt := by
  intro f args r h
  unfold orcSt at h
  split at h
  · rename_i c l a
    generalize hb : (Nat.beq f 58 && avsEq c (wkC exN exS (finE exN exS))) = b at h
    cases b with
    | false => cases h
    | true =>
      simp only [Bool.and_eq_true] at hb
      rw [cond_true] at h
      split at h
      · rename_i set hs
        cases hl : Nat.beq set.length 3 with
        | false => rw [hl] at h; cases h
        | true =>
          rw [hl] at h
          cases h
          rw [Nat.eq_of_beq_eq_true hb.1, avsEq_of _ _ hb.2, unBs_of hs]
          exact step_pf exN exS _ exS_ok (by decide) (by decide) set (Nat.eq_of_beq_eq_true hl) a
      · cases h
  · cases h
def orcR : Orc := fun f args => match orcSt f args with
  | some r => some r
  | none => match orcW f args with
    | some r => some r
    | none => orcSp f args
theorem orcR_ok : OrcOk P orcR := by
  intro f args r h
  unfold orcR at h
  split at h
  · rename_i r' hr
    cases h
    exact orcSt_ok f args _ hr
  · split at h
    · rename_i r' hr
      cases h
      exact orcW_ok f args _ hr
    · exact orcSp_ok f args r h

end Go.Proofs.Ythdpacbjbdkemaa.Aw
end
section
namespace Go.Proofs.Ythdpacbjbdkemaa.Aw
set_option linter.unusedSimpArgs false
set_option linter.unusedVariables false
set_option linter.unusedSectionVars false
open Go Go.RowKit Go.Proofs
variable {P : Program} [IsP P]

def twoB : Option (AV × Sto × List Nat) → Bool
  | some (.tup [.own m 1 2, .s (.int .i64 0)], s, _) => Nat.blt m s.len
  | _ => false
theorem two_of {r : Option (AV × Sto × List Nat)} (h : twoB r = true) : ∃ m s W, r = some (.tup [.own m 1 2, eI 0], s, W) ∧ m < s.len := by
  unfold twoB at h
  split at h
  · rename_i m s W
    exact ⟨m, s, W, rfl, by rwa [Nat.blt_eq] at h⟩
  · cases h
theorem words_ev : twoB (evCall Try.prog orcR 1000 26 [eN exN, eI 3, eI 10] Sto.nil) = true := by kernel_rfl
theorem words_ex : ∃ m σ' ob, σ'[m]? = some ob ∧ CallE P 26 [eN exN, eI 3, eI 10] [] (.tup [.own m 1 2, eI 0]) σ' := by
  obtain ⟨m, s, W, he, hm⟩ := two_of words_ev
  have hc := (evCall_ok (P := Try.prog) hmix orcR_ok 1000 _ _ _ _ _ _ he).1
  rw [Sto.abs_nil] at hc
  refine ⟨m, s.abs, s.abs[m]'(by rw [Sto.abs_len]; exact hm), List.getElem?_eq_getElem _, ?_⟩
  rw [IsP.eq (P := P)]
  exact hc
theorem acc_ex : acceptsE exN [bA, bA, bB] 10 = (true, 0) := by kernel_rfl
theorem expl_ex : explE exN [1, 0, 0] 10 = (exS, 0) := by kernel_rfl
set_option maxHeartbeats 2000000 in
theorem awake_pf : Pure P 7 [] (eB true) := by
  obtain ⟨m, σ', ob, hob, hw⟩ := words_ex (P := P)
  have hx := explore_pf (P := P) exN [1, 0, 0] 10
  rw [expl_ex] at hx
  have ha := accepts_pf (P := P) exN [bA, bA, bB] 10
  rw [acc_ex] at ha
  replace hx : Pure P 10 [eN exN, eL eI [1, 0, 0], eI 10] (.tup [eSpc exS, eI 0]) := hx
  replace ha : Pure P 27 [eN exN, eL eS [bA, bA, bB], eI 10] (.tup [eB true, eI 0]) := ha
  have hln : Lo 0 (.ref (eN exN).cells) := .ref _ (lo_N exN).cells
  have hls : Lo 0 (.ref (eSpc exS).cells) := .ref _ (lo_Spc exS).cells
  refine aw_fn (by rw [IsP.eq (P := P)]; exact Try.func7) rfl rfl rfl rfl rfl (by repeat' (first | exact Lo.s _ | exact Lo.emp | exact Lo.any | exact lo_nil | exact lo_nilE | refine lo_cons ?_ ?_ | refine lo_consE ?_ ?_ | refine lo_map ?_ | refine lo_mapE ?_ | refine Lo.cells ?_ | refine Lo.agg _ ?_ | refine Lo.ref _ ?_ | refine Lo.tup _ ?_ | refine Lo.fn _ _ ?_ | refine Lo.sl _ ?_ | intro _)) (by repeat' (first | exact Lo.s _ | exact Lo.emp | exact Lo.any | exact lo_nil | exact lo_nilE | refine lo_cons ?_ ?_ | refine lo_consE ?_ ?_ | refine lo_map ?_ | refine lo_mapE ?_ | refine Lo.cells ?_ | refine Lo.agg _ ?_ | refine Lo.ref _ ?_ | refine Lo.tup _ ?_ | refine Lo.fn _ _ ?_ | refine Lo.sl _ ?_ | intro _)) (by simp only [argF]; rfl) ?_
  repeat (first | refine aw_seq ?_ | refine ath_n ?_ | refine aw_skip ?_ | refine abl_n ?_ | refine aw_block ?_)
  refine aw_region ?_
  refine ops_op rfl rfl (runs_none rfl) (mv_s (.inr rfl) rfl) ?_
  refine ops_nil ?_
  repeat (first | refine aw_seq ?_ | refine ath_n ?_ | refine aw_skip ?_ | refine abl_n ?_ | refine aw_block ?_)
  refine aw_region ?_
  first | refine ops_op rfl rfl (runs_none rfl) (lit1_s rfl ts25 ti3 rfl rfl rfl rfl) ?_ | refine ops_op rfl rfl (runs_none rfl) (lit1_sl rfl ts25 ti3 rfl rfl rfl rfl) ?_ | refine ops_op rfl rfl (runs_none rfl) (does_litA rfl ts25 ti3 rfl rfl (by decide) (by decide) rfl rfl rfl) ?_
  refine aops_weak (wk_froz (id := 0) rfl) (aops_weak (wk_sl (d := 8) rfl rfl (by first | rfl | (simp; done) | (simp; omega))) ?_)
  first | refine ops_op rfl rfl (runs_none rfl) (lit1_s rfl ts25 ti3 rfl rfl rfl rfl) ?_ | refine ops_op rfl rfl (runs_none rfl) (lit1_sl rfl ts25 ti3 rfl rfl rfl rfl) ?_ | refine ops_op rfl rfl (runs_none rfl) (does_litA rfl ts25 ti3 rfl rfl (by decide) (by decide) rfl rfl rfl) ?_
  refine aops_weak (wk_froz (id := 1) rfl) (aops_weak (wk_sl (d := 9) rfl rfl (by first | rfl | (simp; done) | (simp; omega))) ?_)
  refine ops_op rfl rfl (runs_none rfl) (does_build rfl ti59 tp59 rfl rfl) ?_
  first | refine ops_op rfl rfl (runs_none rfl) (lit1_s rfl ts25 ti3 rfl rfl rfl rfl) ?_ | refine ops_op rfl rfl (runs_none rfl) (lit1_sl rfl ts25 ti3 rfl rfl rfl rfl) ?_ | refine ops_op rfl rfl (runs_none rfl) (does_litA rfl ts25 ti3 rfl rfl (by decide) (by decide) rfl rfl rfl) ?_
  refine aops_weak (wk_froz (id := 2) rfl) (aops_weak (wk_sl (d := 11) rfl rfl (by first | rfl | (simp; done) | (simp; omega))) ?_)
  first | refine ops_op rfl rfl (runs_none rfl) (lit1_s rfl ts25 ti3 rfl rfl rfl rfl) ?_ | refine ops_op rfl rfl (runs_none rfl) (lit1_sl rfl ts25 ti3 rfl rfl rfl rfl) ?_ | refine ops_op rfl rfl (runs_none rfl) (does_litA rfl ts25 ti3 rfl rfl (by decide) (by decide) rfl rfl rfl) ?_
  refine aops_weak (wk_froz (id := 3) rfl) (aops_weak (wk_sl (d := 12) rfl rfl (by first | rfl | (simp; done) | (simp; omega))) ?_)
  refine ops_op rfl rfl (runs_none rfl) (does_build rfl ti59 tp59 rfl rfl) ?_
  first | refine ops_op rfl rfl (runs_none rfl) (lit1_s rfl ts25 ti3 rfl rfl rfl rfl) ?_ | refine ops_op rfl rfl (runs_none rfl) (lit1_sl rfl ts25 ti3 rfl rfl rfl rfl) ?_ | refine ops_op rfl rfl (runs_none rfl) (does_litA rfl ts25 ti3 rfl rfl (by decide) (by decide) rfl rfl rfl) ?_
  refine aops_weak (wk_froz (id := 4) rfl) (aops_weak (wk_sl (d := 14) rfl rfl (by first | rfl | (simp; done) | (simp; omega))) ?_)
  first | refine ops_op rfl rfl (runs_none rfl) (lit1_s rfl ts25 ti3 rfl rfl rfl rfl) ?_ | refine ops_op rfl rfl (runs_none rfl) (lit1_sl rfl ts25 ti3 rfl rfl rfl rfl) ?_ | refine ops_op rfl rfl (runs_none rfl) (does_litA rfl ts25 ti3 rfl rfl (by decide) (by decide) rfl rfl rfl) ?_
  refine aops_weak (wk_froz (id := 5) rfl) (aops_weak (wk_sl (d := 15) rfl rfl (by first | rfl | (simp; done) | (simp; omega))) ?_)
  refine ops_op rfl rfl (runs_none rfl) (does_build rfl ti59 tp59 rfl rfl) ?_
  refine ops_op rfl rfl (runs_none rfl) (does_lit rfl ts22 ti59 rfl rfl (by decide) (by decide) (by decide) rfl rfl) ?_
  refine aops_weak (wk_froz (id := 6) rfl) (aops_weak (wk_sl (d := 17) rfl rfl (by first | rfl | (simp; done) | (simp; omega))) ?_)
  refine ops_op rfl rfl (runs_none rfl) (does_build rfl ti24 tp24 rfl rfl) ?_
  refine ops_op rfl rfl (runs_none rfl) (does_alloc rfl ti24 rfl rfl) ?_
  refine ops_eff rfl (runs_none rfl) (does_store rfl ti24 rfl rfl rfl rfl rfl rfl (by decide) (by decide)) ?_
  refine ops_nil ?_
  repeat (first | refine aw_seq ?_ | refine ath_n ?_ | refine aw_skip ?_ | refine abl_n ?_ | refine aw_block ?_)
  refine aw_weak (wk_froz (id := 7) rfl) ?_
  refine aw_weak (wk_ref (d := 1) rfl rfl rfl) ?_
  refine aw_weak (F' := [(1, .ref (eN exN).cells)]) (σ' := []) (wk_st [] (by decide) trivial ⟨.lo _ hln, trivial⟩) ?_
  refine aw_region ?_
  first | refine ops_op rfl rfl (runs_none rfl) (does_load_refw rfl ta24 ti24 rfl rfl) ?_ | refine ops_op rfl rfl (runs_none rfl) (does_load_whole rfl ta24 ti24 rfl rfl rfl rfl rfl) ?_ | refine ops_op rfl rfl (runs_none rfl) (does_load_refs rfl ta24 ti24 rfl (Nat.le_of_ble_eq_true rfl)) ?_ | refine ops_op rfl rfl (runs_none rfl) (does_load_ptrs rfl ta24 ti24 rfl rfl rfl rfl (Nat.le_of_ble_eq_true rfl)) ?_
  refine ops_op rfl rfl (runs_none rfl) (does_lit rfl ts25 ti3 rfl rfl (by decide) (by decide) (by decide) rfl rfl) ?_
  refine aops_weak (wk_froz (id := 0) rfl) (aops_weak (wk_sl (d := 21) rfl rfl (by first | rfl | (simp; done) | (simp; omega))) ?_)
  refine ops_op rfl rfl (runs_none rfl) (does_call rfl rfl (hx) (evc_cons rfl (evc_cons rfl (evc_cons rfl evc_nil)))) ?_
  first | refine ops_op rfl rfl (runs_none rfl) (mv_tup (.inl rfl) rfl) ?_ | refine ops_op rfl rfl (runs_none rfl) (mv_s (.inl rfl) rfl) ?_
  refine ops_op rfl rfl (runs_none rfl) (does_extract rfl rfl rfl) ?_
  refine ops_op rfl rfl (runs_none rfl) (does_extract rfl rfl rfl) ?_
  refine ops_op rfl rfl (runs_none rfl) (does_alloc rfl ti29 rfl rfl) ?_
  refine ops_eff rfl (runs_none rfl) (does_store rfl ti29 rfl rfl rfl rfl rfl rfl (by decide) (by decide)) ?_
  refine ops_op rfl rfl (runs_none rfl) (mv_s (.inr rfl) rfl) ?_
  refine ops_nil ?_
  repeat (first | refine aw_seq ?_ | refine ath_n ?_ | refine aw_skip ?_ | refine abl_n ?_ | refine aw_block ?_)
  refine aw_weak (wk_froz (id := 1) rfl) ?_
  refine aw_weak (wk_ref (d := 2) rfl rfl rfl) ?_
  refine aw_weak (F' := [(1, .ref (eN exN).cells), (2, .ref (eSpc exS).cells), (3, eI 0)]) (σ' := []) (wk_st [] (by decide) trivial ⟨.lo _ hln, .lo _ hls, .lo _ (by repeat' (first | exact Lo.s _ | exact Lo.emp | exact Lo.any | exact lo_nil | exact lo_nilE | refine lo_cons ?_ ?_ | refine lo_consE ?_ ?_ | refine lo_map ?_ | refine lo_mapE ?_ | refine Lo.cells ?_ | refine Lo.agg _ ?_ | refine Lo.ref _ ?_ | refine Lo.tup _ ?_ | refine Lo.fn _ _ ?_ | refine Lo.sl _ ?_ | intro _)), trivial⟩) ?_
  refine aw_region ?_
  first | refine ops_op rfl rfl (runs_none rfl) (does_load_refw rfl ta24 ti24 rfl rfl) ?_ | refine ops_op rfl rfl (runs_none rfl) (does_load_whole rfl ta24 ti24 rfl rfl rfl rfl rfl) ?_ | refine ops_op rfl rfl (runs_none rfl) (does_load_refs rfl ta24 ti24 rfl (Nat.le_of_ble_eq_true rfl)) ?_ | refine ops_op rfl rfl (runs_none rfl) (does_load_ptrs rfl ta24 ti24 rfl rfl rfl rfl (Nat.le_of_ble_eq_true rfl)) ?_
  refine ops_op rfl rfl (runs_none rfl) (does_callE rfl rfl hw rfl) ?_
  first | refine ops_op rfl rfl (runs_none rfl) (mv_tup (.inl rfl) rfl) ?_ | refine ops_op rfl rfl (runs_none rfl) (mv_s (.inl rfl) rfl) ?_
  refine ops_op rfl rfl (runs_none rfl) (does_extract rfl rfl rfl) ?_
  refine ops_op rfl rfl (runs_none rfl) (does_extract rfl rfl rfl) ?_
  first | refine ops_op rfl rfl (runs_none rfl) (mv_own (.inr rfl) rfl) ?_ | refine ops_op rfl rfl (runs_none rfl) (mv_sl (.inr rfl) rfl) ?_ | refine ops_op rfl rfl (runs_none rfl) (mv_s (.inr rfl) rfl) ?_ | refine ops_op rfl rfl (runs_none rfl) (mv_emp (.inr rfl) rfl) ?_ | refine ops_op rfl rfl (runs_none rfl) (mv_sub (.inr rfl) rfl) ?_
  refine ops_op rfl rfl (runs_none rfl) (mv_s (.inr rfl) rfl) ?_
  refine ops_nil ?_
  repeat (first | refine aw_seq ?_ | refine ath_n ?_ | refine aw_skip ?_ | refine abl_n ?_ | refine aw_block ?_)
  refine aw_weak (F' := [(1, .ref (eN exN).cells), (2, .ref (eSpc exS).cells), (3, eI 0), (4, .own 0 1 2), (5, eI 0)]) (σ' := [.dead]) (wk_st [m] (by simp) ⟨⟨ob, hob, .dead _⟩, trivial⟩ ⟨.lo _ hln, .lo _ hls, .lo _ (by repeat' (first | exact Lo.s _ | exact Lo.emp | exact Lo.any | exact lo_nil | exact lo_nilE | refine lo_cons ?_ ?_ | refine lo_consE ?_ ?_ | refine lo_map ?_ | refine lo_mapE ?_ | refine Lo.cells ?_ | refine Lo.agg _ ?_ | refine Lo.ref _ ?_ | refine Lo.tup _ ?_ | refine Lo.fn _ _ ?_ | refine Lo.sl _ ?_ | intro _)), .own m 0 1 2 2 rfl rfl, .lo _ (by repeat' (first | exact Lo.s _ | exact Lo.emp | exact Lo.any | exact lo_nil | exact lo_nilE | refine lo_cons ?_ ?_ | refine lo_consE ?_ ?_ | refine lo_map ?_ | refine lo_mapE ?_ | refine Lo.cells ?_ | refine Lo.agg _ ?_ | refine Lo.ref _ ?_ | refine Lo.tup _ ?_ | refine Lo.fn _ _ ?_ | refine Lo.sl _ ?_ | intro _)), trivial⟩) ?_
  refine aw_region ?_
  first | refine ops_op rfl rfl (runs_none rfl) (does_load_refw rfl ta24 ti24 rfl rfl) ?_ | refine ops_op rfl rfl (runs_none rfl) (does_load_whole rfl ta24 ti24 rfl rfl rfl rfl rfl) ?_ | refine ops_op rfl rfl (runs_none rfl) (does_load_refs rfl ta24 ti24 rfl (Nat.le_of_ble_eq_true rfl)) ?_ | refine ops_op rfl rfl (runs_none rfl) (does_load_ptrs rfl ta24 ti24 rfl rfl rfl rfl (Nat.le_of_ble_eq_true rfl)) ?_
  refine ops_op rfl rfl (runs_none rfl) (does_lit rfl ts65 ti9 rfl rfl (by decide) (by decide) (by decide) rfl rfl) ?_
  refine aops_weak (wk_froz (id := 1) rfl) (aops_weak (wk_sl (d := 32) rfl rfl (by first | rfl | (simp; done) | (simp; omega))) ?_)
  refine ops_op rfl rfl (runs_none rfl) (does_call rfl rfl (ha) (evc_cons rfl (evc_cons rfl (evc_cons rfl evc_nil)))) ?_
  first | refine ops_op rfl rfl (runs_none rfl) (mv_tup (.inl rfl) rfl) ?_ | refine ops_op rfl rfl (runs_none rfl) (mv_s (.inl rfl) rfl) ?_
  refine ops_op rfl rfl (runs_none rfl) (does_extract rfl rfl rfl) ?_
  refine ops_op rfl rfl (runs_none rfl) (does_extract rfl rfl rfl) ?_
  refine ops_op rfl rfl (runs_none rfl) (mv_s (.inr rfl) rfl) ?_
  refine ops_op rfl rfl (runs_none rfl) (mv_s (.inr rfl) rfl) ?_
  refine ops_nil ?_
  repeat (first | refine aw_seq ?_ | refine ath_n ?_ | refine aw_skip ?_ | refine abl_n ?_ | refine aw_block ?_)
  refine aw_region ?_
  refine ops_op rfl rfl (runs_none rfl) (mv_s (.inl rfl) rfl) ?_
  refine ops_op rfl rfl (runs_none rfl) (dec_t rfl (does_eql rfl rfl rfl)) ?_
  refine ops_op rfl rfl (runs_none rfl) (mv_s (.inl rfl) rfl) ?_
  first | refine ops_op rfl rfl (runs_y rfl rfl rfl) (does_fieldAddr_ptr rfl tf29_0 (by decide) rfl) ?_ | refine ops_op rfl rfl (runs_y rfl rfl rfl) (does_fieldAddr_ref rfl tf29_0 (by decide) rfl) ?_ | refine ops_skip rfl rfl (runs_nt rfl rfl rfl) ?_ | refine ops_skip rfl rfl (runs_nu rfl rfl rfl) ?_
  first | refine ops_op rfl rfl (runs_y rfl rfl rfl) (does_load_ref rfl ta26 rfl) ?_ | refine ops_op rfl rfl (runs_y rfl rfl rfl) (does_load_ptr rfl ta26 rfl rfl rfl rfl rfl) ?_ | refine ops_skip rfl rfl (runs_nt rfl rfl rfl) ?_ | refine ops_skip rfl rfl (runs_nu rfl rfl rfl) ?_
  first | refine ops_op rfl rfl (runs_y rfl rfl rfl) (does_len_map rfl ts26 rfl) ?_ | refine ops_op rfl rfl (runs_y rfl rfl rfl) (does_len_sl rfl ts26 rfl) ?_ | refine ops_op rfl rfl (runs_y rfl rfl rfl) (does_len_own rfl ts26 rfl) ?_ | refine ops_op rfl rfl (runs_y rfl rfl rfl) (does_len_s rfl ts26 rfl) ?_ | refine ops_op rfl rfl (runs_y rfl rfl rfl) (does_len_emp rfl ts26 rfl) ?_ | refine ops_op rfl rfl (runs_y rfl rfl rfl) (does_len_sub rfl ts26 rfl) ?_ | refine ops_skip rfl rfl (runs_nt rfl rfl rfl) ?_ | refine ops_skip rfl rfl (runs_nu rfl rfl rfl) ?_
  first | refine ops_op rfl rfl (runs_y rfl rfl rfl) (dec_t (by decide) (does_eql rfl rfl rfl)) ?_ | refine ops_skip rfl rfl (runs_nt rfl rfl rfl) ?_ | refine ops_skip rfl rfl (runs_nu rfl rfl rfl) ?_
  first | refine ops_op rfl rfl (runs_none rfl) (pickT_s rfl rfl rfl) ?_ | refine ops_op rfl rfl (runs_none rfl) (pickF_s rfl rfl rfl) ?_ | refine ops_op rfl rfl (runs_none rfl) (does_pickT rfl rfl rfl) ?_ | refine ops_op rfl rfl (runs_none rfl) (does_pickF rfl rfl rfl) ?_
  refine ops_op rfl rfl (runs_none rfl) (mv_s (.inl rfl) rfl) ?_
  first | refine ops_op rfl rfl (runs_y rfl rfl rfl) (does_fieldAddr_ptr rfl tf29_1 (by decide) rfl) ?_ | refine ops_op rfl rfl (runs_y rfl rfl rfl) (does_fieldAddr_ref rfl tf29_1 (by decide) rfl) ?_ | refine ops_skip rfl rfl (runs_nt rfl rfl rfl) ?_ | refine ops_skip rfl rfl (runs_nu rfl rfl rfl) ?_
  first | refine ops_op rfl rfl (runs_y rfl rfl rfl) (does_load_ref rfl ta27 rfl) ?_ | refine ops_op rfl rfl (runs_y rfl rfl rfl) (does_load_ptr rfl ta27 rfl rfl rfl rfl rfl) ?_ | refine ops_skip rfl rfl (runs_nt rfl rfl rfl) ?_ | refine ops_skip rfl rfl (runs_nu rfl rfl rfl) ?_
  first | refine ops_op rfl rfl (runs_y rfl rfl rfl) (does_len_map rfl ts27 rfl) ?_ | refine ops_op rfl rfl (runs_y rfl rfl rfl) (does_len_sl rfl ts27 rfl) ?_ | refine ops_op rfl rfl (runs_y rfl rfl rfl) (does_len_own rfl ts27 rfl) ?_ | refine ops_op rfl rfl (runs_y rfl rfl rfl) (does_len_s rfl ts27 rfl) ?_ | refine ops_op rfl rfl (runs_y rfl rfl rfl) (does_len_emp rfl ts27 rfl) ?_ | refine ops_op rfl rfl (runs_y rfl rfl rfl) (does_len_sub rfl ts27 rfl) ?_ | refine ops_skip rfl rfl (runs_nt rfl rfl rfl) ?_ | refine ops_skip rfl rfl (runs_nu rfl rfl rfl) ?_
  first | refine ops_op rfl rfl (runs_y rfl rfl rfl) (dec_t (by decide) (does_eql rfl rfl rfl)) ?_ | refine ops_skip rfl rfl (runs_nt rfl rfl rfl) ?_ | refine ops_skip rfl rfl (runs_nu rfl rfl rfl) ?_
  first | refine ops_op rfl rfl (runs_none rfl) (pickT_s rfl rfl rfl) ?_ | refine ops_op rfl rfl (runs_none rfl) (pickF_s rfl rfl rfl) ?_ | refine ops_op rfl rfl (runs_none rfl) (does_pickT rfl rfl rfl) ?_ | refine ops_op rfl rfl (runs_none rfl) (does_pickF rfl rfl rfl) ?_
  refine ops_op rfl rfl (runs_none rfl) (mv_s (.inl rfl) rfl) ?_
  first | refine ops_op rfl rfl (runs_y rfl rfl rfl) (does_fieldAddr_ptr rfl tf29_2 (by decide) rfl) ?_ | refine ops_op rfl rfl (runs_y rfl rfl rfl) (does_fieldAddr_ref rfl tf29_2 (by decide) rfl) ?_ | refine ops_skip rfl rfl (runs_nt rfl rfl rfl) ?_ | refine ops_skip rfl rfl (runs_nu rfl rfl rfl) ?_
  first | refine ops_op rfl rfl (runs_y rfl rfl rfl) (does_load_ref rfl ta4 rfl) ?_ | refine ops_op rfl rfl (runs_y rfl rfl rfl) (does_load_ptr rfl ta4 rfl rfl rfl rfl rfl) ?_ | refine ops_skip rfl rfl (runs_nt rfl rfl rfl) ?_ | refine ops_skip rfl rfl (runs_nu rfl rfl rfl) ?_
  first | refine ops_op rfl rfl (runs_none rfl) (pickT_s rfl rfl rfl) ?_ | refine ops_op rfl rfl (runs_none rfl) (pickF_s rfl rfl rfl) ?_ | refine ops_op rfl rfl (runs_none rfl) (does_pickT rfl rfl rfl) ?_ | refine ops_op rfl rfl (runs_none rfl) (does_pickF rfl rfl rfl) ?_
  refine ops_op rfl rfl (runs_none rfl) (mv_s (.inl rfl) rfl) ?_
  first | refine ops_op rfl rfl (runs_y rfl rfl rfl) (mv_s (.inl rfl) rfl) ?_ | refine ops_skip rfl rfl (runs_nt rfl rfl rfl) ?_ | refine ops_skip rfl rfl (runs_nu rfl rfl rfl) ?_
  first | refine ops_op rfl rfl (runs_y rfl rfl rfl) (dec_t rfl (does_eql rfl rfl rfl)) ?_ | refine ops_skip rfl rfl (runs_nt rfl rfl rfl) ?_ | refine ops_skip rfl rfl (runs_nu rfl rfl rfl) ?_
  first | refine ops_op rfl rfl (runs_none rfl) (pickT_s rfl rfl rfl) ?_ | refine ops_op rfl rfl (runs_none rfl) (pickF_s rfl rfl rfl) ?_ | refine ops_op rfl rfl (runs_none rfl) (does_pickT rfl rfl rfl) ?_ | refine ops_op rfl rfl (runs_none rfl) (does_pickF rfl rfl rfl) ?_
  refine ops_op rfl rfl (runs_none rfl) (mv_s (.inl rfl) rfl) ?_
  first | refine ops_op rfl rfl (runs_y rfl rfl rfl) (mv_own (.inl rfl) rfl) ?_ | refine ops_op rfl rfl (runs_y rfl rfl rfl) (mv_sl (.inl rfl) rfl) ?_ | refine ops_op rfl rfl (runs_y rfl rfl rfl) (mv_s (.inl rfl) rfl) ?_ | refine ops_op rfl rfl (runs_y rfl rfl rfl) (mv_emp (.inl rfl) rfl) ?_ | refine ops_op rfl rfl (runs_y rfl rfl rfl) (mv_sub (.inl rfl) rfl) ?_ | refine ops_skip rfl rfl (runs_nt rfl rfl rfl) ?_ | refine ops_skip rfl rfl (runs_nu rfl rfl rfl) ?_
  first | refine ops_op rfl rfl (runs_y rfl rfl rfl) (does_len_map rfl ts60 rfl) ?_ | refine ops_op rfl rfl (runs_y rfl rfl rfl) (does_len_sl rfl ts60 rfl) ?_ | refine ops_op rfl rfl (runs_y rfl rfl rfl) (does_len_own rfl ts60 rfl) ?_ | refine ops_op rfl rfl (runs_y rfl rfl rfl) (does_len_s rfl ts60 rfl) ?_ | refine ops_op rfl rfl (runs_y rfl rfl rfl) (does_len_emp rfl ts60 rfl) ?_ | refine ops_op rfl rfl (runs_y rfl rfl rfl) (does_len_sub rfl ts60 rfl) ?_ | refine ops_skip rfl rfl (runs_nt rfl rfl rfl) ?_ | refine ops_skip rfl rfl (runs_nu rfl rfl rfl) ?_
  first | refine ops_op rfl rfl (runs_y rfl rfl rfl) (dec_t (by decide) (does_eql rfl rfl rfl)) ?_ | refine ops_skip rfl rfl (runs_nt rfl rfl rfl) ?_ | refine ops_skip rfl rfl (runs_nu rfl rfl rfl) ?_
  first | refine ops_op rfl rfl (runs_none rfl) (pickT_s rfl rfl rfl) ?_ | refine ops_op rfl rfl (runs_none rfl) (pickF_s rfl rfl rfl) ?_ | refine ops_op rfl rfl (runs_none rfl) (does_pickT rfl rfl rfl) ?_ | refine ops_op rfl rfl (runs_none rfl) (does_pickF rfl rfl rfl) ?_
  refine ops_op rfl rfl (runs_none rfl) (mv_s (.inl rfl) rfl) ?_
  first | refine ops_op rfl rfl (runs_y rfl rfl rfl) (mv_s (.inl rfl) rfl) ?_ | refine ops_skip rfl rfl (runs_nt rfl rfl rfl) ?_ | refine ops_skip rfl rfl (runs_nu rfl rfl rfl) ?_
  first | refine ops_op rfl rfl (runs_none rfl) (pickT_s rfl rfl rfl) ?_ | refine ops_op rfl rfl (runs_none rfl) (pickF_s rfl rfl rfl) ?_ | refine ops_op rfl rfl (runs_none rfl) (does_pickT rfl rfl rfl) ?_ | refine ops_op rfl rfl (runs_none rfl) (does_pickF rfl rfl rfl) ?_
  refine ops_op rfl rfl (runs_none rfl) (mv_s (.inl rfl) rfl) ?_
  first | refine ops_op rfl rfl (runs_y rfl rfl rfl) (mv_s (.inl rfl) rfl) ?_ | refine ops_skip rfl rfl (runs_nt rfl rfl rfl) ?_ | refine ops_skip rfl rfl (runs_nu rfl rfl rfl) ?_
  first | refine ops_op rfl rfl (runs_y rfl rfl rfl) (dec_t rfl (does_eql rfl rfl rfl)) ?_ | refine ops_skip rfl rfl (runs_nt rfl rfl rfl) ?_ | refine ops_skip rfl rfl (runs_nu rfl rfl rfl) ?_
  first | refine ops_op rfl rfl (runs_none rfl) (pickT_s rfl rfl rfl) ?_ | refine ops_op rfl rfl (runs_none rfl) (pickF_s rfl rfl rfl) ?_ | refine ops_op rfl rfl (runs_none rfl) (does_pickT rfl rfl rfl) ?_ | refine ops_op rfl rfl (runs_none rfl) (does_pickF rfl rfl rfl) ?_
  refine ops_op rfl rfl (runs_none rfl) (mv_s (.inr rfl) rfl) ?_
  refine ops_nil ?_
  repeat (first | refine aw_seq ?_ | refine ath_n ?_ | refine aw_skip ?_ | refine abl_n ?_ | refine aw_block ?_)
  (refine aw_ret ?_; repeat (first | refine ath_r ?_ | refine abl_r ?_))
  exact post1 (.inr rfl) rfl rfl
end Go.Proofs.Ythdpacbjbdkemaa.Aw
end
section
namespace Go.Proofs.Ythdpacbjbdkemaa.Aw
set_option linter.unusedSimpArgs false
set_option linter.unusedVariables false
set_option linter.unusedSectionVars false
open Go Go.RowKit Go.Proofs
variable {P : Program} [IsP P]

theorem take_snocI {l : List Int} {k : Nat} (h : k < l.length) : l.take (k + 1) = l.take k ++ [gti l k] := by
  rw [List.take_add_one, gti_get h]; rfl
end Go.Proofs.Ythdpacbjbdkemaa.Aw
end
section
namespace Go.Proofs.Ythdpacbjbdkemaa
set_option linter.unusedSimpArgs false
set_option linter.unusedVariables false
open Go.ChangeShapes Go.WideShapes Go.ChangeAt Go.RowKit

theorem own_knob : ownKnob Try.prog.godebug = none := by kernel_rfl
theorem laid_out : laidOutB Try.prog = true := by kernel_rfl

section
variable {H : Type} {enc : TypeId × Value → H}
set_option maxRecDepth 100000 in
theorem law_post {f : Func} {s : ChangeSpec} {W W' : World} {args : Array Value} {ds gs : List (DataW H)} {before : List MemPlace} {t : TypeId}
    (hW : DataW.Whole enc Try.prog f.params.toList s.vars false W args.toList ds gs before) (hr : f.resultTypes = #[t]) (ht : Try.prog.underlying t = some .bool)
    (hfn : (s.fn H (ds ++ gs)).results = [.lit (.bool true)] ∧ (s.fn H (ds ++ gs)).args = ds ∧ (s.fn H (ds ++ gs)).vars = []) (hv : s.vars = [])
    (hargs : DataW.TrodAll enc Try.prog W' 0 (fun b => decide (b < W.heap.size)) true f.params.toList args.toList ds before) (hb : Below W.heap.size W W') :
    s.post enc Try.prog f false true false false W args (.bool true) W' := by
  refine ⟨ds, gs, before, [], before, [], hW, ?_, ?_, ?_, World.keptBut_mono (fun p hp => ⟨hp, Or.inr (by simpa using hp)⟩) (hb.frame (· ∈ before)), fun h => by cases h⟩
  · rw [hfn.1, hr]
    exact trodAll_mk1 (shut_bool ht true)
  · rw [hfn.2.1]
    exact hargs
  · rw [hfn.2.2, hv]
    rfl
end
namespace Aw
/-- before the law is called -/
def G0 (W : World) : Cx := { base := 0, w0 := W, w := W, mu := fun _ => none, St := fun b _ => b < W.heap.size }
theorem pure_law {P : Program} {f : FuncId} {args : List AV} (hp : Pure P f args (eB true)) (W : World) (vargs : Array Value) (hsz : vargs.size = args.length) (hrep : ∀ (j : Nat) v x, vargs[j]? = some v → args[j]? = some x → Rep (G0 W) v x) :
    Calls P f vargs W fun e w' => e = .returned (.bool true) ∧ Below W.heap.size W w' :=
  (hp.call (G0 W) vargs (fun b o h => h) hsz hrep).mono (by
    rintro e w' ⟨v, G', rfl, rfl, hb, _, _, _, hr⟩
    exact ⟨by rw [rep_s hr], hb⟩)
section
variable {H : Type} {enc : TypeId × Value → H} {w : World} {base : Nat} {sp : Nat → Bool} {held : Bool}
/-- cells of the store, seen -/
def Rc (w : World) (cs : List Value) (l : List AV) : Prop := cs.length = l.length ∧ (∀ c ∈ l, c.one = true) ∧ ∀ (j : Nat) v c, cs[j]? = some v → l[j]? = some c → Rep (G0 w) v c
theorem rc_nil : Rc w [] [] := ⟨rfl, by simp, fun j v c h => by simp at h⟩
theorem rc_cons {v : Value} {a : AV} {cs : List Value} {l : List AV} (h1 : Rep (G0 w) v a) (h2 : a.one = true) (h : Rc w cs l) : Rc w (v :: cs) (a :: l) :=
  ⟨by simp [h.1], fun c hc => by
    rcases List.mem_cons.1 hc with rfl | hc
    · exact h2
    · exact h.2.1 c hc, fun j u c hu hc => by
    cases j with
    | zero => simp at hu hc; subst hu hc; exact h1
    | succ j => simp at hu hc; exact h.2.2 j u c hu hc⟩
theorem rc_agg {vs : Array Value} {l : List AV} (h : Rc w vs.toList l) : Rep (G0 w) (.agg vs) (.agg l) :=
  .agg vs l (by simpa using h.1) h.2.1 (fun j v c hv hc => h.2.2 j v c (by simpa using hv) hc)
theorem addr_off (b off j : Nat) : (⟨b, off, none⟩ : Addr).add j = ⟨b, off + j, none⟩ := by unfold Addr.add; split <;> simp_all
theorem opens_slice {t e : TypeId} {β : Type} {f : β → AV} {size : Nat} (ht : Try.prog.underlying t = some (.slice e)) (hc : Try.prog.cellsOf e = size) (hpos : 0 < size) (hen : ∀ b, (f b).cells.length = size)
    (hel : ∀ fuel cs (x : DataW H × List MemPlace), DataW.trod enc Try.prog w base sp held fuel e cs = some x → ∃ b, Rc w cs (f b).cells)
    {fuel : Nat} {cs : List Value} {x : DataW H × List MemPlace} (h : DataW.trod enc Try.prog w base sp held fuel t cs = some x) : ∃ (v : Value) (l : List β), cs = [v] ∧ Rep (G0 w) v (eL f l) := by
  rcases DataW.trod_slice ht h with ⟨rfl, _⟩ | ⟨a, len, cap, elems, rest, n, _, rfl, _, hb, hl, hm, hlen, helem, _⟩
  · exact ⟨_, [], rfl, .slnil none 0⟩
  · rw [hc] at helem
    have hx : ∀ i : Fin len, ∃ p : List Value × β, w.cells? base (a.add (i * size)) size = some p.1 ∧ Rc w p.1 (f p.2).cells := by
      intro i
      have h1 := helem i i.2
      have hi : (i : Nat) < elems.length := by rw [hlen]; exact i.2
      rw [List.getElem?_eq_getElem hi, Option.bind_eq_some_iff] at h1
      obtain ⟨cs', h2, h3⟩ := h1
      obtain ⟨y, hy⟩ := hel _ _ _ h3
      exact ⟨(cs', y), h2, hy⟩
    obtain ⟨g, hg⟩ : ∃ g : Fin len → List Value × β, ∀ i : Fin len, w.cells? base (a.add ((i : Nat) * size)) size = some (g i).1 ∧ Rc w (g i).1 (f (g i).2).cells := ⟨fun i => Classical.choose (hx i), fun i => Classical.choose_spec (hx i)⟩
    rcases Nat.eq_zero_or_pos len with h0 | hn
    · subst h0
      exact ⟨_, [], rfl, .slnil _ _⟩
    · have hspot : a.spot = none := by
        have h1 := World.cells?_some (hg ⟨0, hn⟩).1
        have h2 := h1.2.2 0 hpos
        have h3 : ((a.add (0 * size)).add 0) = a := by simp [Addr.add]
        rw [List.getElem?_eq_getElem (by rw [h1.2.1]; exact hpos)] at h2
        have h4 := World.cell?_spot h2
        simpa [Addr.add] using h4
      obtain ⟨b, off, s⟩ := a
      simp only at hspot
      subst hspot
      refine ⟨_, List.ofFn (fun i => (g i).2), rfl, ?_⟩
      have hlf : ((List.ofFn fun i => (g i).2).map f).length = len := by simp
      have hel2 : ∀ (k : Nat) e, ((List.ofFn fun i => (g i).2).map f)[k]? = some e → ∃ hk : k < len, e = f (g ⟨k, hk⟩).2 := by
        intro k e hk
        have hkl : k < len := by have := (List.getElem?_eq_some_iff.1 hk).1; rwa [hlf] at this
        refine ⟨hkl, ?_⟩
        rw [List.getElem?_map, List.getElem?_ofFn] at hk
        simp [hkl] at hk
        exact hk.symm
      have key : ∀ (k : Nat) e (j : Nat) c, ((List.ofFn fun i => (g i).2).map f)[k]? = some e → e.cells[j]? = some c → ∃ u, w.cell? ⟨b, off + k * size + j, none⟩ = some u ∧ Rep (G0 w) u c := by
        intro k e j c hk hc'
        obtain ⟨hkl, rfl⟩ := hel2 k e hk
        obtain ⟨q1, q2, q3⟩ := (hg ⟨k, hkl⟩).2
        have hcs := World.cells?_some (hg ⟨k, hkl⟩).1
        have hj : j < size := by rw [← hen (g ⟨k, hkl⟩).2]; exact (List.getElem?_eq_some_iff.1 hc').1
        have hj2 : j < (g ⟨k, hkl⟩).1.length := by rw [hcs.2.1]; exact hj
        have h5 := hcs.2.2 j hj
        rw [List.getElem?_eq_getElem hj2] at h5
        rw [addr_off, addr_off] at h5
        exact ⟨(g ⟨k, hkl⟩).1[j], h5, q3 j _ c (List.getElem?_eq_getElem hj2) hc'⟩
      have hR := Rep.sl (G := G0 w) b off cap size ((List.ofFn fun i => (g i).2).map f) (fun k j => (w.cell? ⟨b, off + k * size + j, none⟩).getD undef) (by rw [hlf]; exact hl) (by rw [hlf]; exact Nat.le_trans hl hm) (fun k e hk => by
          obtain ⟨hkl, rfl⟩ := hel2 k e hk
          exact ⟨hen _, (hg ⟨k, hkl⟩).2.2.1⟩) (fun k e j c hk hc' => by
          obtain ⟨u, h6, _⟩ := key k e j c hk hc'
          exact ⟨World.block_lt_of_cell? _ _ h6, by show w.cell? _ = _; rw [h6]; rfl⟩) (fun k e j c hk hc' => by
          obtain ⟨u, h6, h7⟩ := key k e j c hk hc'
          rw [h6]; exact h7)
      rw [hlf] at hR
      exact hR
theorem opens_int {fuel : Nat} {cs : List Value} {x : DataW H × List MemPlace} (h : DataW.trod enc Try.prog w base sp held fuel 3 cs = some x) : ∃ n : Int, Rc w cs (eI n).cells := by
  obtain ⟨n, rfl, _⟩ := DataW.trod_int Try.underlying3 h
  exact ⟨n, rc_cons (.s _) rfl rc_nil⟩
theorem opens_ints {fuel : Nat} {cs : List Value} {x : DataW H × List MemPlace} (h : DataW.trod enc Try.prog w base sp held fuel 25 cs = some x) : ∃ (v : Value) (l : List Int), cs = [v] ∧ Rep (G0 w) v (eL eI l) :=
  opens_slice (size := 1) Try.underlying25 (by kernel_rfl) (by decide) (fun _ => rfl) (fun fuel cs x h => opens_int h) h
set_option maxRecDepth 100000 in
theorem opens_tr {fuel : Nat} {cs : List Value} {x : DataW H × List MemPlace} (h : DataW.trod enc Try.prog w base sp held fuel 59 cs = some x) : ∃ t : Tr, Rc w cs (eT t).cells := by
  obtain ⟨xs, n, _, _, hlen, hl, hg⟩ := DataW.trod_struct Try.underlying59 h
  have hc : Try.prog.cellsOf 59 = 3 := by kernel_rfl
  have h1 : Try.prog.cellsOf 9 = 1 := by kernel_rfl
  have h2 : Try.prog.cellsOf 25 = 1 := by kernel_rfl
  match cs, hlen.trans hc, xs, hl with
  | [c0, c1, c2], _, [x0, x1, x2], _ =>
    have g0 := hg 0 _ rfl
    have g1 := hg 1 _ rfl
    have g2 := hg 2 _ rfl
    simp [h1, h2] at g0 g1 g2
    obtain ⟨b, e0, _⟩ := DataW.trod_string Try.underlying9 g0
    obtain ⟨v1, l1, e1, r1⟩ := opens_ints g1
    obtain ⟨v2, l2, e2, r2⟩ := opens_ints g2
    injection e0 with e0
    injection e1 with e1
    injection e2 with e2
    subst e0 e1 e2
    exact ⟨⟨b, l1, l2⟩, rc_cons (.s _) rfl (rc_cons r1 rfl (rc_cons r2 rfl rc_nil))⟩
theorem opens_trs {fuel : Nat} {cs : List Value} {x : DataW H × List MemPlace} (h : DataW.trod enc Try.prog w base sp held fuel 22 cs = some x) : ∃ (v : Value) (l : List Tr), cs = [v] ∧ Rep (G0 w) v (eL eT l) :=
  opens_slice (size := 3) Try.underlying22 (by kernel_rfl) (by decide) (fun _ => rfl) (fun fuel cs x h => opens_tr h) h
set_option maxRecDepth 100000 in
theorem opens_net {fuel : Nat} {cs : List Value} {x : DataW H × List MemPlace} (h : DataW.trod enc Try.prog w base sp held fuel 24 cs = some x) : ∃ n : Net, Rc w cs (eN n).cells := by
  obtain ⟨xs, n, _, _, hlen, hl, hg⟩ := DataW.trod_struct Try.underlying24 h
  have hc : Try.prog.cellsOf 24 = 4 := by kernel_rfl
  have h1 : Try.prog.cellsOf 3 = 1 := by kernel_rfl
  have h2 : Try.prog.cellsOf 22 = 1 := by kernel_rfl
  match cs, hlen.trans hc, xs, hl with
  | [c0, c1, c2, c3], _, [x0, x1, x2, x3], _ =>
    have g0 := hg 0 _ rfl
    have g1 := hg 1 _ rfl
    have g2 := hg 2 _ rfl
    have g3 := hg 3 _ rfl
    simp [h1, h2] at g0 g1 g2 g3
    obtain ⟨a, e0, _⟩ := DataW.trod_int Try.underlying3 g0
    obtain ⟨v1, l1, e1, r1⟩ := opens_trs g1
    obtain ⟨b, e2, _⟩ := DataW.trod_int Try.underlying3 g2
    obtain ⟨c, e3, _⟩ := DataW.trod_int Try.underlying3 g3
    injection e0 with e0
    injection e1 with e1
    injection e2 with e2
    injection e3 with e3
    subst e0 e1 e2 e3
    exact ⟨⟨a, l1, b, c⟩, rc_cons (.s _) rfl (rc_cons r1 rfl (rc_cons (.s _) rfl (rc_cons (.s _) rfl rc_nil)))⟩
variable {b0 : Nat} {r : Reach} {v : Value} {d : DataW H} {p : List MemPlace}
set_option maxRecDepth 100000 in
theorem open_net (hv : Value.okWide Try.prog w r b0 24 v) (h : DataW.Trod enc Try.prog w base sp held 24 v d p) : ∃ q : Net, Rep (G0 w) v (eN q) := by
  obtain ⟨cs, rfl, hsz⟩ := okWide_struct Try.underlying24 hv
  obtain ⟨fuel, hf⟩ := h
  obtain ⟨q, ha⟩ := opens_net hf
  exact ⟨q, rc_agg (vs := cs) ha⟩
set_option maxRecDepth 100000 in
theorem open_ints (hv : Value.okWide Try.prog w r b0 25 v) (h : DataW.Trod enc Try.prog w base sp held 25 v d p) : ∃ l : List Int, Rep (G0 w) v (eL eI l) := by
  obtain ⟨a, n, c, rfl⟩ := okWide_slice Try.underlying25 hv
  obtain ⟨fuel, hf⟩ := h
  obtain ⟨v', l, ha, hr⟩ := opens_ints hf
  simp [Value.cells] at ha
  subst ha
  exact ⟨l, hr⟩
set_option maxRecDepth 100000 in
theorem open_int (hv : Value.okWide Try.prog w r b0 3 v) (h : DataW.Trod enc Try.prog w base sp held 3 v d p) : ∃ n : Int, Rep (G0 w) v (eI n) := by
  obtain ⟨n, rfl⟩ := okWide_int Try.underlying3 hv
  exact ⟨n, .s _⟩
end
end Aw
end Go.Proofs.Ythdpacbjbdkemaa
end
section
namespace Go.Proofs.Ythdpacbjbdkemaa.Aw
set_option linter.unusedSimpArgs false
set_option linter.unusedVariables false
set_option linter.unusedSectionVars false
open Go Go.RowKit Go.Proofs Go.ChangeShapes Go.WideShapes Go.ChangeAt
section
variable {P : Program} [IsP P]
theorem indexFT_pf (f : FuncId) (caps : List AV) (p : Tr → Bool) (l : List Tr) (hlo : ∀ a : Tr, Lo 0 (eT a)) (hlc : Lo 0 (.fn f caps)) (hf : ∀ a ∈ l, Pure P f ([eT a] ++ caps) (eB (p a))) :
    Pure P 64 [eL eT l, .fn f caps] (eI (firstAt p l)) := by
  refine aw_fn (by rw [IsP.eq (P := P)]; exact Try.func64) rfl rfl rfl rfl rfl (lo_cons (lo_map hlo) (lo_cons hlc lo_nil)) (.s _) (by simp only [argF]; rfl) ?_
  refine aw_bdm (d := 0) rfl (fun hmx => ?_)
  unfold maxLen at hmx
  repeat (first | refine aw_seq ?_ | refine ath_n ?_ | refine aw_skip ?_ | refine abl_n ?_ | refine aw_block ?_)
  refine aw_region ?_
  refine ops_op rfl rfl (runs_none rfl) (mv_s (.inr rfl) rfl) ?_
  refine ops_nil ?_
  repeat (first | refine aw_seq ?_ | refine ath_n ?_ | refine aw_skip ?_ | refine abl_n ?_ | refine aw_block ?_)
  refine aw_region ?_
  first | refine ops_op rfl rfl (runs_none rfl) (mv_own (.inl rfl) rfl) ?_ | refine ops_op rfl rfl (runs_none rfl) (mv_sl (.inl rfl) rfl) ?_ | refine ops_op rfl rfl (runs_none rfl) (mv_s (.inl rfl) rfl) ?_ | refine ops_op rfl rfl (runs_none rfl) (mv_emp (.inl rfl) rfl) ?_ | refine ops_op rfl rfl (runs_none rfl) (mv_sub (.inl rfl) rfl) ?_
  first | refine ops_op rfl rfl (runs_none rfl) (does_len_map rfl ts22 rfl) ?_ | refine ops_op rfl rfl (runs_none rfl) (does_len_sl rfl ts22 rfl) ?_ | refine ops_op rfl rfl (runs_none rfl) (does_len_own rfl ts22 rfl) ?_ | refine ops_op rfl rfl (runs_none rfl) (does_len_s rfl ts22 rfl) ?_ | refine ops_op rfl rfl (runs_none rfl) (does_len_emp rfl ts22 rfl) ?_ | refine ops_op rfl rfl (runs_none rfl) (does_len_sub rfl ts22 rfl) ?_
  refine ops_op rfl rfl (runs_none rfl) (mv_s (.inl rfl) rfl) ?_
  refine ops_nil ?_
  repeat (first | refine aw_seq ?_ | refine ath_n ?_ | refine aw_skip ?_ | refine abl_n ?_ | refine aw_block ?_)
  refine aw_loops (S := Nat) (fun k => [(0, eL eT l), (1, .fn f caps), (7, eI l.length), (8, eI k)]) (fun _ => []) (fun k => k ≤ l.length ∧ ∀ j a, j < k → l[j]? = some a → p a = false) (fun k => l.length - k) 0 (wk_sub _ ⟨rfl, rfl, rfl, rfl, trivial⟩) ⟨by omega, fun j a hj => by omega⟩ (fun k hk => ?_)
  repeat (first | refine aw_seq ?_ | refine ath_n ?_ | refine aw_skip ?_ | refine abl_n ?_ | refine aw_block ?_)
  refine aw_region ?_
  refine ops_op rfl rfl (runs_none rfl) (does_lss rfl rfl rfl) ?_
  refine ops_nil ?_
  repeat (first | refine aw_seq ?_ | refine ath_n ?_ | refine aw_skip ?_ | refine abl_n ?_ | refine aw_block ?_)
  refine aw_if rfl (fun h => ?_) (fun h => ?_)
  · have hlt : k < l.length := by omega
    repeat (first | refine aw_seq ?_ | refine ath_n ?_ | refine aw_skip ?_ | refine abl_n ?_ | refine aw_block ?_)
    refine aw_region ?_
    refine ops_op rfl rfl (runs_none rfl) (mv_s (.inl rfl) rfl) ?_
    refine ops_op rfl rfl (runs_none rfl) (mv_s (.inr rfl) rfl) ?_
    refine ops_nil ?_
    repeat (first | refine aw_seq ?_ | refine ath_n ?_ | refine aw_skip ?_ | refine abl_n ?_ | refine aw_block ?_)
    have hp := hf (gti l k) (gti_mem hlt)
    refine aw_region ?_
    first | refine ops_op rfl rfl (runs_none rfl) (mv_fn (.inl rfl) rfl) ?_ | refine ops_op rfl rfl (runs_none rfl) (mv_s (.inl rfl) rfl) ?_
    first | refine ops_op rfl rfl (runs_none rfl) (mv_own (.inl rfl) rfl) ?_ | refine ops_op rfl rfl (runs_none rfl) (mv_sl (.inl rfl) rfl) ?_ | refine ops_op rfl rfl (runs_none rfl) (mv_s (.inl rfl) rfl) ?_ | refine ops_op rfl rfl (runs_none rfl) (mv_emp (.inl rfl) rfl) ?_ | refine ops_op rfl rfl (runs_none rfl) (mv_sub (.inl rfl) rfl) ?_
    refine ops_op rfl rfl (runs_none rfl) (mv_s (.inl rfl) rfl) ?_
    first | refine ops_op rfl rfl (runs_none rfl) (does_index_sl rfl ts22 ti59 rfl rfl rfl (ix_map (by omega)) rfl) ?_ | refine ops_op rfl rfl (runs_none rfl) (does_index_own rfl ts22 ti59 rfl rfl rfl (by omega)) ?_ | refine ops_op rfl rfl (runs_none rfl) (does_index_sub rfl ts22 ti59 rfl rfl rfl (by omega)) ?_
    first | refine ops_op rfl rfl (runs_none rfl) (does_load_refw rfl ta59 ti59 rfl rfl) ?_ | refine ops_op rfl rfl (runs_none rfl) (does_load_whole rfl ta59 ti59 rfl rfl rfl rfl rfl) ?_ | refine ops_op rfl rfl (runs_none rfl) (does_load_refs rfl ta59 ti59 rfl (Nat.le_of_ble_eq_true rfl)) ?_ | refine ops_op rfl rfl (runs_none rfl) (does_load_ptrs rfl ta59 ti59 rfl rfl rfl rfl (Nat.le_of_ble_eq_true rfl)) ?_
    refine ops_op rfl rfl (runs_none rfl) (does_call rfl rfl (hp) (evc_cons rfl evc_nil)) ?_
    refine ops_nil ?_
    repeat (first | refine aw_seq ?_ | refine ath_n ?_ | refine aw_skip ?_ | refine abl_n ?_ | refine aw_block ?_)
    refine aw_cond rfl (fun h => ?_) (fun h => ?_)
    · repeat (first | refine aw_seq ?_ | refine ath_n ?_ | refine aw_skip ?_ | refine abl_n ?_ | refine aw_block ?_)
      refine aw_region ?_
      refine ops_op rfl rfl (runs_none rfl) (mv_s (.inl rfl) rfl) ?_
      refine ops_op rfl rfl (runs_none rfl) (mv_s (.inr rfl) rfl) ?_
      refine ops_nil ?_
      repeat (first | refine aw_seq ?_ | refine ath_n ?_ | refine aw_skip ?_ | refine abl_n ?_ | refine aw_block ?_)
      (refine aw_ret ?_; repeat (first | refine ath_r ?_ | refine abl_r ?_))
      exact post1 (.inr rfl) rfl (congrArg eI (firstAt_some (gti_get hlt) h hk.2).symm)
    · repeat (first | refine aw_seq ?_ | refine ath_n ?_ | refine aw_skip ?_ | refine abl_n ?_ | refine aw_block ?_)
      refine aw_region ?_
      refine ops_op rfl rfl (runs_none rfl) (does_add rfl rfl rfl (IntWalk.i64_in _ (by omega))) ?_
      refine ops_op rfl rfl (runs_none rfl) (mv_s (.inl rfl) rfl) ?_
      refine ops_nil ?_
      repeat (first | refine aw_seq ?_ | refine ath_n ?_ | refine aw_skip ?_ | refine abl_n ?_ | refine aw_block ?_)
      refine ⟨k + 1, ⟨by omega, fun j a hj ha => ?_⟩, by omega, wk_sub _ ⟨rfl, rfl, rfl, rfl, trivial⟩⟩
      by_cases e : j = k
      · subst e
        rw [gti_get hlt] at ha
        cases ha
        exact h
      · exact hk.2 j a (by omega) ha
  · (refine aw_exit ?_; repeat (first | refine ath_x ?_ | refine abl_hit ?_ | refine abl_miss rfl ?_ | refine abl_n ?_ | refine ath_n ?_ | refine aw_seq ?_ | refine aw_skip ?_ | refine aw_block ?_))
    refine aw_region ?_
    refine ops_op rfl rfl (runs_none rfl) (mv_s (.inr rfl) rfl) ?_
    refine ops_nil ?_
    repeat (first | refine aw_seq ?_ | refine ath_n ?_ | refine aw_skip ?_ | refine abl_n ?_ | refine aw_block ?_)
    (refine aw_ret ?_; repeat (first | refine ath_r ?_ | refine abl_r ?_))
    exact post1 (.inr rfl) rfl (congrArg eI (firstAt_none (fun j a hj ha => hk.2 j a (by omega) ha)).symm)
theorem containsFT_pf (f : FuncId) (caps : List AV) (p : Tr → Bool) (l : List Tr) (hlo : ∀ a : Tr, Lo 0 (eT a)) (hlc : Lo 0 (.fn f caps)) (hf : ∀ a ∈ l, Pure P f ([eT a] ++ caps) (eB (p a))) :
    Pure P 28 [eL eT l, .fn f caps] (eB (l.any p)) := by
  refine aw_fn (by rw [IsP.eq (P := P)]; exact Try.func28) rfl rfl rfl rfl rfl (lo_cons (lo_map hlo) (lo_cons hlc lo_nil)) (.s _) (by simp only [argF]; rfl) ?_
  have hi := indexFT_pf f caps p l hlo hlc hf
  repeat (first | refine aw_seq ?_ | refine ath_n ?_ | refine aw_skip ?_ | refine abl_n ?_ | refine aw_block ?_)
  refine aw_region ?_
  refine ops_op rfl rfl (runs_none rfl) (mv_s (.inr rfl) rfl) ?_
  refine ops_nil ?_
  repeat (first | refine aw_seq ?_ | refine ath_n ?_ | refine aw_skip ?_ | refine abl_n ?_ | refine aw_block ?_)
  refine aw_region ?_
  first | refine ops_op rfl rfl (runs_none rfl) (mv_own (.inl rfl) rfl) ?_ | refine ops_op rfl rfl (runs_none rfl) (mv_sl (.inl rfl) rfl) ?_ | refine ops_op rfl rfl (runs_none rfl) (mv_s (.inl rfl) rfl) ?_ | refine ops_op rfl rfl (runs_none rfl) (mv_emp (.inl rfl) rfl) ?_ | refine ops_op rfl rfl (runs_none rfl) (mv_sub (.inl rfl) rfl) ?_
  first | refine ops_op rfl rfl (runs_none rfl) (mv_fn (.inl rfl) rfl) ?_ | refine ops_op rfl rfl (runs_none rfl) (mv_s (.inl rfl) rfl) ?_
  refine ops_op rfl rfl (runs_none rfl) (does_call rfl rfl (hi) (evc_cons rfl (evc_cons rfl evc_nil))) ?_
  refine ops_op rfl rfl (runs_none rfl) (does_geq rfl rfl rfl) ?_
  refine ops_op rfl rfl (runs_none rfl) (mv_s (.inr rfl) rfl) ?_
  refine ops_nil ?_
  repeat (first | refine aw_seq ?_ | refine ath_n ?_ | refine aw_skip ?_ | refine abl_n ?_ | refine aw_block ?_)
  (refine aw_ret ?_; repeat (first | refine ath_r ?_ | refine abl_r ?_))
  exact post1 (.inr rfl) rfl (congrArg eB (firstAt_any p l))
def fatT (t : Tr) : Bool := decide (20 < t.inn.length ∨ 20 < t.out.length ∨ 100 < t.label.size)
def fewB (n : Net) : Bool := decide (n.places ≤ 14 ∧ n.trans.length ≤ 16) && !n.trans.any fatT
theorem few1_pf (t : Tr) : Pure P 29 [eT t] (eB (fatT t)) := by
  refine aw_fn (by rw [IsP.eq (P := P)]; exact Try.func29) rfl rfl rfl rfl rfl (lo_cons (lo_T t) lo_nil) (.s _) (by simp only [argF]; rfl) ?_
  repeat (first | refine aw_seq ?_ | refine ath_n ?_ | refine aw_skip ?_ | refine abl_n ?_ | refine aw_block ?_)
  refine aw_region ?_
  refine ops_op rfl rfl (runs_none rfl) (does_box rfl rfl rfl rfl) ?_
  refine aops_weak (wk_froz (id := 0) rfl) (aops_weak (wk_ref (d := 1) rfl rfl rfl) ?_)
  refine ops_op rfl rfl (runs_none rfl) (mv_s (.inr rfl) rfl) ?_
  refine ops_nil ?_
  repeat (first | refine aw_seq ?_ | refine ath_n ?_ | refine aw_skip ?_ | refine abl_n ?_ | refine aw_block ?_)
  all_goals refine aw_region ?_
  all_goals (first | refine ops_op rfl rfl (runs_none rfl) (does_fieldAddr_ptr rfl tf59_1 (by decide) rfl) ?_ | refine ops_op rfl rfl (runs_none rfl) (does_fieldAddr_ref rfl tf59_1 (by decide) rfl) ?_)
  all_goals (first | refine ops_op rfl rfl (runs_none rfl) (does_load_ref rfl ta25 rfl) ?_ | refine ops_op rfl rfl (runs_none rfl) (does_load_ptr rfl ta25 rfl rfl rfl rfl rfl) ?_)
  all_goals (first | refine ops_op rfl rfl (runs_none rfl) (does_len_map rfl ts25 rfl) ?_ | refine ops_op rfl rfl (runs_none rfl) (does_len_sl rfl ts25 rfl) ?_ | refine ops_op rfl rfl (runs_none rfl) (does_len_own rfl ts25 rfl) ?_ | refine ops_op rfl rfl (runs_none rfl) (does_len_s rfl ts25 rfl) ?_ | refine ops_op rfl rfl (runs_none rfl) (does_len_emp rfl ts25 rfl) ?_ | refine ops_op rfl rfl (runs_none rfl) (does_len_sub rfl ts25 rfl) ?_)
  all_goals (first | refine ops_opP rfl rfl (runs_none rfl) (does_gtr rfl rfl rfl) (fun h6 => ?_) (fun h6 => ?_) | refine ops_opB rfl rfl (runs_none rfl) (does_gtr rfl rfl rfl) (fun h6 => ?_) (fun h6 => ?_))
  all_goals refine ops_op rfl rfl (runs_none rfl) (mv_s (.inl rfl) rfl) ?_
  all_goals (first | refine ops_op rfl rfl (runs_y rfl rfl rfl) (does_fieldAddr_ptr rfl tf59_2 (by decide) rfl) ?_ | refine ops_op rfl rfl (runs_y rfl rfl rfl) (does_fieldAddr_ref rfl tf59_2 (by decide) rfl) ?_ | refine ops_skip rfl rfl (runs_nf rfl rfl rfl) ?_ | refine ops_skip rfl rfl (runs_nu rfl rfl rfl) ?_)
  all_goals (first | refine ops_op rfl rfl (runs_y rfl rfl rfl) (does_load_ref rfl ta25 rfl) ?_ | refine ops_op rfl rfl (runs_y rfl rfl rfl) (does_load_ptr rfl ta25 rfl rfl rfl rfl rfl) ?_ | refine ops_skip rfl rfl (runs_nf rfl rfl rfl) ?_ | refine ops_skip rfl rfl (runs_nu rfl rfl rfl) ?_)
  all_goals (first | refine ops_op rfl rfl (runs_y rfl rfl rfl) (does_len_map rfl ts25 rfl) ?_ | refine ops_op rfl rfl (runs_y rfl rfl rfl) (does_len_sl rfl ts25 rfl) ?_ | refine ops_op rfl rfl (runs_y rfl rfl rfl) (does_len_own rfl ts25 rfl) ?_ | refine ops_op rfl rfl (runs_y rfl rfl rfl) (does_len_s rfl ts25 rfl) ?_ | refine ops_op rfl rfl (runs_y rfl rfl rfl) (does_len_emp rfl ts25 rfl) ?_ | refine ops_op rfl rfl (runs_y rfl rfl rfl) (does_len_sub rfl ts25 rfl) ?_ | refine ops_skip rfl rfl (runs_nf rfl rfl rfl) ?_ | refine ops_skip rfl rfl (runs_nu rfl rfl rfl) ?_)
  all_goals (first | refine ops_opP rfl rfl (runs_y rfl rfl rfl) (does_gtr rfl rfl rfl) (fun h11 => ?_) (fun h11 => ?_) | refine ops_opB rfl rfl (runs_y rfl rfl rfl) (does_gtr rfl rfl rfl) (fun h11 => ?_) (fun h11 => ?_) | refine ops_skip rfl rfl (runs_nf rfl rfl rfl) ?_ | refine ops_skip rfl rfl (runs_nu rfl rfl rfl) ?_)
  all_goals (first | refine ops_op rfl rfl (runs_none rfl) (pickT_s rfl rfl rfl) ?_ | refine ops_op rfl rfl (runs_none rfl) (pickF_s rfl rfl rfl) ?_ | refine ops_op rfl rfl (runs_none rfl) (does_pickT rfl rfl rfl) ?_ | refine ops_op rfl rfl (runs_none rfl) (does_pickF rfl rfl rfl) ?_)
  all_goals refine ops_op rfl rfl (runs_none rfl) (mv_s (.inl rfl) rfl) ?_
  all_goals (first | refine ops_op rfl rfl (runs_y rfl rfl rfl) (does_fieldAddr_ptr rfl tf59_0 (by decide) rfl) ?_ | refine ops_op rfl rfl (runs_y rfl rfl rfl) (does_fieldAddr_ref rfl tf59_0 (by decide) rfl) ?_ | refine ops_skip rfl rfl (runs_nf rfl rfl rfl) ?_ | refine ops_skip rfl rfl (runs_nu rfl rfl rfl) ?_)
  all_goals (first | refine ops_op rfl rfl (runs_y rfl rfl rfl) (does_load_ref rfl ta9 rfl) ?_ | refine ops_op rfl rfl (runs_y rfl rfl rfl) (does_load_ptr rfl ta9 rfl rfl rfl rfl rfl) ?_ | refine ops_skip rfl rfl (runs_nf rfl rfl rfl) ?_ | refine ops_skip rfl rfl (runs_nu rfl rfl rfl) ?_)
  all_goals (first | refine ops_op rfl rfl (runs_y rfl rfl rfl) (does_len_str rfl tg9 rfl) ?_ | refine ops_skip rfl rfl (runs_nf rfl rfl rfl) ?_ | refine ops_skip rfl rfl (runs_nu rfl rfl rfl) ?_)
  all_goals (first | refine ops_opP rfl rfl (runs_y rfl rfl rfl) (does_gtr rfl rfl rfl) (fun h17 => ?_) (fun h17 => ?_) | refine ops_opB rfl rfl (runs_y rfl rfl rfl) (does_gtr rfl rfl rfl) (fun h17 => ?_) (fun h17 => ?_) | refine ops_skip rfl rfl (runs_nf rfl rfl rfl) ?_ | refine ops_skip rfl rfl (runs_nu rfl rfl rfl) ?_)
  all_goals (first | refine ops_op rfl rfl (runs_none rfl) (pickT_s rfl rfl rfl) ?_ | refine ops_op rfl rfl (runs_none rfl) (pickF_s rfl rfl rfl) ?_ | refine ops_op rfl rfl (runs_none rfl) (does_pickT rfl rfl rfl) ?_ | refine ops_op rfl rfl (runs_none rfl) (does_pickF rfl rfl rfl) ?_)
  all_goals refine ops_op rfl rfl (runs_none rfl) (mv_s (.inr rfl) rfl) ?_
  all_goals refine ops_nil ?_
  all_goals (repeat (first | refine aw_seq ?_ | refine ath_n ?_ | refine aw_skip ?_ | refine abl_n ?_ | refine aw_block ?_))
  all_goals (refine aw_ret ?_; repeat (first | refine ath_r ?_ | refine abl_r ?_))
  all_goals refine post1 (.inr rfl) rfl (congrArg eB ?_)
  all_goals unfold fatT
  all_goals first
    | exact (decide_eq_true (by omega)).symm
    | exact (decide_eq_false (by omega)).symm
theorem few_pf (n : Net) : Pure P 8 [eN n] (eB (fewB n)) := by
  have hc := containsFT_pf (P := P) 29 [] fatT n.trans lo_T (.fn _ _ (by simp)) (fun a _ => few1_pf a)
  have HI : fewB n = (decide (n.places ≤ 14 ∧ n.trans.length ≤ 16) && !n.trans.any fatT) := rfl
  generalize n.trans.any fatT = z at hc HI
  refine aw_fn (by rw [IsP.eq (P := P)]; exact Try.func8) rfl rfl rfl rfl rfl (lo_cons (lo_N n) lo_nil) (.s _) (by simp only [argF]; rfl) ?_
  repeat (first | refine aw_seq ?_ | refine ath_n ?_ | refine aw_skip ?_ | refine abl_n ?_ | refine aw_block ?_)
  refine aw_region ?_
  refine ops_op rfl rfl (runs_none rfl) (does_box rfl rfl rfl rfl) ?_
  refine aops_weak (wk_froz (id := 0) rfl) (aops_weak (wk_ref (d := 1) rfl rfl rfl) ?_)
  refine ops_op rfl rfl (runs_none rfl) (mv_s (.inr rfl) rfl) ?_
  refine ops_nil ?_
  repeat (first | refine aw_seq ?_ | refine ath_n ?_ | refine aw_skip ?_ | refine abl_n ?_ | refine aw_block ?_)
  all_goals refine aw_region ?_
  all_goals (first | refine ops_op rfl rfl (runs_none rfl) (does_fieldAddr_ptr rfl tf24_0 (by decide) rfl) ?_ | refine ops_op rfl rfl (runs_none rfl) (does_fieldAddr_ref rfl tf24_0 (by decide) rfl) ?_)
  all_goals (first | refine ops_op rfl rfl (runs_none rfl) (does_load_ref rfl ta3 rfl) ?_ | refine ops_op rfl rfl (runs_none rfl) (does_load_ptr rfl ta3 rfl rfl rfl rfl rfl) ?_)
  all_goals (first | refine ops_opP rfl rfl (runs_none rfl) (does_leq rfl rfl rfl) (fun h5 => ?_) (fun h5 => ?_) | refine ops_opB rfl rfl (runs_none rfl) (does_leq rfl rfl rfl) (fun h5 => ?_) (fun h5 => ?_))
  all_goals refine ops_op rfl rfl (runs_none rfl) (mv_s (.inl rfl) rfl) ?_
  all_goals (first | refine ops_op rfl rfl (runs_y rfl rfl rfl) (does_fieldAddr_ptr rfl tf24_1 (by decide) rfl) ?_ | refine ops_op rfl rfl (runs_y rfl rfl rfl) (does_fieldAddr_ref rfl tf24_1 (by decide) rfl) ?_ | refine ops_skip rfl rfl (runs_nt rfl rfl rfl) ?_ | refine ops_skip rfl rfl (runs_nu rfl rfl rfl) ?_)
  all_goals (first | refine ops_op rfl rfl (runs_y rfl rfl rfl) (does_load_ref rfl ta22 rfl) ?_ | refine ops_op rfl rfl (runs_y rfl rfl rfl) (does_load_ptr rfl ta22 rfl rfl rfl rfl rfl) ?_ | refine ops_skip rfl rfl (runs_nt rfl rfl rfl) ?_ | refine ops_skip rfl rfl (runs_nu rfl rfl rfl) ?_)
  all_goals (first | refine ops_op rfl rfl (runs_y rfl rfl rfl) (does_len_map rfl ts22 rfl) ?_ | refine ops_op rfl rfl (runs_y rfl rfl rfl) (does_len_sl rfl ts22 rfl) ?_ | refine ops_op rfl rfl (runs_y rfl rfl rfl) (does_len_own rfl ts22 rfl) ?_ | refine ops_op rfl rfl (runs_y rfl rfl rfl) (does_len_s rfl ts22 rfl) ?_ | refine ops_op rfl rfl (runs_y rfl rfl rfl) (does_len_emp rfl ts22 rfl) ?_ | refine ops_op rfl rfl (runs_y rfl rfl rfl) (does_len_sub rfl ts22 rfl) ?_ | refine ops_skip rfl rfl (runs_nt rfl rfl rfl) ?_ | refine ops_skip rfl rfl (runs_nu rfl rfl rfl) ?_)
  all_goals (first | refine ops_opP rfl rfl (runs_y rfl rfl rfl) (does_leq rfl rfl rfl) (fun h10 => ?_) (fun h10 => ?_) | refine ops_opB rfl rfl (runs_y rfl rfl rfl) (does_leq rfl rfl rfl) (fun h10 => ?_) (fun h10 => ?_) | refine ops_skip rfl rfl (runs_nt rfl rfl rfl) ?_ | refine ops_skip rfl rfl (runs_nu rfl rfl rfl) ?_)
  all_goals (first | refine ops_op rfl rfl (runs_none rfl) (pickT_s rfl rfl rfl) ?_ | refine ops_op rfl rfl (runs_none rfl) (pickF_s rfl rfl rfl) ?_ | refine ops_op rfl rfl (runs_none rfl) (does_pickT rfl rfl rfl) ?_ | refine ops_op rfl rfl (runs_none rfl) (does_pickF rfl rfl rfl) ?_)
  all_goals refine ops_op rfl rfl (runs_none rfl) (mv_s (.inl rfl) rfl) ?_
  all_goals (first | refine ops_op rfl rfl (runs_y rfl rfl rfl) (does_fieldAddr_ptr rfl tf24_1 (by decide) rfl) ?_ | refine ops_op rfl rfl (runs_y rfl rfl rfl) (does_fieldAddr_ref rfl tf24_1 (by decide) rfl) ?_ | refine ops_skip rfl rfl (runs_nt rfl rfl rfl) ?_ | refine ops_skip rfl rfl (runs_nu rfl rfl rfl) ?_)
  all_goals (first | refine ops_op rfl rfl (runs_y rfl rfl rfl) (does_load_ref rfl ta22 rfl) ?_ | refine ops_op rfl rfl (runs_y rfl rfl rfl) (does_load_ptr rfl ta22 rfl rfl rfl rfl rfl) ?_ | refine ops_skip rfl rfl (runs_nt rfl rfl rfl) ?_ | refine ops_skip rfl rfl (runs_nu rfl rfl rfl) ?_)
  all_goals (first | refine ops_op rfl rfl (runs_y rfl rfl rfl) (does_call rfl rfl (hc) (evc_cons rfl (evc_cons rfl evc_nil))) ?_ | refine ops_skip rfl rfl (runs_nt rfl rfl rfl) ?_ | refine ops_skip rfl rfl (runs_nu rfl rfl rfl) ?_)
  all_goals (first | refine ops_op rfl rfl (runs_y rfl rfl rfl) (does_notp rfl rfl) ?_ | refine ops_op rfl rfl (runs_y rfl rfl rfl) (does_not rfl rfl) ?_ | refine ops_skip rfl rfl (runs_nt rfl rfl rfl) ?_ | refine ops_skip rfl rfl (runs_nu rfl rfl rfl) ?_)
  all_goals (first | refine ops_op rfl rfl (runs_none rfl) (pickT_s rfl rfl rfl) ?_ | refine ops_op rfl rfl (runs_none rfl) (pickF_s rfl rfl rfl) ?_ | refine ops_op rfl rfl (runs_none rfl) (does_pickT rfl rfl rfl) ?_ | refine ops_op rfl rfl (runs_none rfl) (does_pickF rfl rfl rfl) ?_)
  all_goals refine ops_op rfl rfl (runs_none rfl) (mv_s (.inr rfl) rfl) ?_
  all_goals refine ops_nil ?_
  all_goals (repeat (first | refine aw_seq ?_ | refine ath_n ?_ | refine aw_skip ?_ | refine abl_n ?_ | refine aw_block ?_))
  all_goals (refine aw_ret ?_; repeat (first | refine ath_r ?_ | refine abl_r ?_))
  all_goals refine post1 (.inr rfl) rfl (congrArg eB ?_)
  all_goals first
    | (rw [HI, decide_eq_true (by omega)]; rfl)
    | (rw [HI, decide_eq_false (by omega)]; rfl)
end
section
variable {H : Type} {enc : TypeId × Value → H} {w : World} {base : Nat} {sp : Nat → Bool} {held : Bool}
variable {b0 : Nat} {r : Reach} {v : Value} {d : DataW H} {p : List MemPlace}
end
end Go.Proofs.Ythdpacbjbdkemaa.Aw
end
section
namespace Go.Proofs.Ythdpacbjbdkemaa
set_option linter.unusedSimpArgs false
set_option linter.unusedVariables false
open Go.RowKit

def Pre (a b : List (List Int)) : Prop := ∃ t, b = a ++ t
theorem Pre.refl (a : List (List Int)) : Pre a a := ⟨[], by simp⟩
theorem Pre.trans {a b c : List (List Int)} (h : Pre a b) (k : Pre b c) : Pre a c := by
  obtain ⟨t, rfl⟩ := h
  obtain ⟨u, rfl⟩ := k
  exact ⟨t ++ u, by rw [List.append_assoc]⟩
theorem Pre.len {a b : List (List Int)} (h : Pre a b) : a.length ≤ b.length := by obtain ⟨t, rfl⟩ := h; simp
theorem Pre.gti {a b : List (List Int)} (h : Pre a b) {i : Nat} (hi : i < a.length) : gti b i = gti a i := by obtain ⟨t, rfl⟩ := h; exact gtiL hi
theorem Pre.find {a b : List (List Int)} (h : Pre a b) {x : List Int} (hx : 0 ≤ findI a x) : findI b x = findI a x := by
  obtain ⟨t, rfl⟩ := h
  unfold findI firstAt at *
  rw [List.findIdx?_append]
  cases e : a.findIdx? (fun y => decide (y = x)) with
  | none => rw [e] at hx; simp at hx
  | some k => rfl
/-- what becomes of a transition, in the states S -/
def mvOf (S : List (List Int)) (i : Nat) (r : List Int × Int) (t : Int) : List Mvx := if r.2 = 0 ∧ 0 ≤ findI S r.1 then [⟨i, findI S r.1, t⟩] else []
/-- the states S come later than s -/
def Fut (most : Int) (s : Spc) (S : List (List Int)) : Prop := Pre s.st S ∧ (most ≤ s.st.length → S = s.st)
theorem stepS_fut {most : Int} {i : Nat} {s s' : Spc} {r : List Int × Int} {t : Int} {S : List (List Int)} (hf : Fut most s' S) (he : stepS most i s r t = some s') :
    Fut most s S ∧ s'.mv = s.mv ++ mvOf S i r t ∧ s'.full = (s.full && !(mvOf S i r t).isEmpty) := by
  unfold stepS at he
  split at he
  · rename_i h1
    cases he
    obtain ⟨f1, f2⟩ := hf
    have e : mvOf S i r t = [] := by
      unfold mvOf
      rw [if_neg]
      rintro ⟨g1, g2⟩
      rcases h1 with h1 | ⟨h1, h2⟩
      · exact h1 g1
      · rw [f2 h2] at g2
        simp only at g2 h1
        omega
    rw [e]
    exact ⟨⟨f1, f2⟩, by simp, by simp⟩
  · rename_i h1
    split at he
    · cases he
    · cases he
      obtain ⟨f1, f2⟩ := hf
      have h0 : r.2 = 0 := Classical.byContradiction fun hc => h1 (.inl hc)
      by_cases hn : findI s.st r.1 < 0
      · simp only [if_pos hn] at f1 f2 ⊢
        have hnot := findI_neg.1 hn
        have e1 : findI (s.st ++ [r.1]) r.1 = s.st.length := findI_snoc_self hnot
        have e2 : findI S r.1 = s.st.length := by rw [f1.find (by rw [e1]; omega), e1]
        have e : mvOf S i r t = [⟨i, s.st.length, t⟩] := by
          unfold mvOf
          rw [e2, if_pos ⟨h0, by omega⟩]
        rw [e]
        refine ⟨⟨Pre.trans ⟨[r.1], rfl⟩ f1, fun hm => ?_⟩, rfl, by simp⟩
        exact absurd (.inr ⟨hn, hm⟩) h1
      · simp only [if_neg hn] at f1 f2 ⊢
        have e : mvOf S i r t = [⟨i, findI s.st r.1, t⟩] := by
          unfold mvOf
          rw [f1.find (by omega), if_pos ⟨h0, by omega⟩]
        rw [e]
        exact ⟨⟨f1, f2⟩, rfl, by simp⟩
def rowMv (n : Net) (S : List (List Int)) (i : Nat) (x : List Int) (on : List Int) : List Mvx := on.flatMap fun t => mvOf S i (FireE n x t) t
def rowOk (n : Net) (S : List (List Int)) (i : Nat) (x : List Int) (on : List Int) : Bool := on.all fun t => !(mvOf S i (FireE n x t) t).isEmpty
theorem rowS_fut {n : Net} {most : Int} {i : Nat} {x : List Int} {S : List (List Int)} : ∀ (on : List Int) (s s' : Spc), Fut most s' S → rowS n most i x on s = some s' →
    Fut most s S ∧ s'.mv = s.mv ++ rowMv n S i x on ∧ s'.full = (s.full && rowOk n S i x on)
  | [], s, s', hf, h => by simp only [rowS, Option.some.injEq] at h; subst h; exact ⟨hf, by simp [rowMv], by simp [rowOk]⟩
  | t :: ts, s, s', hf, h => by
    simp only [rowS] at h
    cases e : stepS most i s (FireE n x t) t with
    | none => rw [e] at h; cases h
    | some s1 =>
      rw [e] at h
      obtain ⟨g1, g2, g3⟩ := rowS_fut ts s1 s' hf h
      obtain ⟨k1, k2, k3⟩ := stepS_fut g1 e
      refine ⟨k1, ?_, ?_⟩
      · rw [g2, k2, List.append_assoc]; rfl
      · rw [g3, k3, Bool.and_assoc]; rfl
def onS (n : Net) (S : List (List Int)) (j : Nat) : List Int := enabledL (gti S j) 0 n.trans
def rows (n : Net) (S : List (List Int)) (i k : Nat) : List Mvx := ((List.range k).drop i).flatMap fun j => rowMv n S j (gti S j) (onS n S j)
def rowsOk (n : Net) (S : List (List Int)) (i k : Nat) : Bool := ((List.range k).drop i).all fun j => rowOk n S j (gti S j) (onS n S j)
theorem range_drop {N k : Nat} (h : k < N) : (List.range N).drop k = k :: (List.range N).drop (k + 1) := by
  have e : gti (List.range N) k = k := by unfold gti; simp [h]
  have := drop_gti (l := List.range N) (k := k) (by simpa using h)
  rwa [e] at this
theorem rows_step {n : Net} {S : List (List Int)} {i k : Nat} (h : i < k) : rows n S i k = rowMv n S i (gti S i) (onS n S i) ++ rows n S (i + 1) k := by
  unfold rows; rw [range_drop h, List.flatMap_cons]
theorem rowsOk_step {n : Net} {S : List (List Int)} {i k : Nat} (h : i < k) : rowsOk n S i k = (rowOk n S i (gti S i) (onS n S i) && rowsOk n S (i + 1) k) := by
  unfold rowsOk; rw [range_drop h, List.all_cons]
theorem expS_fut {n : Net} {most : Int} : ∀ (f i : Nat) (s s' : Spc), SI n most s → (most + 1 ≤ (f + i : Nat)) → expS n most f i s = some s' → Fut most s s'.st ∧ s'.mv = s.mv ++ rows n s'.st i s'.st.length ∧ s'.full = (s.full && rowsOk n s'.st i s'.st.length)
  | 0, i, s, s', hs, hfu, h => by
    simp only [expS, Option.some.injEq] at h; subst h
    have := hs.le
    have e : (List.range s.st.length).drop i = [] := List.drop_eq_nil_of_le (by simp; omega)
    exact ⟨⟨.refl _, fun _ => rfl⟩, by simp [rows, e], by simp [rowsOk, e]⟩
  | f + 1, i, s, s', hs, hfu, h => by
    unfold expS at h
    split at h
    · rename_i hi
      cases e : rowS n most i (gti s.st i) (enabledL (gti s.st i) 0 n.trans) s with
      | none => rw [e] at h; cases h
      | some s1 =>
        rw [e] at h
        have hsi := (Aw.rowS_SI (hs.gti hi) _ s s1 hs e).1
        obtain ⟨g1, g2, g3⟩ := expS_fut f (i + 1) s1 s' hsi (by omega) h
        obtain ⟨k1, k2, k3⟩ := rowS_fut _ s s1 g1 e
        have hg := k1.1.gti hi
        have hlt : i < s'.st.length := by have := k1.1.len; omega
        refine ⟨k1, ?_, ?_⟩
        · rw [g2, k2, rows_step hlt, onS, hg, List.append_assoc]
        · rw [g3, k3, rowsOk_step hlt, onS, hg, Bool.and_assoc]
    · rename_i hi
      simp only [Option.some.injEq] at h; subst h
      have e : (List.range s.st.length).drop i = [] := List.drop_eq_nil_of_le (by simp; omega)
      exact ⟨⟨.refl _, fun _ => rfl⟩, by simp [rows, e], by simp [rowsOk, e]⟩
/-- the parents: each state but the first is led to by a move from an earlier one -/
def Par (s : Spc) : Prop := ∀ j : Nat, 1 ≤ j → j < s.st.length → ∃ k, k < s.mv.length ∧ (gti s.mv k).tt = j ∧ 0 ≤ (gti s.mv k).fr ∧ (gti s.mv k).fr < j
theorem stepS_par {most : Int} {i : Nat} {s s' : Spc} {r : List Int × Int} {t : Int} (hi : i < s.st.length) (h : Par s) (he : stepS most i s r t = some s') : Par s' := by
  unfold stepS at he
  split at he
  · cases he; exact h
  · split at he
    · cases he
    · cases he
      intro j hj1 hj2
      by_cases hn : findI s.st r.1 < 0
      · simp only [if_pos hn, List.length_append, List.length_singleton] at hj2 ⊢
        by_cases hl : j < s.st.length
        · obtain ⟨k, k1, k2, k3⟩ := h j hj1 hl
          exact ⟨k, by omega, by rw [gtiL k1]; exact k2, by rw [gtiL k1]; exact k3⟩
        · refine ⟨s.mv.length, by omega, ?_, ?_⟩
          · rw [gtiZ]; simp only; omega
          · rw [gtiZ]; simp only; omega
      · simp only [if_neg hn, List.length_append, List.length_singleton] at hj2 ⊢
        obtain ⟨k, k1, k2, k3⟩ := h j hj1 hj2
        exact ⟨k, by omega, by rw [gtiL k1]; exact k2, by rw [gtiL k1]; exact k3⟩
theorem stepS_len {most : Int} {i : Nat} {s s' : Spc} {r : List Int × Int} {t : Int} (he : stepS most i s r t = some s') : s.st.length ≤ s'.st.length := by
  unfold stepS at he
  split at he
  · cases he; exact Nat.le_refl _
  · split at he
    · cases he
    · cases he
      dsimp only
      split
      · simp
      · exact Nat.le_refl _
theorem rowS_par {n : Net} {most : Int} {i : Nat} {x : List Int} : ∀ (on : List Int) (s s' : Spc), i < s.st.length → Par s → rowS n most i x on s = some s' → Par s' ∧ s.st.length ≤ s'.st.length
  | [], s, s', hi, hp, h => by simp only [rowS, Option.some.injEq] at h; subst h; exact ⟨hp, Nat.le_refl _⟩
  | t :: ts, s, s', hi, hp, h => by
    simp only [rowS] at h
    cases e : stepS most i s (FireE n x t) t with
    | none => rw [e] at h; cases h
    | some s1 =>
      rw [e] at h
      have hl := stepS_len e
      obtain ⟨g1, g2⟩ := rowS_par ts s1 s' (by omega) (stepS_par hi hp e) h
      exact ⟨g1, by omega⟩
theorem expS_par {n : Net} {most : Int} : ∀ (f i : Nat) (s s' : Spc), Par s → expS n most f i s = some s' → Par s'
  | 0, i, s, s', hp, h => by simp only [expS, Option.some.injEq] at h; subst h; exact hp
  | f + 1, i, s, s', hp, h => by
    unfold expS at h
    split at h
    · rename_i hi
      cases e : rowS n most i (gti s.st i) (enabledL (gti s.st i) 0 n.trans) s with
      | none => rw [e] at h; cases h
      | some s1 =>
        rw [e] at h
        exact expS_par f (i + 1) s1 s' (rowS_par _ s s1 hi hp e).1 h
    · simp only [Option.some.injEq] at h; subst h; exact hp
theorem rowS_len {n : Net} {most : Int} {i : Nat} {x : List Int} : ∀ (on : List Int) (s s' : Spc), rowS n most i x on s = some s' → s.st.length ≤ s'.st.length
  | [], s, s', h => by simp only [rowS, Option.some.injEq] at h; subst h; exact Nat.le_refl _
  | t :: ts, s, s', h => by
    simp only [rowS] at h
    cases e : stepS most i s (FireE n x t) t with
    | none => rw [e] at h; cases h
    | some s1 =>
      rw [e] at h
      have := stepS_len e
      have := rowS_len ts s1 s' h
      omega
theorem expS_len {n : Net} {most : Int} : ∀ (f i : Nat) (s s' : Spc), expS n most f i s = some s' → s.st.length ≤ s'.st.length
  | 0, i, s, s', h => by simp only [expS, Option.some.injEq] at h; subst h; exact Nat.le_refl _
  | f + 1, i, s, s', h => by
    unfold expS at h
    split at h
    · cases e : rowS n most i (gti s.st i) (enabledL (gti s.st i) 0 n.trans) s with
      | none => rw [e] at h; cases h
      | some s1 =>
        rw [e] at h
        have := rowS_len _ s s1 e
        have := expS_len f (i + 1) s1 s' h
        omega
    · simp only [Option.some.injEq] at h; subst h; exact Nat.le_refl _
theorem expS_done {n : Net} {L : Int} {f i : Nat} {s : Spc} (h : s.st.length ≤ i) : expS n L f i s = some s := by
  cases f with
  | zero => rfl
  | succ f => unfold expS; rw [if_neg (by omega)]
theorem explE_some {n : Net} {m : List Int} {most : Int} (h : (explE n m most).2 = 0) : markB n m = true ∧ 1 ≤ most ∧ most ≤ 2000 ∧ expS n most (most.toNat + 1) 0 ⟨[m], [], true⟩ = some (explE n m most).1 := by
  unfold explE at h ⊢
  split at h
  · rename_i h1
    rw [if_pos h1]
    split at h
    · simp at h
    · rename_i h2
      rw [if_neg h2]
      cases e : expS n most (most.toNat + 1) 0 ⟨[m], [], true⟩ with
      | none => rw [e] at h; simp [explR] at h
      | some s => exact ⟨h1, by omega, by omega, rfl⟩
  · simp at h
end Go.Proofs.Ythdpacbjbdkemaa
end
