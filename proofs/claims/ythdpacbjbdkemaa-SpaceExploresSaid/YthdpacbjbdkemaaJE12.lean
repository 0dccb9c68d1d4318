/-
  Texts joined: SpT, SpW, SpVe. Conditions: none.
-/
import Derived.Test.YthdpacbjbdkemaaJE11
import Derived.Test.YthdpacbjbdkemaaJE9
section
namespace Go.Proofs.Ythdpacbjbdkemaa
set_option linter.unusedSimpArgs false
set_option linter.unusedVariables false
open Go.RowKit

def Pre (a b : List (List Int)) : Prop := ∃ t, b = a ++ t
theorem Pre.refl (a : List (List Int)) : Pre a a := ⟨[], by simp⟩
theorem Pre.trans {a b c : List (List Int)} (h : Pre a b) (k : Pre b c) : Pre a c := by
  obtain ⟨t, rfl⟩ := h
  obtain ⟨u, rfl⟩ := k
  exact ⟨t ++ u, by rw [List.append_assoc]⟩
theorem Pre.len {a b : List (List Int)} (h : Pre a b) : a.length ≤ b.length := by obtain ⟨t, rfl⟩ := h; simp
theorem Pre.gti {a b : List (List Int)} (h : Pre a b) {i : Nat} (hi : i < a.length) : gti b i = gti a i := by obtain ⟨t, rfl⟩ := h; exact gtiL hi
theorem Pre.find {a b : List (List Int)} (h : Pre a b) {x : List Int} (hx : 0 ≤ findI a x) : findI b x = findI a x := by
  obtain ⟨t, rfl⟩ := h
  unfold findI firstAt at *
  rw [List.findIdx?_append]
  cases e : a.findIdx? (fun y => decide (y = x)) with
  | none => rw [e] at hx; simp at hx
  | some k => rfl
/-- what becomes of a transition, in the states S -/
def mvOf (S : List (List Int)) (i : Nat) (r : List Int × Int) (t : Int) : List Mvx := if r.2 = 0 ∧ 0 ≤ findI S r.1 then [⟨i, findI S r.1, t⟩] else []
/-- the states S come later than s -/
def Fut (most : Int) (s : Spc) (S : List (List Int)) : Prop := Pre s.st S ∧ (most ≤ s.st.length → S = s.st)
theorem stepS_fut {most : Int} {i : Nat} {s s' : Spc} {r : List Int × Int} {t : Int} {S : List (List Int)} (hf : Fut most s' S) (he : stepS most i s r t = some s') :
    Fut most s S ∧ s'.mv = s.mv ++ mvOf S i r t ∧ s'.full = (s.full && !(mvOf S i r t).isEmpty) := by
  unfold stepS at he
  split at he
  · rename_i h1
    cases he
    obtain ⟨f1, f2⟩ := hf
    have e : mvOf S i r t = [] := by
      unfold mvOf
      rw [if_neg]
      rintro ⟨g1, g2⟩
      rcases h1 with h1 | ⟨h1, h2⟩
      · exact h1 g1
      · rw [f2 h2] at g2
        simp only at g2 h1
        omega
    rw [e]
    exact ⟨⟨f1, f2⟩, by simp, by simp⟩
  · rename_i h1
    split at he
    · cases he
    · cases he
      obtain ⟨f1, f2⟩ := hf
      have h0 : r.2 = 0 := Classical.byContradiction fun hc => h1 (.inl hc)
      by_cases hn : findI s.st r.1 < 0
      · simp only [if_pos hn] at f1 f2 ⊢
        have hnot := findI_neg.1 hn
        have e1 : findI (s.st ++ [r.1]) r.1 = s.st.length := findI_snoc_self hnot
        have e2 : findI S r.1 = s.st.length := by rw [f1.find (by rw [e1]; omega), e1]
        have e : mvOf S i r t = [⟨i, s.st.length, t⟩] := by
          unfold mvOf
          rw [e2, if_pos ⟨h0, by omega⟩]
        rw [e]
        refine ⟨⟨Pre.trans ⟨[r.1], rfl⟩ f1, fun hm => ?_⟩, rfl, by simp⟩
        exact absurd (.inr ⟨hn, hm⟩) h1
      · simp only [if_neg hn] at f1 f2 ⊢
        have e : mvOf S i r t = [⟨i, findI s.st r.1, t⟩] := by
          unfold mvOf
          rw [f1.find (by omega), if_pos ⟨h0, by omega⟩]
        rw [e]
        exact ⟨⟨f1, f2⟩, rfl, by simp⟩
def rowMv (n : Net) (S : List (List Int)) (i : Nat) (x : List Int) (on : List Int) : List Mvx := on.flatMap fun t => mvOf S i (FireE n x t) t
def rowOk (n : Net) (S : List (List Int)) (i : Nat) (x : List Int) (on : List Int) : Bool := on.all fun t => !(mvOf S i (FireE n x t) t).isEmpty
theorem rowS_fut {n : Net} {most : Int} {i : Nat} {x : List Int} {S : List (List Int)} : ∀ (on : List Int) (s s' : Spc), Fut most s' S → rowS n most i x on s = some s' →
    Fut most s S ∧ s'.mv = s.mv ++ rowMv n S i x on ∧ s'.full = (s.full && rowOk n S i x on)
  | [], s, s', hf, h => by simp only [rowS, Option.some.injEq] at h; subst h; exact ⟨hf, by simp [rowMv], by simp [rowOk]⟩
  | t :: ts, s, s', hf, h => by
    simp only [rowS] at h
    cases e : stepS most i s (FireE n x t) t with
    | none => rw [e] at h; cases h
    | some s1 =>
      rw [e] at h
      obtain ⟨g1, g2, g3⟩ := rowS_fut ts s1 s' hf h
      obtain ⟨k1, k2, k3⟩ := stepS_fut g1 e
      refine ⟨k1, ?_, ?_⟩
      · rw [g2, k2, List.append_assoc]; rfl
      · rw [g3, k3, Bool.and_assoc]; rfl
def onS (n : Net) (S : List (List Int)) (j : Nat) : List Int := enabledL (gti S j) 0 n.trans
def rows (n : Net) (S : List (List Int)) (i k : Nat) : List Mvx := ((List.range k).drop i).flatMap fun j => rowMv n S j (gti S j) (onS n S j)
def rowsOk (n : Net) (S : List (List Int)) (i k : Nat) : Bool := ((List.range k).drop i).all fun j => rowOk n S j (gti S j) (onS n S j)
theorem range_drop {N k : Nat} (h : k < N) : (List.range N).drop k = k :: (List.range N).drop (k + 1) := by
  have e : gti (List.range N) k = k := by unfold gti; simp [h]
  have := drop_gti (l := List.range N) (k := k) (by simpa using h)
  rwa [e] at this
theorem rows_step {n : Net} {S : List (List Int)} {i k : Nat} (h : i < k) : rows n S i k = rowMv n S i (gti S i) (onS n S i) ++ rows n S (i + 1) k := by
  unfold rows; rw [range_drop h, List.flatMap_cons]
theorem rowsOk_step {n : Net} {S : List (List Int)} {i k : Nat} (h : i < k) : rowsOk n S i k = (rowOk n S i (gti S i) (onS n S i) && rowsOk n S (i + 1) k) := by
  unfold rowsOk; rw [range_drop h, List.all_cons]
theorem expS_fut {n : Net} {most : Int} : ∀ (f i : Nat) (s s' : Spc), SI n most s → (most + 1 ≤ (f + i : Nat)) → expS n most f i s = some s' → Fut most s s'.st ∧ s'.mv = s.mv ++ rows n s'.st i s'.st.length ∧ s'.full = (s.full && rowsOk n s'.st i s'.st.length)
  | 0, i, s, s', hs, hfu, h => by
    simp only [expS, Option.some.injEq] at h; subst h
    have := hs.le
    have e : (List.range s.st.length).drop i = [] := List.drop_eq_nil_of_le (by simp; omega)
    exact ⟨⟨.refl _, fun _ => rfl⟩, by simp [rows, e], by simp [rowsOk, e]⟩
  | f + 1, i, s, s', hs, hfu, h => by
    unfold expS at h
    split at h
    · rename_i hi
      cases e : rowS n most i (gti s.st i) (enabledL (gti s.st i) 0 n.trans) s with
      | none => rw [e] at h; cases h
      | some s1 =>
        rw [e] at h
        have hsi := (Aw.rowS_SI (hs.gti hi) _ s s1 hs e).1
        obtain ⟨g1, g2, g3⟩ := expS_fut f (i + 1) s1 s' hsi (by omega) h
        obtain ⟨k1, k2, k3⟩ := rowS_fut _ s s1 g1 e
        have hg := k1.1.gti hi
        have hlt : i < s'.st.length := by have := k1.1.len; omega
        refine ⟨k1, ?_, ?_⟩
        · rw [g2, k2, rows_step hlt, onS, hg, List.append_assoc]
        · rw [g3, k3, rowsOk_step hlt, onS, hg, Bool.and_assoc]
    · rename_i hi
      simp only [Option.some.injEq] at h; subst h
      have e : (List.range s.st.length).drop i = [] := List.drop_eq_nil_of_le (by simp; omega)
      exact ⟨⟨.refl _, fun _ => rfl⟩, by simp [rows, e], by simp [rowsOk, e]⟩
theorem stepS_len {most : Int} {i : Nat} {s s' : Spc} {r : List Int × Int} {t : Int} (he : stepS most i s r t = some s') : s.st.length ≤ s'.st.length := by
  unfold stepS at he
  split at he
  · cases he; exact Nat.le_refl _
  · split at he
    · cases he
    · cases he
      dsimp only
      split
      · simp
      · exact Nat.le_refl _
/-! ## the same under another bound -/
theorem stepS_L {most L : Int} {i : Nat} {s s' : Spc} {r : List Int × Int} {t : Int} (hl : (s'.st.length : Int) ≤ L) (hL : L ≤ most) (he : stepS most i s r t = some s') : stepS L i s r t = some s' := by
  unfold stepS at he ⊢
  split at he
  · rename_i h1
    rw [if_pos]
    · exact he
    · rcases h1 with h1 | ⟨h1, h2⟩
      · exact .inl h1
      · exact .inr ⟨h1, by omega⟩
  · rename_i h1
    split at he
    · cases he
    · rename_i h2
      have hl2 : (s.st.length : Int) ≤ L ∧ (findI s.st r.1 < 0 → ((s.st.length + 1 : Nat) : Int) ≤ L) := by
        cases he
        dsimp only at hl
        by_cases hn : findI s.st r.1 < 0
        · rw [if_pos hn] at hl
          simp only [List.length_append, List.length_singleton] at hl
          exact ⟨by omega, fun _ => hl⟩
        · rw [if_neg hn] at hl
          exact ⟨hl, fun h => absurd h hn⟩
      rw [if_neg, if_neg h2]
      · exact he
      · rintro (g | ⟨g1, g2⟩)
        · exact h1 (.inl g)
        · have := hl2.2 g1; omega
theorem rowS_len {n : Net} {most : Int} {i : Nat} {x : List Int} : ∀ (on : List Int) (s s' : Spc), rowS n most i x on s = some s' → s.st.length ≤ s'.st.length
  | [], s, s', h => by simp only [rowS, Option.some.injEq] at h; subst h; exact Nat.le_refl _
  | t :: ts, s, s', h => by
    simp only [rowS] at h
    cases e : stepS most i s (FireE n x t) t with
    | none => rw [e] at h; cases h
    | some s1 =>
      rw [e] at h
      have := stepS_len e
      have := rowS_len ts s1 s' h
      omega
theorem rowS_L {n : Net} {most L : Int} {i : Nat} {x : List Int} (hL : L ≤ most) : ∀ (on : List Int) (s s' : Spc), (s'.st.length : Int) ≤ L → rowS n most i x on s = some s' → rowS n L i x on s = some s'
  | [], s, s', hl, h => h
  | t :: ts, s, s', hl, h => by
    simp only [rowS] at h ⊢
    cases e : stepS most i s (FireE n x t) t with
    | none => rw [e] at h; cases h
    | some s1 =>
      rw [e] at h
      have := rowS_len ts s1 s' h
      rw [stepS_L (by omega) hL e]
      exact rowS_L hL ts s1 s' hl h
theorem expS_len {n : Net} {most : Int} : ∀ (f i : Nat) (s s' : Spc), expS n most f i s = some s' → s.st.length ≤ s'.st.length
  | 0, i, s, s', h => by simp only [expS, Option.some.injEq] at h; subst h; exact Nat.le_refl _
  | f + 1, i, s, s', h => by
    unfold expS at h
    split at h
    · cases e : rowS n most i (gti s.st i) (enabledL (gti s.st i) 0 n.trans) s with
      | none => rw [e] at h; cases h
      | some s1 =>
        rw [e] at h
        have := rowS_len _ s s1 e
        have := expS_len f (i + 1) s1 s' h
        omega
    · simp only [Option.some.injEq] at h; subst h; exact Nat.le_refl _
theorem expS_done {n : Net} {L : Int} {f i : Nat} {s : Spc} (h : s.st.length ≤ i) : expS n L f i s = some s := by
  cases f with
  | zero => rfl
  | succ f => unfold expS; rw [if_neg (by omega)]
theorem expS_L {n : Net} {most L : Int} (hL : L ≤ most) : ∀ (f f' i : Nat) (s s' : Spc), SI n most s → (most + 1 ≤ (f + i : Nat)) → (L + 1 ≤ (f' + i : Nat)) → (s'.st.length : Int) ≤ L → expS n most f i s = some s' → expS n L f' i s = some s'
  | 0, f', i, s, s', hs, hf, hf', hl, h => by
    simp only [expS, Option.some.injEq] at h; subst h
    have := hs.le
    exact expS_done (by omega)
  | f + 1, f', i, s, s', hs, hf, hf', hl, h => by
    have hll := expS_len _ _ _ _ h
    unfold expS at h
    split at h
    · rename_i hi
      cases e : rowS n most i (gti s.st i) (enabledL (gti s.st i) 0 n.trans) s with
      | none => rw [e] at h; cases h
      | some s1 =>
        rw [e] at h
        have hsi := (Aw.rowS_SI (hs.gti hi) _ s s1 hs e).1
        have h1 := expS_len _ _ _ _ h
        cases f' with
        | zero => omega
        | succ f' =>
          unfold expS
          rw [if_pos hi, rowS_L hL _ s s1 (by omega) e]
          exact expS_L hL f f' (i + 1) s1 s' hsi (by omega) (by omega) hl h
    · rename_i hi
      simp only [Option.some.injEq] at h; subst h
      exact expS_done (by omega)
theorem explE_some {n : Net} {m : List Int} {most : Int} (h : (explE n m most).2 = 0) : markB n m = true ∧ 1 ≤ most ∧ most ≤ 2000 ∧ expS n most (most.toNat + 1) 0 ⟨[m], [], true⟩ = some (explE n m most).1 := by
  unfold explE at h ⊢
  split at h
  · rename_i h1
    rw [if_pos h1]
    split at h
    · simp at h
    · rename_i h2
      rw [if_neg h2]
      cases e : expS n most (most.toNat + 1) 0 ⟨[m], [], true⟩ with
      | none => rw [e] at h; simp [explR] at h
      | some s => exact ⟨h1, by omega, by omega, rfl⟩
  · simp at h
theorem expl_st {n : Net} {m : List Int} {most : Int} (h : (explE n m most).2 = 0) : Pre [m] (explE n m most).1.st ∧ SI n most (explE n m most).1 := by
  obtain ⟨h1, h2, h3, h4⟩ := explE_some h
  exact ⟨(expS_fut _ _ _ _ (SI.init h1 (by omega)) (by omega) h4).1.1, (Aw.explE_SI h).2.2⟩
/-- an explored space is valid -/
theorem expl_valid {n : Net} {m : List Int} {most : Int} (h : (explE n m most).2 = 0) : Aw.validSp n (explE n m most).1 = true := by
  obtain ⟨h1, h2, h3, h4⟩ := explE_some h
  obtain ⟨hp, hs⟩ := expl_st h
  have hle := hs.le
  have hne := hs.ne
  have h0 : gti (explE n m most).1.st 0 = m := by rw [hp.gti (by simp)]; rfl
  have hx : explE n m (explE n m most).1.st.length = ((explE n m most).1, 0) := by
    generalize (explE n m most).1 = s at h4 hp hs hle hne h0 ⊢
    have := expS_L hle _ (((s.st.length : Nat) : Int).toNat + 1) 0 _ s (SI.init h1 (by omega)) (by omega) (by omega) (Int.le_refl _) h4
    unfold explE
    rw [if_pos h1, if_neg (by omega), this]; rfl
  unfold Aw.validSp
  rw [if_neg (by omega), h0, hx]
  simp [Aw.sameSp_iff]
end Go.Proofs.Ythdpacbjbdkemaa
end
section
namespace Go.Proofs.Ythdpacbjbdkemaa.Aw
set_option linter.unusedSimpArgs false
set_option linter.unusedVariables false
set_option linter.unusedSectionVars false
open Go Go.RowKit Go.Proofs
variable {P : Program} [IsP P]
set_option maxHeartbeats 2000000 in
theorem lawExplores_pf (n : Net) (m : List Int) (most : Int) (s : Spc) : Pure P 3 [eN n, eL eI m, eI most, eSpc s] (eB true) := by
  have h1 := explore_pf (P := P) n m most
  have h2 := rExplore_pf (P := P) n m most
  have h3 := few_pf (P := P) n
  have h4 := little_pf (P := P) s
  have h5 := validSp_pf (P := P) n s
  have h6 := rValidSp_pf (P := P) n s
  have hvd := fun h => expl_valid (n := n) (m := m) (most := most) h
  generalize explE n m most = r at h1 h2 hvd
  have h7 := validSp_pf (P := P) n r.1
  have h8 := rSame_pf (P := P) r.1 r.1
  rw [sameSp_iff.2 rfl] at h8
  replace h1 : Pure P 10 [eN n, eL eI m, eI most] (.tup [eSpc r.1, eI r.2]) := h1
  replace h2 : Pure P 11 [eN n, eL eI m, eI most] (.tup [eSpc r.1, eI r.2]) := h2
  generalize validSp n s = z at h5 h6
  refine aw_fn (by rw [IsP.eq (P := P)]; exact Try.func3) rfl rfl rfl rfl rfl (lo_cons (lo_N n) (lo_cons lo_I (lo_cons (.s _) (lo_cons (lo_Spc s) lo_nil)))) (.s _) (by simp only [argF]; rfl) ?_
  refine aw_bdm (d := 1) rfl (fun hmx => ?_)
  unfold maxLen at hmx
  repeat (first | refine aw_seq ?_ | refine ath_n ?_ | refine aw_skip ?_ | refine abl_n ?_ | refine aw_block ?_)
  refine aw_region ?_
  refine ops_op rfl rfl (runs_none rfl) (does_box rfl rfl rfl rfl) ?_
  refine aops_weak (wk_froz (id := 0) rfl) (aops_weak (wk_ref (d := 4) rfl rfl rfl) ?_)
  refine ops_op rfl rfl (runs_none rfl) (does_box rfl rfl rfl rfl) ?_
  refine aops_weak (wk_froz (id := 1) rfl) (aops_weak (wk_ref (d := 7) rfl rfl rfl) ?_)
  refine ops_op rfl rfl (runs_none rfl) (mv_s (.inr rfl) rfl) ?_
  refine ops_nil ?_
  repeat (first | refine aw_seq ?_ | refine ath_n ?_ | refine aw_skip ?_ | refine abl_n ?_ | refine aw_block ?_)
  refine aw_region ?_
  refine ops_op rfl rfl (runs_none rfl) (does_call rfl rfl (awake_pf) evc_nil) ?_
  first | refine ops_op rfl rfl (runs_none rfl) (does_notp rfl rfl) ?_ | refine ops_op rfl rfl (runs_none rfl) (does_not rfl rfl) ?_
  refine ops_nil ?_
  repeat (first | refine aw_seq ?_ | refine ath_n ?_ | refine aw_skip ?_ | refine abl_n ?_ | refine aw_block ?_)
  refine aw_false rfl ?_
  repeat (first | refine aw_seq ?_ | refine ath_n ?_ | refine aw_skip ?_ | refine abl_n ?_ | refine aw_block ?_)
  all_goals refine aw_region ?_
  all_goals (first | refine ops_op rfl rfl (runs_none rfl) (does_load_refw rfl ta24 ti24 rfl rfl) ?_ | refine ops_op rfl rfl (runs_none rfl) (does_load_whole rfl ta24 ti24 rfl rfl rfl rfl rfl) ?_ | refine ops_op rfl rfl (runs_none rfl) (does_load_refs rfl ta24 ti24 rfl (Nat.le_of_ble_eq_true rfl)) ?_ | refine ops_op rfl rfl (runs_none rfl) (does_load_ptrs rfl ta24 ti24 rfl rfl rfl rfl (Nat.le_of_ble_eq_true rfl)) ?_)
  all_goals (first | refine ops_opP rfl rfl (runs_none rfl) (does_call rfl rfl (h3) (evc_cons rfl evc_nil)) (fun h16 => ?_) (fun h16 => ?_) | refine ops_opB rfl rfl (runs_none rfl) (does_call rfl rfl (h3) (evc_cons rfl evc_nil)) (fun h16 => ?_) (fun h16 => ?_))
  all_goals (first | refine ops_op rfl rfl (runs_none rfl) (does_notp rfl rfl) ?_ | refine ops_op rfl rfl (runs_none rfl) (does_not rfl rfl) ?_)
  all_goals refine ops_op rfl rfl (runs_none rfl) (mv_s (.inl rfl) rfl) ?_
  all_goals (first | refine ops_op rfl rfl (runs_y rfl rfl rfl) (mv_own (.inl rfl) rfl) ?_ | refine ops_op rfl rfl (runs_y rfl rfl rfl) (mv_sl (.inl rfl) rfl) ?_ | refine ops_op rfl rfl (runs_y rfl rfl rfl) (mv_s (.inl rfl) rfl) ?_ | refine ops_op rfl rfl (runs_y rfl rfl rfl) (mv_emp (.inl rfl) rfl) ?_ | refine ops_op rfl rfl (runs_y rfl rfl rfl) (mv_sub (.inl rfl) rfl) ?_ | refine ops_skip rfl rfl (runs_nf rfl rfl rfl) ?_ | refine ops_skip rfl rfl (runs_nu rfl rfl rfl) ?_)
  all_goals (first | refine ops_op rfl rfl (runs_y rfl rfl rfl) (does_len_map rfl ts25 rfl) ?_ | refine ops_op rfl rfl (runs_y rfl rfl rfl) (does_len_sl rfl ts25 rfl) ?_ | refine ops_op rfl rfl (runs_y rfl rfl rfl) (does_len_own rfl ts25 rfl) ?_ | refine ops_op rfl rfl (runs_y rfl rfl rfl) (does_len_s rfl ts25 rfl) ?_ | refine ops_op rfl rfl (runs_y rfl rfl rfl) (does_len_emp rfl ts25 rfl) ?_ | refine ops_op rfl rfl (runs_y rfl rfl rfl) (does_len_sub rfl ts25 rfl) ?_ | refine ops_skip rfl rfl (runs_nf rfl rfl rfl) ?_ | refine ops_skip rfl rfl (runs_nu rfl rfl rfl) ?_)
  all_goals (first | refine ops_opP rfl rfl (runs_y rfl rfl rfl) (does_gtr rfl rfl rfl) (fun h21 => ?_) (fun h21 => ?_) | refine ops_opB rfl rfl (runs_y rfl rfl rfl) (does_gtr rfl rfl rfl) (fun h21 => ?_) (fun h21 => ?_) | refine ops_skip rfl rfl (runs_nf rfl rfl rfl) ?_ | refine ops_skip rfl rfl (runs_nu rfl rfl rfl) ?_)
  all_goals (first | refine ops_op rfl rfl (runs_none rfl) (pickT_s rfl rfl rfl) ?_ | refine ops_op rfl rfl (runs_none rfl) (pickF_s rfl rfl rfl) ?_ | refine ops_op rfl rfl (runs_none rfl) (does_pickT rfl rfl rfl) ?_ | refine ops_op rfl rfl (runs_none rfl) (does_pickF rfl rfl rfl) ?_)
  all_goals refine ops_op rfl rfl (runs_none rfl) (mv_s (.inl rfl) rfl) ?_
  all_goals (first | refine ops_op rfl rfl (runs_y rfl rfl rfl) (mv_s (.inl rfl) rfl) ?_ | refine ops_skip rfl rfl (runs_nf rfl rfl rfl) ?_ | refine ops_skip rfl rfl (runs_nu rfl rfl rfl) ?_)
  all_goals (first | refine ops_opP rfl rfl (runs_y rfl rfl rfl) (does_gtr rfl rfl rfl) (fun h25 => ?_) (fun h25 => ?_) | refine ops_opB rfl rfl (runs_y rfl rfl rfl) (does_gtr rfl rfl rfl) (fun h25 => ?_) (fun h25 => ?_) | refine ops_skip rfl rfl (runs_nf rfl rfl rfl) ?_ | refine ops_skip rfl rfl (runs_nu rfl rfl rfl) ?_)
  all_goals (first | refine ops_op rfl rfl (runs_y rfl rfl rfl) (mv_s (.inl rfl) rfl) ?_ | refine ops_skip rfl rfl (runs_nf rfl rfl rfl) ?_ | refine ops_skip rfl rfl (runs_nu rfl rfl rfl) ?_)
  all_goals (first | refine ops_op rfl rfl (runs_y rfl rfl rfl) (mv_s (.inl rfl) rfl) ?_ | refine ops_skip rfl rfl (runs_nt rfl rfl rfl) ?_ | refine ops_skip rfl rfl (runs_nu rfl rfl rfl) ?_)
  all_goals (first | refine ops_opP rfl rfl (runs_y rfl rfl rfl) (does_leq rfl rfl rfl) (fun h28 => ?_) (fun h28 => ?_) | refine ops_opB rfl rfl (runs_y rfl rfl rfl) (does_leq rfl rfl rfl) (fun h28 => ?_) (fun h28 => ?_) | refine ops_skip rfl rfl (runs_nt rfl rfl rfl) ?_ | refine ops_skip rfl rfl (runs_nu rfl rfl rfl) ?_)
  all_goals (first | refine ops_op rfl rfl (runs_y rfl rfl rfl) (pickT_s rfl rfl rfl) ?_ | refine ops_op rfl rfl (runs_y rfl rfl rfl) (pickF_s rfl rfl rfl) ?_ | refine ops_op rfl rfl (runs_y rfl rfl rfl) (does_pickT rfl rfl rfl) ?_ | refine ops_op rfl rfl (runs_y rfl rfl rfl) (does_pickF rfl rfl rfl) ?_ | refine ops_skip rfl rfl (runs_nf rfl rfl rfl) ?_ | refine ops_skip rfl rfl (runs_nu rfl rfl rfl) ?_)
  all_goals (first | refine ops_op rfl rfl (runs_none rfl) (pickT_s rfl rfl rfl) ?_ | refine ops_op rfl rfl (runs_none rfl) (pickF_s rfl rfl rfl) ?_ | refine ops_op rfl rfl (runs_none rfl) (does_pickT rfl rfl rfl) ?_ | refine ops_op rfl rfl (runs_none rfl) (does_pickF rfl rfl rfl) ?_)
  all_goals refine ops_op rfl rfl (runs_none rfl) (mv_s (.inl rfl) rfl) ?_
  all_goals (first | refine ops_op rfl rfl (runs_y rfl rfl rfl) (does_load_refw rfl ta29 ti29 rfl rfl) ?_ | refine ops_op rfl rfl (runs_y rfl rfl rfl) (does_load_whole rfl ta29 ti29 rfl rfl rfl rfl rfl) ?_ | refine ops_op rfl rfl (runs_y rfl rfl rfl) (does_load_refs rfl ta29 ti29 rfl (Nat.le_of_ble_eq_true rfl)) ?_ | refine ops_op rfl rfl (runs_y rfl rfl rfl) (does_load_ptrs rfl ta29 ti29 rfl rfl rfl rfl (Nat.le_of_ble_eq_true rfl)) ?_ | refine ops_skip rfl rfl (runs_nf rfl rfl rfl) ?_ | refine ops_skip rfl rfl (runs_nu rfl rfl rfl) ?_)
  all_goals (first | refine ops_opP rfl rfl (runs_y rfl rfl rfl) (does_call rfl rfl (h4) (evc_cons rfl evc_nil)) (fun h33 => ?_) (fun h33 => ?_) | refine ops_opB rfl rfl (runs_y rfl rfl rfl) (does_call rfl rfl (h4) (evc_cons rfl evc_nil)) (fun h33 => ?_) (fun h33 => ?_) | refine ops_skip rfl rfl (runs_nf rfl rfl rfl) ?_ | refine ops_skip rfl rfl (runs_nu rfl rfl rfl) ?_)
  all_goals (first | refine ops_op rfl rfl (runs_y rfl rfl rfl) (does_notp rfl rfl) ?_ | refine ops_op rfl rfl (runs_y rfl rfl rfl) (does_not rfl rfl) ?_ | refine ops_skip rfl rfl (runs_nf rfl rfl rfl) ?_ | refine ops_skip rfl rfl (runs_nu rfl rfl rfl) ?_)
  all_goals (first | refine ops_op rfl rfl (runs_none rfl) (pickT_s rfl rfl rfl) ?_ | refine ops_op rfl rfl (runs_none rfl) (pickF_s rfl rfl rfl) ?_ | refine ops_op rfl rfl (runs_none rfl) (does_pickT rfl rfl rfl) ?_ | refine ops_op rfl rfl (runs_none rfl) (does_pickF rfl rfl rfl) ?_)
  all_goals refine ops_nil ?_
  all_goals (repeat (first | refine aw_seq ?_ | refine ath_n ?_ | refine aw_skip ?_ | refine abl_n ?_ | refine aw_block ?_))
  all_goals (first | refine aw_true rfl ?_ | refine aw_false rfl ?_)
  all_goals (repeat (first | refine aw_seq ?_ | refine ath_n ?_ | refine aw_skip ?_ | refine abl_n ?_ | refine aw_block ?_))
  all_goals first
    | skip
      refine aw_region ?_
      refine ops_op rfl rfl (runs_none rfl) (mv_s (.inr rfl) rfl) ?_
      refine ops_nil ?_
      repeat (first | refine aw_seq ?_ | refine ath_n ?_ | refine aw_skip ?_ | refine abl_n ?_ | refine aw_block ?_)
      (refine aw_ret ?_; repeat (first | refine ath_r ?_ | refine abl_r ?_))
      exact post1 (.inr rfl) rfl rfl
    | skip
  all_goals
    refine aw_region ?_
    first | refine ops_op rfl rfl (runs_none rfl) (does_load_refw rfl ta24 ti24 rfl rfl) ?_ | refine ops_op rfl rfl (runs_none rfl) (does_load_whole rfl ta24 ti24 rfl rfl rfl rfl rfl) ?_ | refine ops_op rfl rfl (runs_none rfl) (does_load_refs rfl ta24 ti24 rfl (Nat.le_of_ble_eq_true rfl)) ?_ | refine ops_op rfl rfl (runs_none rfl) (does_load_ptrs rfl ta24 ti24 rfl rfl rfl rfl (Nat.le_of_ble_eq_true rfl)) ?_
    first | refine ops_op rfl rfl (runs_none rfl) (mv_own (.inl rfl) rfl) ?_ | refine ops_op rfl rfl (runs_none rfl) (mv_sl (.inl rfl) rfl) ?_ | refine ops_op rfl rfl (runs_none rfl) (mv_s (.inl rfl) rfl) ?_ | refine ops_op rfl rfl (runs_none rfl) (mv_emp (.inl rfl) rfl) ?_ | refine ops_op rfl rfl (runs_none rfl) (mv_sub (.inl rfl) rfl) ?_
    refine ops_op rfl rfl (runs_none rfl) (mv_s (.inl rfl) rfl) ?_
    refine ops_op rfl rfl (runs_none rfl) (does_call rfl rfl (h1) (evc_cons rfl (evc_cons rfl (evc_cons rfl evc_nil)))) ?_
    first | refine ops_op rfl rfl (runs_none rfl) (mv_tup (.inl rfl) rfl) ?_ | refine ops_op rfl rfl (runs_none rfl) (mv_s (.inl rfl) rfl) ?_
    refine ops_op rfl rfl (runs_none rfl) (does_extract rfl rfl rfl) ?_
    refine ops_op rfl rfl (runs_none rfl) (does_extract rfl rfl rfl) ?_
    refine ops_op rfl rfl (runs_none rfl) (does_alloc rfl ti29 rfl rfl) ?_
    refine ops_eff rfl (runs_none rfl) (does_store rfl ti29 rfl rfl rfl rfl rfl rfl (by decide) (by decide)) ?_
    refine ops_op rfl rfl (runs_none rfl) (mv_s (.inr rfl) rfl) ?_
    refine ops_nil ?_
    repeat (first | refine aw_seq ?_ | refine ath_n ?_ | refine aw_skip ?_ | refine abl_n ?_ | refine aw_block ?_)
    refine aw_weak (wk_froz (id := 2) rfl) ?_
    refine aw_weak (wk_ref (d := 9) rfl rfl rfl) ?_
    refine aw_region ?_
    first | refine ops_op rfl rfl (runs_none rfl) (does_load_refw rfl ta24 ti24 rfl rfl) ?_ | refine ops_op rfl rfl (runs_none rfl) (does_load_whole rfl ta24 ti24 rfl rfl rfl rfl rfl) ?_ | refine ops_op rfl rfl (runs_none rfl) (does_load_refs rfl ta24 ti24 rfl (Nat.le_of_ble_eq_true rfl)) ?_ | refine ops_op rfl rfl (runs_none rfl) (does_load_ptrs rfl ta24 ti24 rfl rfl rfl rfl (Nat.le_of_ble_eq_true rfl)) ?_
    first | refine ops_op rfl rfl (runs_none rfl) (mv_own (.inl rfl) rfl) ?_ | refine ops_op rfl rfl (runs_none rfl) (mv_sl (.inl rfl) rfl) ?_ | refine ops_op rfl rfl (runs_none rfl) (mv_s (.inl rfl) rfl) ?_ | refine ops_op rfl rfl (runs_none rfl) (mv_emp (.inl rfl) rfl) ?_ | refine ops_op rfl rfl (runs_none rfl) (mv_sub (.inl rfl) rfl) ?_
    refine ops_op rfl rfl (runs_none rfl) (mv_s (.inl rfl) rfl) ?_
    refine ops_op rfl rfl (runs_none rfl) (does_call rfl rfl (h2) (evc_cons rfl (evc_cons rfl (evc_cons rfl evc_nil)))) ?_
    first | refine ops_op rfl rfl (runs_none rfl) (mv_tup (.inl rfl) rfl) ?_ | refine ops_op rfl rfl (runs_none rfl) (mv_s (.inl rfl) rfl) ?_
    refine ops_op rfl rfl (runs_none rfl) (does_extract rfl rfl rfl) ?_
    refine ops_op rfl rfl (runs_none rfl) (does_extract rfl rfl rfl) ?_
    refine ops_op rfl rfl (runs_none rfl) (does_alloc rfl ti29 rfl rfl) ?_
    refine ops_eff rfl (runs_none rfl) (does_store rfl ti29 rfl rfl rfl rfl rfl rfl (by decide) (by decide)) ?_
    refine ops_op rfl rfl (runs_none rfl) (mv_s (.inr rfl) rfl) ?_
    refine ops_nil ?_
    repeat (first | refine aw_seq ?_ | refine ath_n ?_ | refine aw_skip ?_ | refine abl_n ?_ | refine aw_block ?_)
    refine aw_weak (wk_froz (id := 3) rfl) ?_
    refine aw_weak (wk_ref (d := 11) rfl rfl rfl) ?_
    refine aw_region ?_
    first | refine ops_op rfl rfl (runs_none rfl) (does_load_refw rfl ta29 ti29 rfl rfl) ?_ | refine ops_op rfl rfl (runs_none rfl) (does_load_whole rfl ta29 ti29 rfl rfl rfl rfl rfl) ?_ | refine ops_op rfl rfl (runs_none rfl) (does_load_refs rfl ta29 ti29 rfl (Nat.le_of_ble_eq_true rfl)) ?_ | refine ops_op rfl rfl (runs_none rfl) (does_load_ptrs rfl ta29 ti29 rfl rfl rfl rfl (Nat.le_of_ble_eq_true rfl)) ?_
    first | refine ops_op rfl rfl (runs_none rfl) (does_load_refw rfl ta29 ti29 rfl rfl) ?_ | refine ops_op rfl rfl (runs_none rfl) (does_load_whole rfl ta29 ti29 rfl rfl rfl rfl rfl) ?_ | refine ops_op rfl rfl (runs_none rfl) (does_load_refs rfl ta29 ti29 rfl (Nat.le_of_ble_eq_true rfl)) ?_ | refine ops_op rfl rfl (runs_none rfl) (does_load_ptrs rfl ta29 ti29 rfl rfl rfl rfl (Nat.le_of_ble_eq_true rfl)) ?_
    refine ops_op rfl rfl (runs_none rfl) (does_call rfl rfl (h8) (evc_cons rfl (evc_cons rfl evc_nil))) ?_
    first | refine ops_op rfl rfl (runs_none rfl) (does_notp rfl rfl) ?_ | refine ops_op rfl rfl (runs_none rfl) (does_not rfl rfl) ?_
    refine ops_op rfl rfl (runs_none rfl) (mv_s (.inl rfl) rfl) ?_
    first | refine ops_op rfl rfl (runs_y rfl rfl rfl) (mv_s (.inl rfl) rfl) ?_ | refine ops_skip rfl rfl (runs_nf rfl rfl rfl) ?_ | refine ops_skip rfl rfl (runs_nu rfl rfl rfl) ?_
    first | refine ops_op rfl rfl (runs_y rfl rfl rfl) (mv_s (.inl rfl) rfl) ?_ | refine ops_skip rfl rfl (runs_nf rfl rfl rfl) ?_ | refine ops_skip rfl rfl (runs_nu rfl rfl rfl) ?_
    first | refine ops_op rfl rfl (runs_y rfl rfl rfl) (dec_f (by simp) (does_neq rfl rfl rfl)) ?_ | refine ops_skip rfl rfl (runs_nf rfl rfl rfl) ?_ | refine ops_skip rfl rfl (runs_nu rfl rfl rfl) ?_
    first | refine ops_op rfl rfl (runs_none rfl) (pickT_s rfl rfl rfl) ?_ | refine ops_op rfl rfl (runs_none rfl) (pickF_s rfl rfl rfl) ?_ | refine ops_op rfl rfl (runs_none rfl) (does_pickT rfl rfl rfl) ?_ | refine ops_op rfl rfl (runs_none rfl) (does_pickF rfl rfl rfl) ?_
    refine ops_nil ?_
    repeat (first | refine aw_seq ?_ | refine ath_n ?_ | refine aw_skip ?_ | refine abl_n ?_ | refine aw_block ?_)
    refine aw_false rfl ?_
    repeat (first | refine aw_seq ?_ | refine ath_n ?_ | refine aw_skip ?_ | refine abl_n ?_ | refine aw_block ?_)
    by_cases h0 : r.2 = 0
    · rw [hvd h0] at h7
      cases z
      all_goals (refine aw_draw hmix ?_)
      all_goals (refine adraw_quiet (by kernel_rfl) ?_)
      all_goals (first | refine qx_op rfl rfl (runs_none rfl) (does_load_refw rfl ta24 ti24 rfl rfl) ?_ | refine qx_op rfl rfl (runs_none rfl) (does_load_whole rfl ta24 ti24 rfl rfl rfl rfl rfl) ?_ | refine qx_op rfl rfl (runs_none rfl) (does_load_refs rfl ta24 ti24 rfl (Nat.le_of_ble_eq_true rfl)) ?_ | refine qx_op rfl rfl (runs_none rfl) (does_load_ptrs rfl ta24 ti24 rfl rfl rfl rfl (Nat.le_of_ble_eq_true rfl)) ?_)
      all_goals (first | refine qx_op rfl rfl (runs_none rfl) (does_load_refw rfl ta29 ti29 rfl rfl) ?_ | refine qx_op rfl rfl (runs_none rfl) (does_load_whole rfl ta29 ti29 rfl rfl rfl rfl rfl) ?_ | refine qx_op rfl rfl (runs_none rfl) (does_load_refs rfl ta29 ti29 rfl (Nat.le_of_ble_eq_true rfl)) ?_ | refine qx_op rfl rfl (runs_none rfl) (does_load_ptrs rfl ta29 ti29 rfl rfl rfl rfl (Nat.le_of_ble_eq_true rfl)) ?_)
      all_goals (refine qx_op rfl rfl (runs_none rfl) (does_call rfl rfl (h5) (evc_cons rfl (evc_cons rfl evc_nil))) ?_)
      all_goals (first | refine qx_op rfl rfl (runs_none rfl) (does_load_refw rfl ta24 ti24 rfl rfl) ?_ | refine qx_op rfl rfl (runs_none rfl) (does_load_whole rfl ta24 ti24 rfl rfl rfl rfl rfl) ?_ | refine qx_op rfl rfl (runs_none rfl) (does_load_refs rfl ta24 ti24 rfl (Nat.le_of_ble_eq_true rfl)) ?_ | refine qx_op rfl rfl (runs_none rfl) (does_load_ptrs rfl ta24 ti24 rfl rfl rfl rfl (Nat.le_of_ble_eq_true rfl)) ?_)
      all_goals (first | refine qx_op rfl rfl (runs_none rfl) (does_load_refw rfl ta29 ti29 rfl rfl) ?_ | refine qx_op rfl rfl (runs_none rfl) (does_load_whole rfl ta29 ti29 rfl rfl rfl rfl rfl) ?_ | refine qx_op rfl rfl (runs_none rfl) (does_load_refs rfl ta29 ti29 rfl (Nat.le_of_ble_eq_true rfl)) ?_ | refine qx_op rfl rfl (runs_none rfl) (does_load_ptrs rfl ta29 ti29 rfl rfl rfl rfl (Nat.le_of_ble_eq_true rfl)) ?_)
      all_goals (refine qx_op rfl rfl (runs_none rfl) (does_call rfl rfl (h6) (evc_cons rfl (evc_cons rfl evc_nil))) ?_)
      all_goals (refine qx_op rfl rfl (runs_none rfl) (does_eqlb (by rw [IsP.eq (P := P)]; kernel_rfl) rfl rfl rfl) ?_)
      all_goals (refine qx_op rfl rfl (runs_none rfl) (mv_s (.inl rfl) rfl) ?_)
      all_goals (first | refine qx_op rfl rfl (runs_y rfl rfl rfl) (mv_s (.inl rfl) rfl) ?_ | refine qx_skip rfl rfl (runs_nt rfl rfl rfl) ?_ | refine qx_skip rfl rfl (runs_nu rfl rfl rfl) ?_)
      all_goals (first | refine qx_op rfl rfl (runs_y rfl rfl rfl) (dec_f (by simp [h0]) (does_neq rfl rfl rfl)) ?_ | refine qx_skip rfl rfl (runs_nt rfl rfl rfl) ?_ | refine qx_skip rfl rfl (runs_nu rfl rfl rfl) ?_)
      all_goals (first | refine qx_op rfl rfl (runs_y rfl rfl rfl) (mv_s (.inl rfl) rfl) ?_ | refine qx_skip rfl rfl (runs_nt rfl rfl rfl) ?_ | refine qx_skip rfl rfl (runs_nu rfl rfl rfl) ?_)
      all_goals (first | refine qx_op rfl rfl (runs_y rfl rfl rfl) (does_load_refw rfl ta24 ti24 rfl rfl) ?_ | refine qx_op rfl rfl (runs_y rfl rfl rfl) (does_load_whole rfl ta24 ti24 rfl rfl rfl rfl rfl) ?_ | refine qx_op rfl rfl (runs_y rfl rfl rfl) (does_load_refs rfl ta24 ti24 rfl (Nat.le_of_ble_eq_true rfl)) ?_ | refine qx_op rfl rfl (runs_y rfl rfl rfl) (does_load_ptrs rfl ta24 ti24 rfl rfl rfl rfl (Nat.le_of_ble_eq_true rfl)) ?_ | refine qx_skip rfl rfl (runs_nf rfl rfl rfl) ?_ | refine qx_skip rfl rfl (runs_nu rfl rfl rfl) ?_)
      all_goals (first | refine qx_op rfl rfl (runs_y rfl rfl rfl) (does_load_refw rfl ta29 ti29 rfl rfl) ?_ | refine qx_op rfl rfl (runs_y rfl rfl rfl) (does_load_whole rfl ta29 ti29 rfl rfl rfl rfl rfl) ?_ | refine qx_op rfl rfl (runs_y rfl rfl rfl) (does_load_refs rfl ta29 ti29 rfl (Nat.le_of_ble_eq_true rfl)) ?_ | refine qx_op rfl rfl (runs_y rfl rfl rfl) (does_load_ptrs rfl ta29 ti29 rfl rfl rfl rfl (Nat.le_of_ble_eq_true rfl)) ?_ | refine qx_skip rfl rfl (runs_nf rfl rfl rfl) ?_ | refine qx_skip rfl rfl (runs_nu rfl rfl rfl) ?_)
      all_goals (first | refine qx_op rfl rfl (runs_y rfl rfl rfl) (does_call rfl rfl (h7) (evc_cons rfl (evc_cons rfl evc_nil))) ?_ | refine qx_skip rfl rfl (runs_nf rfl rfl rfl) ?_ | refine qx_skip rfl rfl (runs_nu rfl rfl rfl) ?_)
      all_goals (first | refine qx_op rfl rfl (runs_y rfl rfl rfl) (pickT_s rfl rfl rfl) ?_ | refine qx_op rfl rfl (runs_y rfl rfl rfl) (pickF_s rfl rfl rfl) ?_ | refine qx_op rfl rfl (runs_y rfl rfl rfl) (does_pickT rfl rfl rfl) ?_ | refine qx_op rfl rfl (runs_y rfl rfl rfl) (does_pickF rfl rfl rfl) ?_ | refine qx_skip rfl rfl (runs_nt rfl rfl rfl) ?_ | refine qx_skip rfl rfl (runs_nu rfl rfl rfl) ?_)
      all_goals (first | refine qx_op rfl rfl (runs_none rfl) (pickT_s rfl rfl rfl) ?_ | refine qx_op rfl rfl (runs_none rfl) (pickF_s rfl rfl rfl) ?_ | refine qx_op rfl rfl (runs_none rfl) (does_pickT rfl rfl rfl) ?_ | refine qx_op rfl rfl (runs_none rfl) (does_pickF rfl rfl rfl) ?_)
      all_goals (refine qx_op rfl rfl (runs_none rfl) (mv_s (.inr rfl) rfl) ?_)
      all_goals (refine qx_nil ?_)
      all_goals (repeat (first | refine aw_seq ?_ | refine ath_n ?_ | refine aw_skip ?_ | refine abl_n ?_ | refine aw_block ?_))
      all_goals (refine aw_ret ?_; repeat (first | refine ath_r ?_ | refine abl_r ?_))
      all_goals exact post1 (.inr rfl) rfl rfl
    · cases z
      all_goals (refine aw_draw hmix ?_)
      all_goals (refine adraw_quiet (by kernel_rfl) ?_)
      all_goals (first | refine qx_op rfl rfl (runs_none rfl) (does_load_refw rfl ta24 ti24 rfl rfl) ?_ | refine qx_op rfl rfl (runs_none rfl) (does_load_whole rfl ta24 ti24 rfl rfl rfl rfl rfl) ?_ | refine qx_op rfl rfl (runs_none rfl) (does_load_refs rfl ta24 ti24 rfl (Nat.le_of_ble_eq_true rfl)) ?_ | refine qx_op rfl rfl (runs_none rfl) (does_load_ptrs rfl ta24 ti24 rfl rfl rfl rfl (Nat.le_of_ble_eq_true rfl)) ?_)
      all_goals (first | refine qx_op rfl rfl (runs_none rfl) (does_load_refw rfl ta29 ti29 rfl rfl) ?_ | refine qx_op rfl rfl (runs_none rfl) (does_load_whole rfl ta29 ti29 rfl rfl rfl rfl rfl) ?_ | refine qx_op rfl rfl (runs_none rfl) (does_load_refs rfl ta29 ti29 rfl (Nat.le_of_ble_eq_true rfl)) ?_ | refine qx_op rfl rfl (runs_none rfl) (does_load_ptrs rfl ta29 ti29 rfl rfl rfl rfl (Nat.le_of_ble_eq_true rfl)) ?_)
      all_goals (refine qx_op rfl rfl (runs_none rfl) (does_call rfl rfl (h5) (evc_cons rfl (evc_cons rfl evc_nil))) ?_)
      all_goals (first | refine qx_op rfl rfl (runs_none rfl) (does_load_refw rfl ta24 ti24 rfl rfl) ?_ | refine qx_op rfl rfl (runs_none rfl) (does_load_whole rfl ta24 ti24 rfl rfl rfl rfl rfl) ?_ | refine qx_op rfl rfl (runs_none rfl) (does_load_refs rfl ta24 ti24 rfl (Nat.le_of_ble_eq_true rfl)) ?_ | refine qx_op rfl rfl (runs_none rfl) (does_load_ptrs rfl ta24 ti24 rfl rfl rfl rfl (Nat.le_of_ble_eq_true rfl)) ?_)
      all_goals (first | refine qx_op rfl rfl (runs_none rfl) (does_load_refw rfl ta29 ti29 rfl rfl) ?_ | refine qx_op rfl rfl (runs_none rfl) (does_load_whole rfl ta29 ti29 rfl rfl rfl rfl rfl) ?_ | refine qx_op rfl rfl (runs_none rfl) (does_load_refs rfl ta29 ti29 rfl (Nat.le_of_ble_eq_true rfl)) ?_ | refine qx_op rfl rfl (runs_none rfl) (does_load_ptrs rfl ta29 ti29 rfl rfl rfl rfl (Nat.le_of_ble_eq_true rfl)) ?_)
      all_goals (refine qx_op rfl rfl (runs_none rfl) (does_call rfl rfl (h6) (evc_cons rfl (evc_cons rfl evc_nil))) ?_)
      all_goals (refine qx_op rfl rfl (runs_none rfl) (does_eqlb (by rw [IsP.eq (P := P)]; kernel_rfl) rfl rfl rfl) ?_)
      all_goals (refine qx_op rfl rfl (runs_none rfl) (mv_s (.inl rfl) rfl) ?_)
      all_goals (first | refine qx_op rfl rfl (runs_y rfl rfl rfl) (mv_s (.inl rfl) rfl) ?_ | refine qx_skip rfl rfl (runs_nt rfl rfl rfl) ?_ | refine qx_skip rfl rfl (runs_nu rfl rfl rfl) ?_)
      all_goals (first | refine qx_op rfl rfl (runs_y rfl rfl rfl) (dec_t (by simp [h0]) (does_neq rfl rfl rfl)) ?_ | refine qx_skip rfl rfl (runs_nt rfl rfl rfl) ?_ | refine qx_skip rfl rfl (runs_nu rfl rfl rfl) ?_)
      all_goals (first | refine qx_op rfl rfl (runs_y rfl rfl rfl) (mv_s (.inl rfl) rfl) ?_ | refine qx_skip rfl rfl (runs_nt rfl rfl rfl) ?_ | refine qx_skip rfl rfl (runs_nu rfl rfl rfl) ?_)
      all_goals (first | refine qx_op rfl rfl (runs_y rfl rfl rfl) (does_load_refw rfl ta24 ti24 rfl rfl) ?_ | refine qx_op rfl rfl (runs_y rfl rfl rfl) (does_load_whole rfl ta24 ti24 rfl rfl rfl rfl rfl) ?_ | refine qx_op rfl rfl (runs_y rfl rfl rfl) (does_load_refs rfl ta24 ti24 rfl (Nat.le_of_ble_eq_true rfl)) ?_ | refine qx_op rfl rfl (runs_y rfl rfl rfl) (does_load_ptrs rfl ta24 ti24 rfl rfl rfl rfl (Nat.le_of_ble_eq_true rfl)) ?_ | refine qx_skip rfl rfl (runs_nf rfl rfl rfl) ?_ | refine qx_skip rfl rfl (runs_nu rfl rfl rfl) ?_)
      all_goals (first | refine qx_op rfl rfl (runs_y rfl rfl rfl) (does_load_refw rfl ta29 ti29 rfl rfl) ?_ | refine qx_op rfl rfl (runs_y rfl rfl rfl) (does_load_whole rfl ta29 ti29 rfl rfl rfl rfl rfl) ?_ | refine qx_op rfl rfl (runs_y rfl rfl rfl) (does_load_refs rfl ta29 ti29 rfl (Nat.le_of_ble_eq_true rfl)) ?_ | refine qx_op rfl rfl (runs_y rfl rfl rfl) (does_load_ptrs rfl ta29 ti29 rfl rfl rfl rfl (Nat.le_of_ble_eq_true rfl)) ?_ | refine qx_skip rfl rfl (runs_nf rfl rfl rfl) ?_ | refine qx_skip rfl rfl (runs_nu rfl rfl rfl) ?_)
      all_goals (first | refine qx_op rfl rfl (runs_y rfl rfl rfl) (does_call rfl rfl (by assumption) (evc_cons rfl (evc_cons rfl evc_nil))) ?_ | refine qx_skip rfl rfl (runs_nf rfl rfl rfl) ?_ | refine qx_skip rfl rfl (runs_nu rfl rfl rfl) ?_)
      all_goals (first | refine qx_op rfl rfl (runs_y rfl rfl rfl) (pickT_s rfl rfl rfl) ?_ | refine qx_op rfl rfl (runs_y rfl rfl rfl) (pickF_s rfl rfl rfl) ?_ | refine qx_op rfl rfl (runs_y rfl rfl rfl) (does_pickT rfl rfl rfl) ?_ | refine qx_op rfl rfl (runs_y rfl rfl rfl) (does_pickF rfl rfl rfl) ?_ | refine qx_skip rfl rfl (runs_nt rfl rfl rfl) ?_ | refine qx_skip rfl rfl (runs_nu rfl rfl rfl) ?_)
      all_goals (first | refine qx_op rfl rfl (runs_none rfl) (pickT_s rfl rfl rfl) ?_ | refine qx_op rfl rfl (runs_none rfl) (pickF_s rfl rfl rfl) ?_ | refine qx_op rfl rfl (runs_none rfl) (does_pickT rfl rfl rfl) ?_ | refine qx_op rfl rfl (runs_none rfl) (does_pickF rfl rfl rfl) ?_)
      all_goals (refine qx_op rfl rfl (runs_none rfl) (mv_s (.inr rfl) rfl) ?_)
      all_goals (refine qx_nil ?_)
      all_goals (repeat (first | refine aw_seq ?_ | refine ath_n ?_ | refine aw_skip ?_ | refine abl_n ?_ | refine aw_block ?_))
      all_goals (refine aw_ret ?_; repeat (first | refine ath_r ?_ | refine abl_r ?_))
      all_goals exact post1 (.inr rfl) rfl rfl
end Go.Proofs.Ythdpacbjbdkemaa.Aw
end
section
namespace Go.Proofs.Ythdpacbjbdkemaa
open Go.ChangeShapes Go.WideShapes Go.ChangeAt Go.RowKit
set_option maxRecDepth 100000 in
theorem spaceExplores_lifted (os : Os) (started : os.Started) (H : Type) (enc : TypeId × Value → H) :
    ReturnsInHanded {} Try.checked os 3 .any (Rows.spaceExploresSpec.pre6 enc Try.prog Try.f3 Rows.spaceExploresRow.domain false) (Rows.spaceExploresSpec.post enc Try.prog Try.f3 false true false false) := by
  refine returnsInHanded_of_change (C := Try.checked) own_knob started (by kernel_rfl) Try.func3
    (ChangeSpec.witness6 (enc := enc) (C := Try.checked) false ⟨#[], #[.agg #[.int .i64 0, .slice none 0 0, .int .i64 0, .int .i64 0], .slice none 0 0, .int .i64 0, .agg #[.slice none 0 0, .slice none 0 0, .bool false]], []⟩ 8 (by kernel_rfl) (by kernel_rfl) (by kernel_rfl) (by kernel_rfl)) ?_
  intro W base args ds gs before hval0 hW hcnd _
  have hval : ∀ (j : Nat) t v, Try.f3.params[j]? = some t → args[j]? = some v → Value.okWide Try.prog W .any base t v := hval0
  have hW' := hW
  obtain ⟨p, q, hA0, hV, rfl, hfz, hnd⟩ := hW
  have hA : DataW.TrodAll enc Try.prog W 0 (fun _ => true) true Try.f3.params.toList args.toList ds p := hA0
  rw [Try.params3] at hA hval
  obtain ⟨v0, v1, v2, v3, d0, d1, d2, d3, p0, p1, p2, p3, rfl, rfl, rfl, h0, h1, h2, h3⟩ := trodAll_four hA
  obtain ⟨rfl, rfl⟩ := trodVars_none hV
  obtain ⟨x0, hx0⟩ := Aw.open_net (hval 0 24 v0 rfl rfl) h0
  obtain ⟨x1, hx1⟩ := Aw.open_ints (hval 1 25 v1 rfl rfl) h1
  obtain ⟨x2, hx2⟩ := Aw.open_int (hval 2 3 v2 rfl rfl) h2
  obtain ⟨x3, hx3⟩ := Aw.open_space (hval 3 29 v3 rfl rfl) h3
  simp only [List.append_nil] at hW'
  refine (Aw.pure_law (Aw.lawExplores_pf (P := Try.prog) x0 x1 x2 x3) W #[v0, v1, v2, v3] rfl (fun j v x hv hx => ?_)).mono fun e W' ⟨he, hb⟩ => ?_
  · match j, hv, hx with
    | 0, hv, hx => simp at hv hx; subst hv hx; exact hx0
    | 1, hv, hx => simp at hv hx; subst hv hx; exact hx1
    | 2, hv, hx => simp at hv hx; subst hv hx; exact hx2
    | 3, hv, hx => simp at hv hx; subst hv hx; exact hx3
    | j + 4, hv, hx => simp at hv
  subst he
  have hp : ∀ x ∈ p0 ++ p1 ++ p2 ++ p3, x.block < W.heap.size := fun x hx => hW'.lt x (by simpa using hx)
  have hg := trodAll_mk4 (Below.trod laid_out (by kernel_rfl) (of_decide_eq_true (by kernel_rfl)) h0 hb (fun x hx => hp x (by simp [hx]))) (Below.trod laid_out (by kernel_rfl) (of_decide_eq_true (by kernel_rfl)) h1 hb (fun x hx => hp x (by simp [hx]))) (Below.trod laid_out (by kernel_rfl) (of_decide_eq_true (by kernel_rfl)) h2 hb (fun x hx => hp x (by simp [hx]))) (Below.trod laid_out (by kernel_rfl) (of_decide_eq_true (by kernel_rfl)) h3 hb (fun x hx => hp x (by simp [hx])))
  simp only [← List.append_assoc] at hg
  exact ⟨_, rfl, law_post (t := 4) hW' (by kernel_rfl) Try.underlying4 ⟨rfl, rfl, rfl⟩ rfl hg hb⟩

theorem spaceExplores_holds : Rows.SpaceExploresSaid :=
  OpenClaim.holds_of_wide 3 Try.f3 rfl rfl rfl rfl rfl rfl rfl ⟨rfl, rfl, rfl, rfl, rfl⟩ rfl rfl rfl rfl rfl (by kernel_rfl) Try.func3 (by kernel_rfl)
    (of_decide_eq_true (by kernel_rfl)) (by unfold Func.isWrapper; first | (rw [if_pos (by decide +kernel)]; kernel_rfl) | (rw [if_neg (by decide +kernel)]; exact ⟨rfl, rfl⟩))
    (fun os started H enc _ => spaceExplores_lifted os started H enc)

#print axioms spaceExplores_holds

end Go.Proofs.Ythdpacbjbdkemaa
end
