import Derived.Test.YtmhbfoaecebobaaJG8
import Derived.Test.YtmhbfoaecebobaaJG9
section
namespace Go.Proofs.Ytmhbfoaecebobaa.Aw
set_option linter.unusedSimpArgs false
set_option linter.unusedVariables false
set_option linter.unusedSectionVars false
open Go Go.RowKit Go.Proofs
variable {P : Program} [IsP P]
theorem indexFIs_pf (f : FuncId) (caps : List AV) (p : (List Int) → Bool) (l : List (List Int)) (hlo : ∀ a : (List Int), Lo 0 ((eL eI) a)) (hlc : Lo 0 (.fn f caps)) (hf : ∀ a ∈ l, Pure P f ([(eL eI) a] ++ caps) (eB (p a))) :
    Pure P 108 [eL (eL eI) l, .fn f caps] (eI (firstAt p l)) := by
  refine aw_fn (by rw [IsP.eq (P := P)]; exact Try.func108) rfl rfl rfl rfl rfl (zah (zaq hlo) (zah hlc zap)) (.s _) (by simp only [argF]; rfl) ?_
  refine aw_bdm (d := 0) rfl (fun hmx => ?_)
  unfold maxLen at hmx
  repeat (first | refine zaf ?_ | refine zak ?_ | refine zad ?_ | refine zal ?_ | refine zac ?_)
  refine zae ?_
  refine zab rfl rfl (zaa rfl) (mv_s (.inr rfl) rfl) ?_
  refine zaj ?_
  repeat (first | refine zaf ?_ | refine zak ?_ | refine zad ?_ | refine zal ?_ | refine zac ?_)
  refine zae ?_
  refine zab rfl rfl (zaa rfl) (mv_sl (.inl rfl) rfl) ?_
  refine zab rfl rfl (zaa rfl) (za2 rfl ts101 rfl) ?_
  refine zab rfl rfl (zaa rfl) (mv_s (.inl rfl) rfl) ?_
  refine zaj ?_
  repeat (first | refine zaf ?_ | refine zak ?_ | refine zad ?_ | refine zal ?_ | refine zac ?_)
  refine aw_loops (S := Nat) (fun k => [(0, eL (eL eI) l), (1, .fn f caps), (7, eI l.length), (8, eI k)]) (fun _ => []) (fun k => k ≤ l.length ∧ ∀ j a, j < k → l[j]? = some a → p a = false) (fun k => l.length - k) 0 (wk_sub _ ⟨rfl, rfl, rfl, rfl, trivial⟩) ⟨by omega, fun j a hj => by omega⟩ (fun k hk => ?_)
  repeat (first | refine zaf ?_ | refine zak ?_ | refine zad ?_ | refine zal ?_ | refine zac ?_)
  refine zae ?_
  refine zab rfl rfl (zaa rfl) (does_lss rfl rfl rfl) ?_
  refine zaj ?_
  repeat (first | refine zaf ?_ | refine zak ?_ | refine zad ?_ | refine zal ?_ | refine zac ?_)
  refine aw_if rfl (fun h => ?_) (fun h => ?_)
  · have hlt : k < l.length := by omega
    repeat (first | refine zaf ?_ | refine zak ?_ | refine zad ?_ | refine zal ?_ | refine zac ?_)
    refine zae ?_
    refine zab rfl rfl (zaa rfl) (mv_s (.inl rfl) rfl) ?_
    refine zab rfl rfl (zaa rfl) (mv_s (.inr rfl) rfl) ?_
    refine zaj ?_
    repeat (first | refine zaf ?_ | refine zak ?_ | refine zad ?_ | refine zal ?_ | refine zac ?_)
    have hp := hf (gti l k) (gti_mem hlt)
    refine zae ?_
    refine zab rfl rfl (zaa rfl) (mv_fn (.inl rfl) rfl) ?_
    refine zab rfl rfl (zaa rfl) (mv_sl (.inl rfl) rfl) ?_
    refine zab rfl rfl (zaa rfl) (mv_s (.inl rfl) rfl) ?_
    refine zab rfl rfl (zaa rfl) (za1 rfl ts101 ti30 rfl rfl rfl (ix_map (by omega)) rfl) ?_
    refine zab rfl rfl (zaa rfl) (zam rfl ta30 rfl) ?_
    refine zab rfl rfl (zaa rfl) (zav rfl rfl (hp) (zar rfl za0)) ?_
    refine zaj ?_
    repeat (first | refine zaf ?_ | refine zak ?_ | refine zad ?_ | refine zal ?_ | refine zac ?_)
    refine aw_cond rfl (fun h => ?_) (fun h => ?_)
    · repeat (first | refine zaf ?_ | refine zak ?_ | refine zad ?_ | refine zal ?_ | refine zac ?_)
      refine zae ?_
      refine zab rfl rfl (zaa rfl) (mv_s (.inl rfl) rfl) ?_
      refine zab rfl rfl (zaa rfl) (mv_s (.inr rfl) rfl) ?_
      refine zaj ?_
      repeat (first | refine zaf ?_ | refine zak ?_ | refine zad ?_ | refine zal ?_ | refine zac ?_)
      (refine zbd ?_; repeat (first | refine ath_r ?_ | refine abl_r ?_))
      exact post1 (.inr rfl) rfl (congrArg eI (firstAt_some (gti_get hlt) h hk.2).symm)
    · repeat (first | refine zaf ?_ | refine zak ?_ | refine zad ?_ | refine zal ?_ | refine zac ?_)
      refine zae ?_
      refine zab rfl rfl (zaa rfl) (does_add rfl rfl rfl (IntWalk.i64_in _ (by omega))) ?_
      refine zab rfl rfl (zaa rfl) (mv_s (.inl rfl) rfl) ?_
      refine zaj ?_
      repeat (first | refine zaf ?_ | refine zak ?_ | refine zad ?_ | refine zal ?_ | refine zac ?_)
      refine ⟨k + 1, ⟨by omega, fun j a hj ha => ?_⟩, by omega, wk_sub _ ⟨rfl, rfl, rfl, rfl, trivial⟩⟩
      by_cases e : j = k
      · subst e
        rw [gti_get hlt] at ha
        cases ha
        exact h
      · exact hk.2 j a (by omega) ha
  · (refine aw_exit ?_; repeat (first | refine ath_x ?_ | refine abl_hit ?_ | refine abl_miss rfl ?_ | refine zal ?_ | refine zak ?_ | refine zaf ?_ | refine zad ?_ | refine zac ?_))
    refine zae ?_
    refine zab rfl rfl (zaa rfl) (mv_s (.inr rfl) rfl) ?_
    refine zaj ?_
    repeat (first | refine zaf ?_ | refine zak ?_ | refine zad ?_ | refine zal ?_ | refine zac ?_)
    (refine zbd ?_; repeat (first | refine ath_r ?_ | refine abl_r ?_))
    exact post1 (.inr rfl) rfl (congrArg eI (firstAt_none (fun j a hj ha => hk.2 j a (by omega) ha)).symm)
theorem find1_pf (x m : List Int) : Pure P 109 [eL eI x, .ref [eL eI m]] (eB (decide (x = m))) := by
  have he := eqI_pf (P := P) x m
  refine aw_fn (by rw [IsP.eq (P := P)]; exact Try.func109) rfl rfl rfl rfl rfl (zah lo_I (zah (.ref _ (zah lo_I zap)) zap)) (.s _) (by simp only [argF]; rfl) ?_
  repeat (first | refine zaf ?_ | refine zak ?_ | refine zad ?_ | refine zal ?_ | refine zac ?_)
  refine zae ?_
  refine zab rfl rfl (zaa rfl) (mv_s (.inr rfl) rfl) ?_
  refine zaj ?_
  repeat (first | refine zaf ?_ | refine zak ?_ | refine zad ?_ | refine zal ?_ | refine zac ?_)
  refine zae ?_
  refine zab rfl rfl (zaa rfl) (mv_sl (.inl rfl) rfl) ?_
  refine zab rfl rfl (zaa rfl) (zam rfl ta30 rfl) ?_
  refine zab rfl rfl (zaa rfl) (zav rfl rfl (he) (zar rfl (zar rfl za0))) ?_
  refine zab rfl rfl (zaa rfl) (mv_s (.inr rfl) rfl) ?_
  refine zaj ?_
  repeat (first | refine zaf ?_ | refine zak ?_ | refine zad ?_ | refine zal ?_ | refine zac ?_)
  (refine zbd ?_; repeat (first | refine ath_r ?_ | refine abl_r ?_))
  exact post1 (.inr rfl) rfl rfl
theorem find_pf (s : Spc) (m : List Int) : Pure P 93 [eSpc s, eL eI m] (eI (findI s.st m)) := by
  have hi := indexFIs_pf (P := P) 109 [.ref [eL eI m]] (fun x => decide (x = m)) s.st (fun _ => lo_I) (.fn _ _ (zah (.ref _ (zah lo_I zap)) zap)) (fun a _ => find1_pf a m)
  refine aw_fn (by rw [IsP.eq (P := P)]; exact Try.func93) rfl rfl rfl rfl rfl (zah (lo_Spc s) (zah lo_I zap)) (.s _) (by simp only [argF]; rfl) ?_
  repeat (first | refine zaf ?_ | refine zak ?_ | refine zad ?_ | refine zal ?_ | refine zac ?_)
  refine zae ?_
  refine zab rfl rfl (zaa rfl) (does_box rfl rfl rfl rfl) ?_
  refine za5 (wk_froz (id := 0) rfl) (za5 (wk_ref (d := 2) rfl rfl rfl) ?_)
  refine zab rfl rfl (zaa rfl) (does_box rfl rfl rfl rfl) ?_
  refine za5 (wk_froz (id := 1) rfl) (za5 (wk_ref (d := 3) rfl rfl rfl) ?_)
  refine zab rfl rfl (zaa rfl) (mv_s (.inr rfl) rfl) ?_
  refine zaj ?_
  repeat (first | refine zaf ?_ | refine zak ?_ | refine zad ?_ | refine zal ?_ | refine zac ?_)
  refine zae ?_
  refine zab rfl rfl (zaa rfl) (zag rfl tf104_0 (by decide) rfl) ?_
  refine zab rfl rfl (zaa rfl) (zam rfl ta101 rfl) ?_
  refine zab rfl rfl (zaa rfl) (does_func rfl rfl) ?_
  refine zab rfl rfl (zaa rfl) (zav rfl rfl (hi) (zar rfl (zar rfl za0))) ?_
  refine zab rfl rfl (zaa rfl) (mv_s (.inr rfl) rfl) ?_
  refine zaj ?_
  repeat (first | refine zaf ?_ | refine zak ?_ | refine zad ?_ | refine zal ?_ | refine zac ?_)
  (refine zbd ?_; repeat (first | refine ath_r ?_ | refine abl_r ?_))
  exact post1 (.inr rfl) rfl rfl
end Go.Proofs.Ytmhbfoaecebobaa.Aw
end
section
namespace Go.Proofs.Ytmhbfoaecebobaa.Aw
set_option linter.unusedSimpArgs false
set_option linter.unusedVariables false
set_option linter.unusedSectionVars false
open Go Go.RowKit Go.Proofs
variable {P : Program} [IsP P]
def rowsO (mvs : List Mvx) (n i : Nat) : List (List AV) := (List.range n).map fun v => (outsL mvs (v : Nat) i).map eMv
theorem rowsO_len (mvs : List Mvx) (n i : Nat) : (rowsO mvs n i).length = n := by simp [rowsO]
theorem rowsO_get {mvs : List Mvx} {n i v : Nat} (h : v < n) : (rowsO mvs n i)[v]? = some ((outsL mvs (v : Nat) i).map eMv) := by simp [rowsO, h]
theorem rowsO_0 (mvs : List Mvx) (n : Nat) : rowsO mvs n 0 = List.replicate n [] := by
  refine List.ext_getElem? fun v => ?_
  by_cases hv : v < n
  · rw [rowsO_get hv]; simp [hv, outsL, ixs]
  · rw [List.getElem?_eq_none (by rw [rowsO_len]; omega), List.getElem?_eq_none (by simp; omega)]
theorem rowsO_step {mvs : List Mvx} {n i v : Nat} (hv : v < n) (h : (gti mvs i).fr = (v : Nat)) : rowsO mvs n (i + 1) = (rowsO mvs n i).set v ((outsL mvs (v : Nat) i).map eMv ++ [eMv (gti mvs i)]) := by
  refine List.ext_getElem? fun q => ?_
  by_cases hq : q < n
  · rw [rowsO_get hq, outsL_succ, h]
    by_cases e : v = q
    · subst e
      rw [if_pos rfl, List.getElem?_set_self (by rw [rowsO_len]; exact hv), List.map_append]; rfl
    · rw [if_neg (by omega), List.append_nil, List.getElem?_set_ne e, rowsO_get hq]
  · rw [List.getElem?_eq_none (by rw [rowsO_len]; omega), List.getElem?_eq_none (by rw [List.length_set, rowsO_len]; omega)]
theorem rowsO_lo (mvs : List Mvx) (n i : Nat) : ∀ r ∈ rowsO mvs n i, ∀ e ∈ r, ∀ c ∈ e.cells, Lo 0 c := by
  intro r hr e he
  simp only [rowsO, List.mem_map] at hr
  obtain ⟨v, _, rfl⟩ := hr
  obtain ⟨m, _, rfl⟩ := List.mem_map.1 he
  exact (lo_Mv m).cells
def outsA (mvs : List Mvx) (n : Nat) : List (List Mvx) := (List.range n).map fun v => outsL mvs (v : Nat) mvs.length
theorem outsA_sl (mvs : List Mvx) (n : Nat) : (rowsO mvs n mvs.length).map AV.sl = (outsA mvs n).map (eL eMv) := by simp [rowsO, outsA, eL]
theorem outsA_get {mvs : List Mvx} {n v : Nat} (h : v < n) : ((outsA mvs n).map (eL eMv))[v]? = some (eL eMv (outsL mvs (v : Nat) mvs.length)) := by simp [outsA, h]
theorem lo_MvL (l : List (List Mvx)) : Lo 0 (eL (eL eMv) l) := zaq fun x => lo_Mvs x
theorem rowB_lo (l : List Bool) : ∀ e ∈ l.map eB, ∀ c ∈ e.cells, Lo 0 c := zan (fun a => (by intro c hc; simp [eB, AV.cells] at hc; subst hc; exact .s _))
end Go.Proofs.Ytmhbfoaecebobaa.Aw
end
section
namespace Go.Proofs.Ytmhbfoaecebobaa.Aw
set_option linter.unusedSimpArgs false
set_option linter.unusedVariables false
set_option linter.unusedSectionVars false
open Go Go.RowKit Go.Proofs
variable {P : Program} [IsP P]
def wkC (n : Net) (s : Spc) (fin : Int) : List AV := [eI n.places, eL eT n.trans, eI n.source, eI n.sink, eL (eL eI) s.st, eL eMv s.mv, eB s.full, eL (eL eMv) (outsA s.mv s.st.length), eI fin]
theorem lo_wk (n : Net) (s : Spc) (fin : Int) : Lo 0 (.ref (wkC n s fin)) := .ref _ (zah (.s _) (zah (zaq fun t => lo_T t) (zah (.s _) (zah (.s _) (zah (lo_II _) (zah (lo_Mvs _) (zah (.s _) (zah (lo_MvL _) (zah (.s _) zap)))))))))
set_option maxHeartbeats 8000000 in
theorem close_call (n : Net) (s : Spc) (fin : Int) (hm : MvOk n s) (hN : s.st.length ≤ 2000) (hmv : s.mv.length ≤ 20000) (set : List Bool) (hs : set.length = s.st.length) :
    CallR P 94 [.ref (wkC n s fin), .own 0 1 set.length] [.row 1 (set.map eB)] (.own 0 1 set.length) [.row 1 ((closeE n s.mv set).map eB)] := by
  obtain ⟨N, hNe⟩ : ∃ N, N = set.length := ⟨_, rfl⟩
  rw [← hNe] at hs ⊢
  have hmr : ∀ k, k < s.mv.length → 0 ≤ (gti s.mv k).tt ∧ (gti s.mv k).tt < (N : Int) := fun k hk => by obtain ⟨_, _, h1, h2, _⟩ := hm k hk; omega
  have hlw := lo_wk n s fin
  refine callR_fn (by rw [IsP.eq (P := P)]; exact Try.func94) rfl rfl (Nat.le_of_ble_eq_true rfl) rfl ?_
  simp only [argF]
  refine kw_seq ?_
  all_goals refine kw_region ?_
  all_goals (refine za9 rfl rfl (zaa rfl) (mv_s (.inr rfl) rfl) ?_)
  all_goals refine kops_nil ?_
  all_goals (repeat (first | refine kw_seq ?_ | refine zak ?_ | refine kw_skip ?_ | refine zal ?_ | refine zbb ?_))
  all_goals refine kw_region ?_
  all_goals (refine za9 rfl rfl (zaa rfl) (mv_s (.inr rfl) rfl) ?_)
  all_goals refine kops_nil ?_
  all_goals (repeat (first | refine kw_seq ?_ | refine zak ?_ | refine kw_skip ?_ | refine zal ?_ | refine zbb ?_))
  refine kw_weak (kwk_own (d := 5) 1 rfl (.inr rfl)) ?_
  all_goals refine kw_region ?_
  all_goals (refine za9 rfl rfl (zaa rfl) (mv_own (.inl rfl) rfl) ?_)
  all_goals (refine za9 rfl rfl (zaa rfl) (does_len_own rfl ts109 rfl) ?_)
  all_goals refine za9 rfl rfl (zaa rfl) (mv_s (.inl rfl) rfl) ?_
  all_goals refine kops_nil ?_
  all_goals (repeat (first | refine kw_seq ?_ | refine zak ?_ | refine kw_skip ?_ | refine zal ?_ | refine zbb ?_))
  refine kw_loops (S := Nat) (fun k => [(0, .ref (wkC n s fin)), (1, .own 0 1 N), (5, .own 1 1 (setQ set k).length), (10, .own 0 1 N), (11, eI N), (12, eI k)]) (fun k => [.row 1 (set.map eB), .row 1 ((setQ set k).map eI)]) (fun k => k ≤ N) (fun k => N - k) 0 (kwk_sub ⟨rfl, rfl, rfl, rfl, rfl, rfl, trivial⟩) (Nat.zero_le _) (fun k hk => ?_)
  repeat (first | refine kw_seq ?_ | refine zak ?_ | refine kw_skip ?_ | refine zal ?_ | refine zbb ?_)
  all_goals refine kw_region ?_
  all_goals (refine kops_opP rfl rfl (zaa rfl) (does_lss rfl rfl rfl) (fun h13 => ?_) (fun h13 => ?_))
  all_goals refine kops_nil ?_
  all_goals (repeat (first | refine kw_seq ?_ | refine zak ?_ | refine kw_skip ?_ | refine zal ?_ | refine zbb ?_))
  all_goals (first | refine kw_true rfl ?_ | refine kw_false rfl ?_)
  all_goals (repeat (first | refine kw_seq ?_ | refine zak ?_ | refine kw_skip ?_ | refine zal ?_ | refine zbb ?_))
  · have hkt : k < N := by omega
    have hel : (set.map eB)[k]? = some (eB (gti set k)) := ix_map (by omega)
    have hsq := setQ_succ set k
    have hql := setQ_len set k
    have hqm : ((setQ set k).map eI).length = (setQ set k).length := by simp
    generalize gti set k = b at hel hsq
    cases b
    · rw [if_neg (by simp), List.append_nil] at hsq
      all_goals refine kw_region ?_
      all_goals refine za9 rfl rfl (zaa rfl) (mv_s (.inl rfl) rfl) ?_
      all_goals (refine za9 rfl rfl (zaa rfl) (does_index_own rfl ts109 ti4 rfl rfl rfl hkt) ?_)
      all_goals (refine za9 rfl rfl (zaa rfl) (za3 rfl ta4 rfl rfl rfl hel rfl) ?_)
      all_goals refine za9 rfl rfl (zaa rfl) (mv_s (.inr rfl) rfl) ?_
      all_goals refine za9 rfl rfl (zaa rfl) (mv_s (.inr rfl) rfl) ?_
      all_goals refine kops_nil ?_
      all_goals (repeat (first | refine kw_seq ?_ | refine zak ?_ | refine kw_skip ?_ | refine zal ?_ | refine zbb ?_))
      all_goals refine kw_region ?_
      all_goals refine za9 rfl rfl (zaa rfl) (mv_s (.inl rfl) rfl) ?_
      all_goals refine kops_nil ?_
      all_goals (repeat (first | refine kw_seq ?_ | refine zak ?_ | refine kw_skip ?_ | refine zal ?_ | refine zbb ?_))
      refine kw_false rfl ?_
      repeat (first | refine kw_seq ?_ | refine zak ?_ | refine kw_skip ?_ | refine zal ?_ | refine zbb ?_)
      all_goals refine kw_region ?_
      all_goals refine za9 rfl rfl (zaa rfl) (does_add rfl rfl rfl (IntWalk.i64_in _ (by omega))) ?_
      all_goals refine za9 rfl rfl (zaa rfl) (mv_s (.inl rfl) rfl) ?_
      all_goals refine kops_nil ?_
      all_goals (repeat (first | refine kw_seq ?_ | refine zak ?_ | refine kw_skip ?_ | refine zal ?_ | refine zbb ?_))
      exact ⟨k + 1, by omega, by omega, kwk_st [0, 1] rfl (by decide) ⟨⟨_, rfl, .rowE (rowB_lo _) rfl⟩, ⟨_, rfl, .rowE (rowI_lo _) (by rw [hsq])⟩, trivial⟩ ⟨.lo _ hlw, .own 0 0 1 _ _ rfl rfl, .own 1 1 1 _ _ rfl (by rw [hsq]), .own 0 0 1 _ _ rfl rfl, .lo _ (by repeat' (first | exact Lo.s _ | exact Lo.emp | exact Lo.any | exact zap | exact zao | refine zah ?_ ?_ | refine zai ?_ ?_ | refine zaq ?_ | refine zan ?_ | refine Lo.cells ?_ | refine Lo.agg _ ?_ | refine Lo.ref _ ?_ | refine Lo.tup _ ?_ | refine Lo.fn _ _ ?_ | refine Lo.sl _ ?_ | intro _)), .lo _ (by repeat' (first | exact Lo.s _ | exact Lo.emp | exact Lo.any | exact zap | exact zao | refine zah ?_ ?_ | refine zai ?_ ?_ | refine zaq ?_ | refine zan ?_ | refine Lo.cells ?_ | refine Lo.agg _ ?_ | refine Lo.ref _ ?_ | refine Lo.tup _ ?_ | refine Lo.fn _ _ ?_ | refine Lo.sl _ ?_ | intro _)), trivial⟩⟩
    · rw [if_pos rfl] at hsq
      all_goals refine kw_region ?_
      all_goals refine za9 rfl rfl (zaa rfl) (mv_s (.inl rfl) rfl) ?_
      all_goals (refine za9 rfl rfl (zaa rfl) (does_index_own rfl ts109 ti4 rfl rfl rfl hkt) ?_)
      all_goals (refine za9 rfl rfl (zaa rfl) (za3 rfl ta4 rfl rfl rfl hel rfl) ?_)
      all_goals refine za9 rfl rfl (zaa rfl) (mv_s (.inr rfl) rfl) ?_
      all_goals refine za9 rfl rfl (zaa rfl) (mv_s (.inr rfl) rfl) ?_
      all_goals refine kops_nil ?_
      all_goals (repeat (first | refine kw_seq ?_ | refine zak ?_ | refine kw_skip ?_ | refine zal ?_ | refine zbb ?_))
      all_goals refine kw_region ?_
      all_goals refine za9 rfl rfl (zaa rfl) (mv_s (.inl rfl) rfl) ?_
      all_goals refine kops_nil ?_
      all_goals (repeat (first | refine kw_seq ?_ | refine zak ?_ | refine kw_skip ?_ | refine zal ?_ | refine zbb ?_))
      refine kw_true rfl ?_
      repeat (first | refine kw_seq ?_ | refine zak ?_ | refine kw_skip ?_ | refine zal ?_ | refine zbb ?_)
      all_goals refine kw_region ?_
      all_goals (refine za9 rfl rfl (zaa rfl) (mv_own (.inl rfl) rfl) ?_)
      all_goals refine za9 rfl rfl (zaa rfl) (mv_s (.inl rfl) rfl) ?_
      all_goals (refine za9 rfl rfl (zaa rfl) (lit1_sF rfl ts30 ti3 rfl rfl rfl rfl) ?_)
      all_goals (refine za9 rfl rfl (zaa rfl) (does_append rfl ts30 ti3 rfl (by decide) rfl rfl (by first | rfl | (simp; done) | (simp; omega)) rfl (by first | exact .own _ _ _ rfl rfl _ (by first | rfl | simp) | exact .emp | exact .nil | exact .sl _ (by first | simp; done | intro e he; simp at he; obtain ⟨_, _, rfl⟩ := he; rfl)) (by first | omega | (simp; omega) | (unfold maxLen; simp; omega)) (by first | omega | (simp; omega) | (unfold maxLen; simp; omega))) ?_)
      all_goals (refine za9 rfl rfl (zaa rfl) (mv_own (.inr rfl) rfl) ?_)
      all_goals refine kops_nil ?_
      all_goals (repeat (first | refine kw_seq ?_ | refine zak ?_ | refine kw_skip ?_ | refine zal ?_ | refine zbb ?_))
      all_goals refine kw_region ?_
      all_goals refine za9 rfl rfl (zaa rfl) (does_add rfl rfl rfl (IntWalk.i64_in _ (by omega))) ?_
      all_goals refine za9 rfl rfl (zaa rfl) (mv_s (.inl rfl) rfl) ?_
      all_goals refine kops_nil ?_
      all_goals (repeat (first | refine kw_seq ?_ | refine zak ?_ | refine kw_skip ?_ | refine zal ?_ | refine zbb ?_))
      exact ⟨k + 1, by omega, by omega, kwk_st [0, 2] rfl (by decide) ⟨⟨_, rfl, .rowE (rowB_lo _) rfl⟩, ⟨_, rfl, .rowE (rowI_lo _) (by rw [hsq, List.map_append]; rfl)⟩, trivial⟩ ⟨.lo _ hlw, .own 0 0 1 _ _ rfl rfl, .own 2 1 1 _ _ rfl (by rw [hsq]; simp), .own 0 0 1 _ _ rfl rfl, .lo _ (by repeat' (first | exact Lo.s _ | exact Lo.emp | exact Lo.any | exact zap | exact zao | refine zah ?_ ?_ | refine zai ?_ ?_ | refine zaq ?_ | refine zan ?_ | refine Lo.cells ?_ | refine Lo.agg _ ?_ | refine Lo.ref _ ?_ | refine Lo.tup _ ?_ | refine Lo.fn _ _ ?_ | refine Lo.sl _ ?_ | intro _)), .lo _ (by repeat' (first | exact Lo.s _ | exact Lo.emp | exact Lo.any | exact zap | exact zao | refine zah ?_ ?_ | refine zai ?_ ?_ | refine zaq ?_ | refine zan ?_ | refine Lo.cells ?_ | refine Lo.agg _ ?_ | refine Lo.ref _ ?_ | refine Lo.tup _ ?_ | refine Lo.fn _ _ ?_ | refine Lo.sl _ ?_ | intro _)), trivial⟩⟩
  have e : k = N := by omega
  subst e
  (refine kw_exit ?_; repeat (first | refine ath_x ?_ | refine abl_hit ?_ | refine abl_miss rfl ?_ | refine zal ?_ | refine zak ?_ | refine kw_seq ?_ | refine kw_skip ?_ | refine zbb ?_))
  have hCI : CI k (setQ set k, set) := by have := CI.init set; rw [← hNe] at this; exact this
  have hW : closeE n s.mv set = (cfs n s.mv k 0 (setQ set k, set)).2 := by unfold closeE; rw [← hNe]
  obtain ⟨W, hWe⟩ : ∃ W, cfs n s.mv k 0 (setQ set k, set) = W := ⟨_, rfl⟩
  rw [hWe] at hW
  rw [hW]
  by_cases h0 : (setQ set k).length = 0
  · have hq0 := List.eq_nil_of_length_eq_zero h0
    rw [hq0] at hWe ⊢
    rw [cfs_end (by simp)] at hWe
    subst hWe
    refine kw_loops (S := Unit) (fun _ => [(0, .ref (wkC n s fin)), (1, .own 0 1 k), (5, .own 1 1 0)]) (fun _ => [.row 1 (set.map eB), .row 1 []]) (fun _ => True) (fun _ => 0) () (kwk_sub ⟨rfl, rfl, rfl, trivial⟩) trivial (fun _ _ => ?_)
    repeat (first | refine kw_seq ?_ | refine zak ?_ | refine kw_skip ?_ | refine zal ?_ | refine zbb ?_)
    all_goals refine kw_region ?_
    all_goals (refine za9 rfl rfl (zaa rfl) (mv_own (.inl rfl) rfl) ?_)
    all_goals (refine za9 rfl rfl (zaa rfl) (does_len_own rfl ts30 rfl) ?_)
    all_goals refine za9 rfl rfl (zaa rfl) (dec_f (by decide) (does_gtr rfl rfl rfl)) ?_
    all_goals refine kops_nil ?_
    all_goals (repeat (first | refine kw_seq ?_ | refine zak ?_ | refine kw_skip ?_ | refine zal ?_ | refine zbb ?_))
    all_goals (refine kw_false rfl ?_)
    all_goals (repeat (first | refine kw_seq ?_ | refine zak ?_ | refine kw_skip ?_ | refine zal ?_ | refine zbb ?_))
    (refine kw_exit ?_; repeat (first | refine ath_x ?_ | refine abl_hit ?_ | refine abl_miss rfl ?_ | refine zal ?_ | refine zak ?_ | refine kw_seq ?_ | refine kw_skip ?_ | refine zbb ?_))
    all_goals refine kw_region ?_
    all_goals (refine za9 rfl rfl (zaa rfl) (mv_own (.inl rfl) rfl) ?_)
    all_goals (refine za9 rfl rfl (zaa rfl) (mv_own (.inr rfl) rfl) ?_)
    all_goals refine kops_nil ?_
    all_goals (repeat (first | refine kw_seq ?_ | refine zak ?_ | refine kw_skip ?_ | refine zal ?_ | refine zbb ?_))
    refine kw_weak (F' := [(4, .own 0 1 k)]) (σ' := [.row 1 (set.map eB)]) (kwk_st [0] rfl (by decide) ⟨⟨_, rfl, .rowE (rowB_lo _) rfl⟩, trivial⟩ ⟨.own 0 0 1 _ _ rfl rfl, trivial⟩) ?_
    (refine kw_ret ?_; repeat (first | refine ath_r ?_ | refine abl_r ?_))
    exact ⟨.inr rfl, rfl, rfl⟩
  refine kw_weak (kwk_sub0 (d := 5) rfl (by omega)) ?_
  have hmet0 : ∀ B : List Bool, B.map eB = B.map eB := fun _ => rfl
  refine kw_loops (S := Nat × QS × Nat × List Int) (fun p => [(0, .ref (wkC n s fin)), (1, .own 0 1 k), (5, .sub 1 1 p.2.2.1 (p.2.1.1.length - p.1))]) (fun p => [.row 1 (p.2.1.2.map eB), .row 1 (p.2.2.2.map eI)]) (fun p => CI k p.2.1 ∧ p.1 ≤ p.2.1.1.length ∧ cfs n s.mv (k - p.1) p.1 p.2.1 = W ∧ p.2.2.2.drop p.2.2.1 = p.2.1.1.drop p.1 ∧ p.2.2.1 + (p.2.1.1.length - p.1) = p.2.2.2.length) (fun p => k - p.1) (0, (setQ set k, set), 0, setQ set k)
    (kwk_sub ⟨rfl, rfl, rfl, trivial⟩) ⟨hCI, Nat.zero_le _, hWe, rfl, by simp⟩ (fun p hp => ?_)
  obtain ⟨i, q, o, cs⟩ := p
  obtain ⟨hB, hi, hE, hd, hl⟩ := hp
  replace hB : CI k q := hB
  replace hi : i ≤ q.1.length := hi
  replace hE : cfs n s.mv (k - i) i q = W := hE
  replace hd : cs.drop o = q.1.drop i := hd
  replace hl : o + (q.1.length - i) = cs.length := hl
  have hqn := hB.len
  have hbl := hB.bl
  repeat (first | refine kw_seq ?_ | refine zak ?_ | refine kw_skip ?_ | refine zal ?_ | refine zbb ?_)
  all_goals refine kw_region ?_
  all_goals (refine za9 rfl rfl (zaa rfl) (mv_sub (.inl rfl) rfl) ?_)
  all_goals (refine za9 rfl rfl (zaa rfl) (does_len_sub rfl ts30 rfl) ?_)
  all_goals (refine kops_opP rfl rfl (zaa rfl) (does_gtr rfl rfl rfl) (fun h25 => ?_) (fun h25 => ?_))
  all_goals refine kops_nil ?_
  all_goals (repeat (first | refine kw_seq ?_ | refine zak ?_ | refine kw_skip ?_ | refine zal ?_ | refine zbb ?_))
  all_goals (first | refine kw_true rfl ?_ | refine kw_false rfl ?_)
  all_goals (repeat (first | refine kw_seq ?_ | refine zak ?_ | refine kw_skip ?_ | refine zal ?_ | refine zbb ?_))
  all_goals dsimp only at h25
  rotate_left 1
  · have e : i = q.1.length := by omega
    rw [cfs_end (by omega)] at hE
    subst hE
    (refine kw_exit ?_; repeat (first | refine ath_x ?_ | refine abl_hit ?_ | refine abl_miss rfl ?_ | refine zal ?_ | refine zak ?_ | refine kw_seq ?_ | refine kw_skip ?_ | refine zbb ?_))
    all_goals refine kw_region ?_
    all_goals (refine za9 rfl rfl (zaa rfl) (mv_own (.inl rfl) rfl) ?_)
    all_goals (refine za9 rfl rfl (zaa rfl) (mv_own (.inr rfl) rfl) ?_)
    all_goals refine kops_nil ?_
    all_goals (repeat (first | refine kw_seq ?_ | refine zak ?_ | refine kw_skip ?_ | refine zal ?_ | refine zbb ?_))
    refine kw_weak (F' := [(4, .own 0 1 k)]) (σ' := [.row 1 (q.2.map eB)]) (kwk_st [0] rfl (by decide) ⟨⟨_, rfl, .rowE (rowB_lo _) rfl⟩, trivial⟩ ⟨.own 0 0 1 _ _ rfl rfl, trivial⟩) ?_
    (refine kw_ret ?_; repeat (first | refine ath_r ?_ | refine abl_r ?_))
    exact ⟨.inr rfl, rfl, rfl⟩
  have hlt : i < q.1.length := by omega
  obtain ⟨u, hu⟩ : ∃ u : Nat, gti q.1 i = u := ⟨(gti q.1 i).toNat, by have := hB.at_ hlt; omega⟩
  have hun : u < s.st.length := by have := hB.at_ hlt; omega
  have hq0 : (cs.map eI)[o + 0]? = some (eI u) := by
    have : (cs.drop o)[0]? = some (u : Int) := by rw [hd, List.getElem?_drop, Nat.add_zero, gti_get hlt, hu]
    rw [List.getElem?_drop] at this
    rw [List.getElem?_map, this]; rfl
  rw [show k - i = (k - (i + 1)) + 1 by omega, show cfs n s.mv ((k - (i + 1)) + 1) i q = if i < q.1.length then cfs n s.mv (k - (i + 1)) (i + 1) (crow n s.mv q (ixs s.mv (gti q.1 i) s.mv.length)) else q from rfl, if_pos hlt, hu] at hE
  have hXm := fun k (hk : k ∈ ixs s.mv u s.mv.length) => ixs_mem hk
  have hXl := ixs_len s.mv u s.mv.length
  have h33 : 0 < q.1.length - i := by omega
  all_goals refine kw_draw hmix ?_
  all_goals refine kdraw_ex ?_
  all_goals (refine zaz rfl rfl (zaa rfl) (fun _ => (mv_ref (.inl rfl) rfl)) ?_)
  all_goals (refine zaz rfl rfl (zaa rfl) (fun _ => (does_nil_ref rfl rfl)) ?_)
  all_goals (refine zaz rfl rfl (zaa rfl) (fun _ => (zag rfl tf114_2 (by decide) rfl)) ?_)
  all_goals (refine zaz rfl rfl (zaa rfl) (fun _ => (zam rfl ta112 rfl)) ?_)
  all_goals (refine zaz rfl rfl (zaa rfl) (fun _ => (mv_sub (.inl rfl) rfl)) ?_)
  all_goals (refine zaz rfl rfl (zaa rfl) (fun _ => (does_index_sub rfl ts30 ti3 rfl rfl rfl h33)) ?_)
  all_goals (refine ex_look rfl rfl (zaa rfl) (look_ptr rfl ta3 rfl rfl rfl hq0 rfl) ?_)
  all_goals (refine zaz rfl rfl (zaa rfl) (fun _ => (za1 rfl ts112 ti102 rfl rfl rfl (outsA_get hun) rfl)) ?_)
  all_goals (refine zaz rfl rfl (zaa rfl) (fun _ => (zam rfl ta102 rfl)) ?_)
  all_goals (refine zaz rfl rfl (zaa rfl) (fun _ => (za2 rfl ts102 rfl)) ?_)
  all_goals refine zaz rfl rfl (zaa rfl) (fun _ => (mv_s (.inl rfl) rfl)) ?_
  all_goals refine ex_nil (by kernel_rfl) ?_
  all_goals (repeat (first | refine kw_seq ?_ | refine zak ?_ | refine kw_skip ?_ | refine zal ?_ | refine zbb ?_))
  have hLX : outsL s.mv u s.mv.length = (ixs s.mv u s.mv.length).map (gti s.mv) := rfl
  rw [hLX]
  generalize ixs s.mv u s.mv.length = X at hE hXm hXl
  clear hLX hq0
  refine kw_loops (S := Nat × QS × Nat × List Int) (fun p => [(0, .ref (wkC n s fin)), (1, .own 0 1 k), (5, .sub 1 1 p.2.2.1 (p.2.1.1.length - i)), (36, eL eMv (X.map (gti s.mv))), (37, eI (X.map (gti s.mv)).length), (38, eI p.1)]) (fun p => [.row 1 (p.2.1.2.map eB), .row 1 (p.2.2.2.map eI)]) (fun p => CI k p.2.1 ∧ i < p.2.1.1.length ∧ cfs n s.mv (k - (i + 1)) (i + 1) (crow n s.mv p.2.1 (X.drop p.1)) = W ∧ p.2.2.2.drop p.2.2.1 = p.2.1.1.drop i ∧ p.2.2.1 + (p.2.1.1.length - i) = p.2.2.2.length ∧ p.1 ≤ X.length) (fun p => X.length - p.1) (0, q, o, cs)
    (kwk_sub ⟨rfl, rfl, rfl, rfl, rfl, rfl, trivial⟩) ⟨hB, hlt, hE, hd, hl, Nat.zero_le _⟩ (fun p hp => ?_)
  clear hE hd hl hB hqn hbl hu hlt
  obtain ⟨j, q, o, cs⟩ := p
  obtain ⟨hB, hlt, hE, hd, hl, hj⟩ := hp
  replace hB : CI k q := hB
  replace hlt : i < q.1.length := hlt
  replace hE : cfs n s.mv (k - (i + 1)) (i + 1) (crow n s.mv q (X.drop j)) = W := hE
  replace hd : cs.drop o = q.1.drop i := hd
  replace hl : o + (q.1.length - i) = cs.length := hl
  replace hj : j ≤ X.length := hj
  have hqn := hB.len
  have hbl := hB.bl
  have hLl : (X.map (gti s.mv)).length = X.length := by simp
  repeat (first | refine kw_seq ?_ | refine zak ?_ | refine kw_skip ?_ | refine zal ?_ | refine zbb ?_)
  all_goals refine kw_region ?_
  all_goals (refine kops_opP rfl rfl (zaa rfl) (does_lss rfl rfl rfl) (fun h39 => ?_) (fun h39 => ?_))
  all_goals refine kops_nil ?_
  all_goals (repeat (first | refine kw_seq ?_ | refine zak ?_ | refine kw_skip ?_ | refine zal ?_ | refine zbb ?_))
  all_goals (first | refine kw_true rfl ?_ | refine kw_false rfl ?_)
  all_goals (repeat (first | refine kw_seq ?_ | refine zak ?_ | refine kw_skip ?_ | refine zal ?_ | refine zbb ?_))
  all_goals dsimp only at h39
  rotate_left 1
  · have e : j = X.length := by omega
    subst e
    rw [List.drop_length] at hE
    (refine kw_exit ?_; repeat (first | refine ath_x ?_ | refine abl_hit ?_ | refine abl_miss rfl ?_ | refine zal ?_ | refine zak ?_ | refine kw_seq ?_ | refine kw_skip ?_ | refine zbb ?_))
    have h73 : 0 < q.1.length - i := by omega
    have h73b : 1 ≤ q.1.length - i := h73
    all_goals refine kw_region ?_
    all_goals (refine za9 rfl rfl (zaa rfl) (mv_sub (.inl rfl) rfl) ?_)
    all_goals refine za9 rfl rfl (zaa rfl) (does_slice_sub rfl ts30 ti3 rfl rfl h73 rfl rfl h73b) ?_
    all_goals (refine za9 rfl rfl (zaa rfl) (mv_sub (.inr rfl) rfl) ?_)
    all_goals refine kops_nil ?_
    all_goals (repeat (first | refine kw_seq ?_ | refine zak ?_ | refine kw_skip ?_ | refine zal ?_ | refine zbb ?_))
    exact ⟨(i + 1, q, o + 1, cs), ⟨hB, hlt, hE, by show cs.drop (o + 1) = q.1.drop (i + 1); rw [← List.drop_drop, hd, List.drop_drop], by show o + 1 + (q.1.length - (i + 1)) = cs.length; omega⟩, by show k - (i + 1) < k - i; omega, kwk_st [0, 1] rfl (by decide) ⟨⟨_, rfl, .rowE (rowB_lo _) rfl⟩, ⟨_, rfl, .rowE (rowI_lo _) rfl⟩, trivial⟩ ⟨.lo _ hlw, .own 0 0 1 _ _ rfl rfl, .sub 1 1 1 _ _ _ _ rfl rfl (show q.1.length - i - 1 = q.1.length - (i + 1) by omega), trivial⟩⟩
  have hjt : j < X.length := by omega
  have hXk : X.drop j = gti X j :: X.drop (j + 1) := drop_gti hjt
  have hix : ((X.map (gti s.mv)).map eMv)[j]? = some (eMv (gti s.mv (gti X j))) := by rw [List.getElem?_map, List.getElem?_map, gti_get hjt]; rfl
  obtain ⟨hkN, hkf⟩ := hXm _ (gti_mem hjt)
  rw [hXk, show crow n s.mv q (gti X j :: X.drop (j + 1)) = crow n s.mv (cstep n s.mv q (gti X j)) (X.drop (j + 1)) from rfl] at hE
  obtain ⟨_, _, ht0, ht1, hy0, hy1⟩ := hm _ hkN
  have hst := hB.step (n := n) (hmr _ hkN)
  obtain ⟨hB2, tl, hX2⟩ := hst
  have hg2 : i < (cstep n s.mv q (gti X j)).1.length := by rw [hX2]; simp; omega
  have hstep : cstep n s.mv q (gti X j) = if labM n (gti s.mv (gti X j)) = noB ∧ gti q.2 (gti s.mv (gti X j)).tt.toNat = false then (q.1 ++ [(gti s.mv (gti X j)).tt], q.2.set (gti s.mv (gti X j)).tt.toNat true) else q := rfl
  generalize cstep n s.mv q (gti X j) = q1 at hE hB2 hg2 hstep
  clear hX2
  generalize gti X j = kk at *
  generalize gti s.mv kk = m at *
  obtain ⟨w, hw⟩ : ∃ w : Nat, m.tt = (w : Int) := ⟨m.tt.toNat, by omega⟩
  have hwn : w < k := by omega
  obtain ⟨y, hy⟩ : ∃ y : Nat, m.sym = (y : Int) := ⟨m.sym.toNat, by omega⟩
  have hyn : y < n.trans.length := by omega
  have hixt : (n.trans.map eT)[y]? = some (eT (gti n.trans y)) := ix_map hyn
  have hlab : labM n m = (gti n.trans y).label := by unfold labM; rw [hy, Int.toNat_natCast]
  rw [hlab, hw, Int.toNat_natCast] at hstep
  have hel : (q.2.map eB)[w]? = some (eB (gti q.2 w)) := ix_map (by omega)
  have hlm : Lo 0 (.ref (eMv m).cells) := .ref _ (lo_Mv m).cells
  generalize gti n.trans y = t at *
  all_goals refine kw_region ?_
  all_goals (refine za9 rfl rfl (zaa rfl) (za1 rfl ts102 ti146 rfl rfl rfl hix rfl) ?_)
  all_goals (refine za9 rfl rfl (zaa rfl) (zas rfl ta146 ti146 rfl rfl) ?_)
  all_goals refine za9 rfl rfl (zaa rfl) (does_alloc rfl ti146 rfl rfl) ?_
  all_goals refine kops_eff rfl (zaa rfl) (za7 rfl ti146 rfl rfl rfl rfl rfl rfl (by decide) (by decide)) ?_
  all_goals refine kops_nil ?_
  all_goals (repeat (first | refine kw_seq ?_ | refine zak ?_ | refine kw_skip ?_ | refine zal ?_ | refine zbb ?_))
  refine kw_weak (kwk_froz (id := 2) rfl) ?_
  refine kw_weak (kwk_ref (d := 9) rfl rfl rfl) ?_
  by_cases hsl : t.label = noB
  · generalize hgb : gti q.2 w = b2 at hel hstep
    cases b2 with
    | true =>
      rw [if_neg (by simp)] at hstep
      subst hstep
      all_goals refine kw_draw hmix ?_
      all_goals refine kdraw_ex ?_
      all_goals (refine zaz rfl rfl (zaa rfl) (fun _ => (mv_ref (.inl rfl) rfl)) ?_)
      all_goals (refine zaz rfl rfl (zaa rfl) (fun _ => (does_nil_ref rfl rfl)) ?_)
      all_goals (refine zaz rfl rfl (zaa rfl) (fun _ => (zag rfl tf114_0 (by decide) rfl)) ?_)
      all_goals (refine zaz rfl rfl (zaa rfl) (fun _ => (zag rfl tf24_1 (by decide) rfl)) ?_)
      all_goals (refine zaz rfl rfl (zaa rfl) (fun _ => (zam rfl ta22 rfl)) ?_)
      all_goals (refine zaz rfl rfl (zaa rfl) (fun _ => (zag rfl tf146_2 (by decide) rfl)) ?_)
      all_goals (refine zaz rfl rfl (zaa rfl) (fun _ => (zam rfl ta3 rfl)) ?_)
      all_goals (refine zaz rfl rfl (zaa rfl) (fun _ => (za1 rfl ts22 ti46 rfl rfl hy hixt rfl)) ?_)
      all_goals (refine zaz rfl rfl (zaa rfl) (fun _ => (zag rfl tf46_0 (by decide) rfl)) ?_)
      all_goals (refine zaz rfl rfl (zaa rfl) (fun _ => (zam rfl ta9 rfl)) ?_)
      all_goals refine zaz rfl rfl (zaa rfl) (fun _ => (dec_t hsl (does_eqs rfl rfl rfl))) ?_
      all_goals refine zaz rfl rfl (zaa rfl) (fun _ => (mv_s (.inl rfl) rfl)) ?_
      all_goals (refine zaz rfl rfl (zau rfl rfl rfl) (fun _ => (mv_own (.inl rfl) rfl)) ?_)
      all_goals (refine zaz rfl rfl (zau rfl rfl rfl) (fun _ => (zag rfl tf146_1 (by decide) rfl)) ?_)
      all_goals (refine zaz rfl rfl (zau rfl rfl rfl) (fun _ => (zam rfl ta3 rfl)) ?_)
      all_goals (refine zaz rfl rfl (zau rfl rfl rfl) (fun _ => (does_index_own rfl ts109 ti4 rfl rfl hw hwn)) ?_)
      all_goals (refine ex_look rfl rfl (zau rfl rfl rfl) (look_ptr rfl ta4 rfl rfl rfl hel rfl) ?_)
      all_goals (refine zaz rfl rfl (zau rfl rfl rfl) (fun _ => (does_not rfl rfl)) ?_)
      all_goals (refine zaz rfl rfl (zaa rfl) (fun _ => (pickT_s rfl rfl rfl)) ?_)
      all_goals refine ex_nil (by kernel_rfl) ?_
      all_goals (repeat (first | refine kw_seq ?_ | refine zak ?_ | refine kw_skip ?_ | refine zal ?_ | refine zbb ?_))
      refine kw_false rfl ?_
      repeat (first | refine kw_seq ?_ | refine zak ?_ | refine kw_skip ?_ | refine zal ?_ | refine zbb ?_)
      all_goals refine kw_region ?_
      all_goals refine za9 rfl rfl (zaa rfl) (does_add rfl rfl rfl (IntWalk.i64_in _ (by omega))) ?_
      all_goals refine za9 rfl rfl (zaa rfl) (mv_s (.inl rfl) rfl) ?_
      all_goals refine kops_nil ?_
      all_goals (repeat (first | refine kw_seq ?_ | refine zak ?_ | refine kw_skip ?_ | refine zal ?_ | refine zbb ?_))
      exact ⟨(j + 1, q1, o, cs), ⟨hB2, hlt, hE, hd, hl, by show j + 1 ≤ X.length; omega⟩, by show X.length - (j + 1) < X.length - j; omega, kwk_st [0, 1] rfl (by decide) ⟨⟨_, rfl, .rowE (rowB_lo _) rfl⟩, ⟨_, rfl, .rowE (rowI_lo _) rfl⟩, trivial⟩ ⟨.lo _ hlw, .own 0 0 1 _ _ rfl rfl, .sub 1 1 1 _ _ _ _ rfl rfl rfl, .lo _ (lo_Mvs _), .lo _ (by repeat' (first | exact Lo.s _ | exact Lo.emp | exact Lo.any | exact zap | exact zao | refine zah ?_ ?_ | refine zai ?_ ?_ | refine zaq ?_ | refine zan ?_ | refine Lo.cells ?_ | refine Lo.agg _ ?_ | refine Lo.ref _ ?_ | refine Lo.tup _ ?_ | refine Lo.fn _ _ ?_ | refine Lo.sl _ ?_ | intro _)), .lo _ (by repeat' (first | exact Lo.s _ | exact Lo.emp | exact Lo.any | exact zap | exact zao | refine zah ?_ ?_ | refine zai ?_ ?_ | refine zaq ?_ | refine zan ?_ | refine Lo.cells ?_ | refine Lo.agg _ ?_ | refine Lo.ref _ ?_ | refine Lo.tup _ ?_ | refine Lo.fn _ _ ?_ | refine Lo.sl _ ?_ | intro _)), trivial⟩⟩
    | false =>
      rw [if_pos ⟨hsl, rfl⟩] at hstep
      subst hstep
      have hlm2 : o + (q.1.length - i) = (cs.map eI).length := by rw [List.length_map]; exact hl
      have h104 : 0 < q.1.length - i := by omega
      have hmet : (q.2.set w true).map eB = (q.2.map eB).set w (eB true) := List.map_set
      have hql : (q.1 ++ [(w : Int)]).length - i = q.1.length - i + 1 := by simp; omega
      all_goals refine kw_draw hmix ?_
      all_goals refine kdraw_ex ?_
      all_goals (refine zaz rfl rfl (zaa rfl) (fun _ => (mv_ref (.inl rfl) rfl)) ?_)
      all_goals (refine zaz rfl rfl (zaa rfl) (fun _ => (does_nil_ref rfl rfl)) ?_)
      all_goals (refine zaz rfl rfl (zaa rfl) (fun _ => (zag rfl tf114_0 (by decide) rfl)) ?_)
      all_goals (refine zaz rfl rfl (zaa rfl) (fun _ => (zag rfl tf24_1 (by decide) rfl)) ?_)
      all_goals (refine zaz rfl rfl (zaa rfl) (fun _ => (zam rfl ta22 rfl)) ?_)
      all_goals (refine zaz rfl rfl (zaa rfl) (fun _ => (zag rfl tf146_2 (by decide) rfl)) ?_)
      all_goals (refine zaz rfl rfl (zaa rfl) (fun _ => (zam rfl ta3 rfl)) ?_)
      all_goals (refine zaz rfl rfl (zaa rfl) (fun _ => (za1 rfl ts22 ti46 rfl rfl hy hixt rfl)) ?_)
      all_goals (refine zaz rfl rfl (zaa rfl) (fun _ => (zag rfl tf46_0 (by decide) rfl)) ?_)
      all_goals (refine zaz rfl rfl (zaa rfl) (fun _ => (zam rfl ta9 rfl)) ?_)
      all_goals refine zaz rfl rfl (zaa rfl) (fun _ => (dec_t hsl (does_eqs rfl rfl rfl))) ?_
      all_goals refine zaz rfl rfl (zaa rfl) (fun _ => (mv_s (.inl rfl) rfl)) ?_
      all_goals (refine zaz rfl rfl (zau rfl rfl rfl) (fun _ => (mv_own (.inl rfl) rfl)) ?_)
      all_goals (refine zaz rfl rfl (zau rfl rfl rfl) (fun _ => (zag rfl tf146_1 (by decide) rfl)) ?_)
      all_goals (refine zaz rfl rfl (zau rfl rfl rfl) (fun _ => (zam rfl ta3 rfl)) ?_)
      all_goals (refine zaz rfl rfl (zau rfl rfl rfl) (fun _ => (does_index_own rfl ts109 ti4 rfl rfl hw hwn)) ?_)
      all_goals (refine ex_look rfl rfl (zau rfl rfl rfl) (look_ptr rfl ta4 rfl rfl rfl hel rfl) ?_)
      all_goals (refine zaz rfl rfl (zau rfl rfl rfl) (fun _ => (does_not rfl rfl)) ?_)
      all_goals (refine zaz rfl rfl (zaa rfl) (fun _ => (pickT_s rfl rfl rfl)) ?_)
      all_goals refine ex_nil (by kernel_rfl) ?_
      all_goals (repeat (first | refine kw_seq ?_ | refine zak ?_ | refine kw_skip ?_ | refine zal ?_ | refine zbb ?_))
      refine kw_true rfl ?_
      repeat (first | refine kw_seq ?_ | refine zak ?_ | refine kw_skip ?_ | refine zal ?_ | refine zbb ?_)
      all_goals refine kw_region ?_
      all_goals (refine za9 rfl rfl (zaa rfl) (mv_own (.inl rfl) rfl) ?_)
      all_goals (refine za9 rfl rfl (zaa rfl) (zag rfl tf146_1 (by decide) rfl) ?_)
      all_goals (refine za9 rfl rfl (zaa rfl) (zam rfl ta3 rfl) ?_)
      all_goals (refine za9 rfl rfl (zaa rfl) (does_index_own rfl ts109 ti4 rfl rfl hw hwn) ?_)
      all_goals refine kops_eff rfl (zaa rfl) (za7 rfl ti4 rfl rfl rfl hel rfl rfl (by decide) (by decide)) ?_
      all_goals refine kops_nil ?_
      all_goals (repeat (first | refine kw_seq ?_ | refine zak ?_ | refine kw_skip ?_ | refine zal ?_ | refine zbb ?_))
      all_goals refine kw_region ?_
      all_goals (refine za9 rfl rfl (zaa rfl) (mv_sub (.inl rfl) rfl) ?_)
      all_goals (refine za9 rfl rfl (zaa rfl) (zag rfl tf146_1 (by decide) rfl) ?_)
      all_goals (refine za9 rfl rfl (zaa rfl) (zam rfl ta3 rfl) ?_)
      all_goals (refine za9 rfl rfl (zaa rfl) (lit1_sF rfl ts30 ti3 rfl rfl rfl rfl) ?_)
      all_goals (refine kops_opR rfl rfl (zaa rfl) (does_append_sub rfl ts30 ti3 rfl (by decide) rfl rfl hlm2 (by omega) rfl (by first | exact .own _ _ _ rfl rfl _ (by first | rfl | simp) | exact .emp | exact .nil | exact .sl _ (by first | simp; done | intro e he; simp at he; obtain ⟨_, _, rfl⟩ := he; rfl)) (by first | omega | (simp; omega) | (unfold maxLen; simp; omega)) (by first | omega | (simp; omega) | (unfold maxLen; simp; omega))) (fun _ _ hR => ?_); obtain ⟨q2, cs2, hq2, rfl, rfl⟩ := hR)
      all_goals (refine za9 rfl rfl (zaa rfl) (mv_sub (.inr rfl) rfl) ?_)
      all_goals refine kops_nil ?_
      all_goals (repeat (first | refine kw_seq ?_ | refine zak ?_ | refine kw_skip ?_ | refine zal ?_ | refine zbb ?_))
      rcases hq2 with ⟨rfl, rfl⟩ | ⟨rfl, rfl⟩
      all_goals (all_goals refine kw_region ?_)
      all_goals (all_goals refine za9 rfl rfl (zaa rfl) (does_add rfl rfl rfl (IntWalk.i64_in _ (by omega))) ?_)
      all_goals (all_goals refine za9 rfl rfl (zaa rfl) (mv_s (.inl rfl) rfl) ?_)
      all_goals (all_goals refine kops_nil ?_)
      all_goals (all_goals (repeat (first | refine kw_seq ?_ | refine zak ?_ | refine kw_skip ?_ | refine zal ?_ | refine zbb ?_)))
      · exact ⟨(j + 1, (q.1 ++ [(w : Int)], q.2.set w true), q2, cs ++ [(w : Int)]), ⟨hB2, hg2, hE, by show (cs ++ [(w : Int)]).drop q2 = (q.1 ++ [(w : Int)]).drop i; rw [List.drop_append_of_le_length (by omega), List.drop_append_of_le_length (by omega), hd], by show q2 + ((q.1 ++ [(w : Int)]).length - i) = (cs ++ [(w : Int)]).length; rw [hql, List.length_append]; simp; omega, by show j + 1 ≤ X.length; omega⟩, by show X.length - (j + 1) < X.length - j; omega, kwk_st [0, 3] rfl (by decide) ⟨⟨_, rfl, .rowE (rowB_lo _) hmet.symm⟩, ⟨_, rfl, .rowE (rowI_lo _) (by rw [List.map_append, ← hw]; rfl)⟩, trivial⟩ ⟨.lo _ hlw, .own 0 0 1 _ _ rfl rfl, .sub 3 1 1 _ _ _ _ rfl rfl hql.symm, .lo _ (lo_Mvs _), .lo _ (by repeat' (first | exact Lo.s _ | exact Lo.emp | exact Lo.any | exact zap | exact zao | refine zah ?_ ?_ | refine zai ?_ ?_ | refine zaq ?_ | refine zan ?_ | refine Lo.cells ?_ | refine Lo.agg _ ?_ | refine Lo.ref _ ?_ | refine Lo.tup _ ?_ | refine Lo.fn _ _ ?_ | refine Lo.sl _ ?_ | intro _)), .lo _ (by repeat' (first | exact Lo.s _ | exact Lo.emp | exact Lo.any | exact zap | exact zao | refine zah ?_ ?_ | refine zai ?_ ?_ | refine zaq ?_ | refine zan ?_ | refine Lo.cells ?_ | refine Lo.agg _ ?_ | refine Lo.ref _ ?_ | refine Lo.tup _ ?_ | refine Lo.fn _ _ ?_ | refine Lo.sl _ ?_ | intro _)), trivial⟩⟩
      · exact ⟨(j + 1, (q.1 ++ [(w : Int)], q.2.set w true), 0, cs.drop o ++ [(w : Int)]), ⟨hB2, hg2, hE, by show (cs.drop o ++ [(w : Int)]).drop 0 = (q.1 ++ [(w : Int)]).drop i; rw [List.drop_zero, List.drop_append_of_le_length (by omega), hd], by show 0 + ((q.1 ++ [(w : Int)]).length - i) = (cs.drop o ++ [(w : Int)]).length; rw [hql, hd]; simp, by show j + 1 ≤ X.length; omega⟩, by show X.length - (j + 1) < X.length - j; omega, kwk_st [0, 3] rfl (by decide) ⟨⟨_, rfl, .rowE (rowB_lo _) hmet.symm⟩, ⟨_, rfl, .rowE (rowI_lo _) (by rw [List.map_append, List.map_drop, ← hw]; rfl)⟩, trivial⟩ ⟨.lo _ hlw, .own 0 0 1 _ _ rfl rfl, .sub 3 1 1 _ _ _ _ rfl rfl hql.symm, .lo _ (lo_Mvs _), .lo _ (by repeat' (first | exact Lo.s _ | exact Lo.emp | exact Lo.any | exact zap | exact zao | refine zah ?_ ?_ | refine zai ?_ ?_ | refine zaq ?_ | refine zan ?_ | refine Lo.cells ?_ | refine Lo.agg _ ?_ | refine Lo.ref _ ?_ | refine Lo.tup _ ?_ | refine Lo.fn _ _ ?_ | refine Lo.sl _ ?_ | intro _)), .lo _ (by repeat' (first | exact Lo.s _ | exact Lo.emp | exact Lo.any | exact zap | exact zao | refine zah ?_ ?_ | refine zai ?_ ?_ | refine zaq ?_ | refine zan ?_ | refine Lo.cells ?_ | refine Lo.agg _ ?_ | refine Lo.ref _ ?_ | refine Lo.tup _ ?_ | refine Lo.fn _ _ ?_ | refine Lo.sl _ ?_ | intro _)), trivial⟩⟩
  · rw [if_neg (fun h => hsl h.1)] at hstep
    subst hstep
    all_goals refine kw_draw hmix ?_
    all_goals refine kdraw_ex ?_
    all_goals (refine zaz rfl rfl (zaa rfl) (fun _ => (mv_ref (.inl rfl) rfl)) ?_)
    all_goals (refine zaz rfl rfl (zaa rfl) (fun _ => (does_nil_ref rfl rfl)) ?_)
    all_goals (refine zaz rfl rfl (zaa rfl) (fun _ => (zag rfl tf114_0 (by decide) rfl)) ?_)
    all_goals (refine zaz rfl rfl (zaa rfl) (fun _ => (zag rfl tf24_1 (by decide) rfl)) ?_)
    all_goals (refine zaz rfl rfl (zaa rfl) (fun _ => (zam rfl ta22 rfl)) ?_)
    all_goals (refine zaz rfl rfl (zaa rfl) (fun _ => (zag rfl tf146_2 (by decide) rfl)) ?_)
    all_goals (refine zaz rfl rfl (zaa rfl) (fun _ => (zam rfl ta3 rfl)) ?_)
    all_goals (refine zaz rfl rfl (zaa rfl) (fun _ => (za1 rfl ts22 ti46 rfl rfl hy hixt rfl)) ?_)
    all_goals (refine zaz rfl rfl (zaa rfl) (fun _ => (zag rfl tf46_0 (by decide) rfl)) ?_)
    all_goals (refine zaz rfl rfl (zaa rfl) (fun _ => (zam rfl ta9 rfl)) ?_)
    all_goals refine zaz rfl rfl (zaa rfl) (fun _ => (dec_f hsl (does_eqs rfl rfl rfl))) ?_
    all_goals refine zaz rfl rfl (zaa rfl) (fun _ => (mv_s (.inl rfl) rfl)) ?_
    all_goals (refine ex_skip rfl rfl (runs_nt rfl rfl rfl) ?_)
    all_goals (refine ex_skip rfl rfl (runs_nt rfl rfl rfl) ?_)
    all_goals (refine ex_skip rfl rfl (runs_nt rfl rfl rfl) ?_)
    all_goals (refine ex_skip rfl rfl (runs_nt rfl rfl rfl) ?_)
    all_goals (refine ex_skip rfl rfl (runs_nt rfl rfl rfl) ?_)
    all_goals (refine ex_skip rfl rfl (runs_nt rfl rfl rfl) ?_)
    all_goals (refine zaz rfl rfl (zaa rfl) (fun _ => (pickF_s rfl rfl rfl)) ?_)
    all_goals refine ex_nil (by kernel_rfl) ?_
    all_goals (repeat (first | refine kw_seq ?_ | refine zak ?_ | refine kw_skip ?_ | refine zal ?_ | refine zbb ?_))
    refine kw_false rfl ?_
    repeat (first | refine kw_seq ?_ | refine zak ?_ | refine kw_skip ?_ | refine zal ?_ | refine zbb ?_)
    all_goals refine kw_region ?_
    all_goals refine za9 rfl rfl (zaa rfl) (does_add rfl rfl rfl (IntWalk.i64_in _ (by omega))) ?_
    all_goals refine za9 rfl rfl (zaa rfl) (mv_s (.inl rfl) rfl) ?_
    all_goals refine kops_nil ?_
    all_goals (repeat (first | refine kw_seq ?_ | refine zak ?_ | refine kw_skip ?_ | refine zal ?_ | refine zbb ?_))
    exact ⟨(j + 1, q1, o, cs), ⟨hB2, hlt, hE, hd, hl, by show j + 1 ≤ X.length; omega⟩, by show X.length - (j + 1) < X.length - j; omega, kwk_st [0, 1] rfl (by decide) ⟨⟨_, rfl, .rowE (rowB_lo _) rfl⟩, ⟨_, rfl, .rowE (rowI_lo _) rfl⟩, trivial⟩ ⟨.lo _ hlw, .own 0 0 1 _ _ rfl rfl, .sub 1 1 1 _ _ _ _ rfl rfl rfl, .lo _ (lo_Mvs _), .lo _ (by repeat' (first | exact Lo.s _ | exact Lo.emp | exact Lo.any | exact zap | exact zao | refine zah ?_ ?_ | refine zai ?_ ?_ | refine zaq ?_ | refine zan ?_ | refine Lo.cells ?_ | refine Lo.agg _ ?_ | refine Lo.ref _ ?_ | refine Lo.tup _ ?_ | refine Lo.fn _ _ ?_ | refine Lo.sl _ ?_ | intro _)), .lo _ (by repeat' (first | exact Lo.s _ | exact Lo.emp | exact Lo.any | exact zap | exact zao | refine zah ?_ ?_ | refine zai ?_ ?_ | refine zaq ?_ | refine zan ?_ | refine Lo.cells ?_ | refine Lo.agg _ ?_ | refine Lo.ref _ ?_ | refine Lo.tup _ ?_ | refine Lo.fn _ _ ?_ | refine Lo.sl _ ?_ | intro _)), trivial⟩⟩
theorem falseL_set (N : Nat) (h : 0 < N) : ((List.replicate N false).set 0 true).map eB = (List.replicate N (AV.s (.bool false))).set 0 (AV.s (.bool true)) := by
  rw [List.map_set, List.map_replicate]; rfl
theorem start_pf (n : Net) (s : Spc) (fin : Int) (hm : MvOk n s) (hN : s.st.length ≤ 2000) (hN1 : 1 ≤ s.st.length) (hmv : s.mv.length ≤ 20000) : Pure P 60 [.ref (wkC n s fin)] (eL eB (startE n s)) := by
  have hlw := lo_wk n s fin
  have hl0 : ((List.replicate s.st.length false).set 0 true).length = s.st.length := by simp
  have hc := close_call (P := P) n s fin hm hN hmv _ hl0
  have hlen : startE n s = closeE n s.mv ((List.replicate s.st.length false).set 0 true) := rfl
  have hcl : (startE n s).length = s.st.length := closeE_len (fun k hk => by obtain ⟨_, _, h1, h2, _⟩ := hm k hk; omega) hl0
  rw [← hlen, hl0, falseL_set _ hN1] at hc
  generalize startE n s = R at hc hcl ⊢
  have h0 : (List.replicate s.st.length (AV.s (.bool false)))[0]? = some (AV.s (.bool false)) := by rw [List.getElem?_replicate, if_pos (by omega)]
  refine aw_fn (by rw [IsP.eq (P := P)]; exact Try.func60) rfl rfl rfl rfl rfl (zah hlw zap) (zaq fun _ => .s _) (by simp only [argF]; rfl) ?_
  repeat (first | refine zaf ?_ | refine zak ?_ | refine zad ?_ | refine zal ?_ | refine zac ?_)
  refine zae ?_
  refine zab rfl rfl (zaa rfl) (mv_s (.inr rfl) rfl) ?_
  refine zaj ?_
  repeat (first | refine zaf ?_ | refine zak ?_ | refine zad ?_ | refine zal ?_ | refine zac ?_)
  refine zae ?_
  refine zab rfl rfl (zaa rfl) (mv_ref (.inl rfl) rfl) ?_
  refine zab rfl rfl (zaa rfl) (does_nil_ref rfl rfl) ?_
  refine zab rfl rfl (zaa rfl) (zag rfl tf114_1 (by decide) rfl) ?_
  refine zab rfl rfl (zaa rfl) (zag rfl tf104_0 (by decide) rfl) ?_
  refine zab rfl rfl (zaa rfl) (zam rfl ta101 rfl) ?_
  refine zab rfl rfl (zaa rfl) (za2 rfl ts101 rfl) ?_
  refine zab rfl rfl (zaa rfl) (does_make rfl ts109 ti4 rfl rfl (by decide) rfl rfl rfl rfl (by omega) (by omega) (by omega)) ?_
  refine zab rfl rfl (zaa rfl) (mv_own (.inr rfl) rfl) ?_
  refine zaj ?_
  repeat (first | refine zaf ?_ | refine zak ?_ | refine zad ?_ | refine zal ?_ | refine zac ?_)
  refine aw_bdm (d := 8) rfl (fun _ => ?_)
  refine zae ?_
  refine zab rfl rfl (zaa rfl) (mv_own (.inl rfl) rfl) ?_
  refine zab rfl rfl (zaa rfl) (does_index_own rfl ts109 ti4 rfl rfl rfl hN1) ?_
  refine ops_eff rfl (zaa rfl) (za7 rfl ti4 rfl rfl rfl h0 rfl rfl (by decide) (by decide)) ?_
  refine zaj ?_
  repeat (first | refine zaf ?_ | refine zak ?_ | refine zad ?_ | refine zal ?_ | refine zac ?_)
  all_goals refine zae ?_
  all_goals (refine zab rfl rfl (zaa rfl) (mv_ref (.inl rfl) rfl) ?_)
  all_goals (refine zab rfl rfl (zaa rfl) (mv_own (.inl rfl) rfl) ?_)
  all_goals refine ops_callR rfl rfl (zaa rfl) rfl rfl hc rfl (by repeat (first | exact hF_nil | refine hF_cons (by first | exact lo_up hlw | exact .own _ _ _ (by decide) | exact .s _ | exact .ptr _ _ _ _ (by decide) | exact lo_up (by repeat' (first | exact Lo.s _ | exact Lo.emp | exact Lo.any | exact zap | exact zao | refine zah ?_ ?_ | refine zai ?_ ?_ | refine zaq ?_ | refine zan ?_ | refine Lo.cells ?_ | refine Lo.agg _ ?_ | refine Lo.ref _ ?_ | refine Lo.tup _ ?_ | refine Lo.fn _ _ ?_ | refine Lo.sl _ ?_ | intro _))) ?_)) ?_
  all_goals (refine zab rfl rfl (zaa rfl) (mv_own (.inr rfl) rfl) ?_)
  all_goals refine zaj ?_
  all_goals (repeat (first | refine zaf ?_ | refine zak ?_ | refine zad ?_ | refine zal ?_ | refine zac ?_))
  (refine zbd ?_; repeat (first | refine ath_r ?_ | refine abl_r ?_))
  exact post1f (.inr rfl) rfl (.own _ _ _ _ _ rfl rfl (by rw [List.length_map, hcl]))
set_option maxHeartbeats 4000000 in
theorem step_pf (n : Net) (s : Spc) (fin : Int) (hm : MvOk n s) (hN : s.st.length ≤ 2000) (hmv : s.mv.length ≤ 20000) (set : List Bool) (hs : set.length = s.st.length) (act : ByteArray) : Pure P 61 [.ref (wkC n s fin), eL eB set, eS act] (eL eB (stepE n s.mv act set)) := by
  have hlw := lo_wk n s fin
  have hmr : ∀ k, k < s.mv.length → 0 ≤ (gti s.mv k).tt ∧ (gti s.mv k).tt < (s.st.length : Int) := fun k hk => by obtain ⟨_, _, h1, h2, _⟩ := hm k hk; omega
  have hl0 : (nextE n s.mv act set set.length).length = s.st.length := by rw [nextE_len, hs]
  have hc := close_call (P := P) n s fin hm hN hmv _ hl0
  have hlen : stepE n s.mv act set = closeE n s.mv (nextE n s.mv act set set.length) := rfl
  have hcl : (stepE n s.mv act set).length = s.st.length := closeE_len hmr hl0
  rw [← hlen, hl0] at hc
  generalize stepE n s.mv act set = R at hc hcl ⊢
  obtain ⟨N, hNe⟩ : ∃ N, N = s.st.length := ⟨_, rfl⟩
  rw [← hNe] at hs hcl hc hl0
  have hlB : Lo 0 (eL eB set) := zaq fun _ => .s _
  refine aw_fn (by rw [IsP.eq (P := P)]; exact Try.func61) rfl rfl rfl rfl rfl (zah hlw (zah (zaq fun _ => .s _) (zah (.s _) zap))) (zaq fun _ => .s _) (by simp only [argF]; rfl) ?_
  repeat (first | refine zaf ?_ | refine zak ?_ | refine zad ?_ | refine zal ?_ | refine zac ?_)
  refine zae ?_
  refine zab rfl rfl (zaa rfl) (mv_s (.inr rfl) rfl) ?_
  refine zaj ?_
  repeat (first | refine zaf ?_ | refine zak ?_ | refine zad ?_ | refine zal ?_ | refine zac ?_)
  refine zae ?_
  refine zab rfl rfl (zaa rfl) (mv_sl (.inl rfl) rfl) ?_
  refine zab rfl rfl (zaa rfl) (za2 rfl ts109 rfl) ?_
  refine zab rfl rfl (zaa rfl) (does_make rfl ts109 ti4 rfl rfl (by decide) rfl rfl rfl rfl (by omega) (by omega) (by omega)) ?_
  refine zab rfl rfl (zaa rfl) (mv_own (.inr rfl) rfl) ?_
  refine zaj ?_
  repeat (first | refine zaf ?_ | refine zak ?_ | refine zad ?_ | refine zal ?_ | refine zac ?_)
  refine zae ?_
  refine zab rfl rfl (zaa rfl) (mv_sl (.inl rfl) rfl) ?_
  refine zab rfl rfl (zaa rfl) (za2 rfl ts109 rfl) ?_
  refine zab rfl rfl (zaa rfl) (mv_s (.inl rfl) rfl) ?_
  refine zaj ?_
  repeat (first | refine zaf ?_ | refine zak ?_ | refine zad ?_ | refine zal ?_ | refine zac ?_)
  rw [hs]
  refine aw_loops (S := Nat) (fun k => [(0, .ref (wkC n s fin)), (2, eS act), (7, .own 0 1 N), (15, eL eB set), (16, eI N), (17, eI k)]) (fun k => [.row 1 ((nextE n s.mv act set k).map eB)]) (fun k => k ≤ N) (fun k => N - k) 0
    (wk_st [0] (by decide) ⟨⟨_, rfl, .rowE (rowB_lo _) (by unfold nextE; rw [List.map_replicate, hs]; rfl)⟩, trivial⟩ ⟨.lo _ hlw, .lo _ (by repeat' (first | exact Lo.s _ | exact Lo.emp | exact Lo.any | exact zap | exact zao | refine zah ?_ ?_ | refine zai ?_ ?_ | refine zaq ?_ | refine zan ?_ | refine Lo.cells ?_ | refine Lo.agg _ ?_ | refine Lo.ref _ ?_ | refine Lo.tup _ ?_ | refine Lo.fn _ _ ?_ | refine Lo.sl _ ?_ | intro _)), .own 0 0 1 _ _ rfl rfl, .lo _ hlB, .lo _ (by repeat' (first | exact Lo.s _ | exact Lo.emp | exact Lo.any | exact zap | exact zao | refine zah ?_ ?_ | refine zai ?_ ?_ | refine zaq ?_ | refine zan ?_ | refine Lo.cells ?_ | refine Lo.agg _ ?_ | refine Lo.ref _ ?_ | refine Lo.tup _ ?_ | refine Lo.fn _ _ ?_ | refine Lo.sl _ ?_ | intro _)), .lo _ (by repeat' (first | exact Lo.s _ | exact Lo.emp | exact Lo.any | exact zap | exact zao | refine zah ?_ ?_ | refine zai ?_ ?_ | refine zaq ?_ | refine zan ?_ | refine Lo.cells ?_ | refine Lo.agg _ ?_ | refine Lo.ref _ ?_ | refine Lo.tup _ ?_ | refine Lo.fn _ _ ?_ | refine Lo.sl _ ?_ | intro _)), trivial⟩) (Nat.zero_le _) (fun k hk => ?_)
  repeat (first | refine zaf ?_ | refine zak ?_ | refine zad ?_ | refine zal ?_ | refine zac ?_)
  all_goals refine zae ?_
  all_goals (refine ops_opP rfl rfl (zaa rfl) (does_lss rfl rfl rfl) (fun h18 => ?_) (fun h18 => ?_))
  all_goals refine zaj ?_
  all_goals (repeat (first | refine zaf ?_ | refine zak ?_ | refine zad ?_ | refine zal ?_ | refine zac ?_))
  all_goals (first | refine aw_true rfl ?_ | refine za6 rfl ?_)
  all_goals (repeat (first | refine zaf ?_ | refine zak ?_ | refine zad ?_ | refine zal ?_ | refine zac ?_))
  · have hkt : k < N := by omega
    have hel : (set.map eB)[k]? = some (eB (gti set k)) := ix_map (by omega)
    have hnx : nextE n s.mv act set (k + 1) = if gti set k = true then hitE n s.mv act (ixs s.mv k s.mv.length) (nextE n s.mv act set k) else nextE n s.mv act set k := rfl
    have hnl := nextE_len n s.mv act set k
    rw [hs] at hnl
    generalize gti set k = b at hel hnx
    refine zae ?_
    refine zab rfl rfl (zaa rfl) (mv_s (.inl rfl) rfl) ?_
    refine zab rfl rfl (zaa rfl) (za1 rfl ts109 ti4 rfl rfl rfl hel rfl) ?_
    refine zab rfl rfl (zaa rfl) (zam rfl ta4 rfl) ?_
    refine zab rfl rfl (zaa rfl) (mv_s (.inr rfl) rfl) ?_
    refine zab rfl rfl (zaa rfl) (mv_s (.inr rfl) rfl) ?_
    refine zaj ?_
    repeat (first | refine zaf ?_ | refine zak ?_ | refine zad ?_ | refine zal ?_ | refine zac ?_)
    refine zae ?_
    refine zab rfl rfl (zaa rfl) (mv_s (.inl rfl) rfl) ?_
    refine zab rfl rfl (zaa rfl) (does_not rfl rfl) ?_
    refine zaj ?_
    repeat (first | refine zaf ?_ | refine zak ?_ | refine zad ?_ | refine zal ?_ | refine zac ?_)
    cases b
    · rw [if_neg (by simp)] at hnx
      refine aw_true rfl ?_
      repeat (first | refine zaf ?_ | refine zak ?_ | refine zad ?_ | refine zal ?_ | refine zac ?_)
      (refine aw_exit ?_; repeat (first | refine ath_x ?_ | refine abl_hit ?_ | refine abl_miss rfl ?_ | refine zal ?_ | refine zak ?_ | refine zaf ?_ | refine zad ?_ | refine zac ?_))
      refine zae ?_
      refine zab rfl rfl (zaa rfl) (does_add rfl rfl rfl (IntWalk.i64_in _ (by omega))) ?_
      refine zab rfl rfl (zaa rfl) (mv_s (.inl rfl) rfl) ?_
      refine zaj ?_
      repeat (first | refine zaf ?_ | refine zak ?_ | refine zad ?_ | refine zal ?_ | refine zac ?_)
      exact ⟨k + 1, by omega, by omega, wk_st [0] (by decide) ⟨⟨_, rfl, .rowE (rowB_lo _) (by rw [hnx])⟩, trivial⟩ ⟨.lo _ hlw, .lo _ (by repeat' (first | exact Lo.s _ | exact Lo.emp | exact Lo.any | exact zap | exact zao | refine zah ?_ ?_ | refine zai ?_ ?_ | refine zaq ?_ | refine zan ?_ | refine Lo.cells ?_ | refine Lo.agg _ ?_ | refine Lo.ref _ ?_ | refine Lo.tup _ ?_ | refine Lo.fn _ _ ?_ | refine Lo.sl _ ?_ | intro _)), .own 0 0 1 _ _ rfl rfl, .lo _ hlB, .lo _ (by repeat' (first | exact Lo.s _ | exact Lo.emp | exact Lo.any | exact zap | exact zao | refine zah ?_ ?_ | refine zai ?_ ?_ | refine zaq ?_ | refine zan ?_ | refine Lo.cells ?_ | refine Lo.agg _ ?_ | refine Lo.ref _ ?_ | refine Lo.tup _ ?_ | refine Lo.fn _ _ ?_ | refine Lo.sl _ ?_ | intro _)), .lo _ (by repeat' (first | exact Lo.s _ | exact Lo.emp | exact Lo.any | exact zap | exact zao | refine zah ?_ ?_ | refine zai ?_ ?_ | refine zaq ?_ | refine zan ?_ | refine Lo.cells ?_ | refine Lo.agg _ ?_ | refine Lo.ref _ ?_ | refine Lo.tup _ ?_ | refine Lo.fn _ _ ?_ | refine Lo.sl _ ?_ | intro _)), trivial⟩⟩
    rw [if_pos rfl] at hnx
    refine za6 rfl ?_
    repeat (first | refine zaf ?_ | refine zak ?_ | refine zad ?_ | refine zal ?_ | refine zac ?_)
    have hkN : k < s.st.length := by omega
    have hXm := fun q (hq : q ∈ ixs s.mv k s.mv.length) => ixs_mem hq
    have hXl := ixs_len s.mv k s.mv.length
    refine zae ?_
    refine zab rfl rfl (zaa rfl) (mv_ref (.inl rfl) rfl) ?_
    refine zab rfl rfl (zaa rfl) (does_nil_ref rfl rfl) ?_
    refine zab rfl rfl (zaa rfl) (zag rfl tf114_2 (by decide) rfl) ?_
    refine zab rfl rfl (zaa rfl) (zam rfl ta112 rfl) ?_
    refine zab rfl rfl (zaa rfl) (mv_s (.inl rfl) rfl) ?_
    refine zab rfl rfl (zaa rfl) (za1 rfl ts112 ti102 rfl rfl rfl (outsA_get hkN) rfl) ?_
    refine zab rfl rfl (zaa rfl) (zam rfl ta102 rfl) ?_
    refine zab rfl rfl (zaa rfl) (za2 rfl ts102 rfl) ?_
    refine zab rfl rfl (zaa rfl) (mv_s (.inl rfl) rfl) ?_
    refine zaj ?_
    repeat (first | refine zaf ?_ | refine zak ?_ | refine zad ?_ | refine zal ?_ | refine zac ?_)
    have hLX : outsL s.mv k s.mv.length = (ixs s.mv k s.mv.length).map (gti s.mv) := rfl
    rw [hLX]
    generalize ixs s.mv k s.mv.length = X at hnx hXm hXl
    clear hLX
    obtain ⟨W, hWe⟩ : ∃ W, nextE n s.mv act set (k + 1) = W := ⟨_, rfl⟩
    rw [hWe] at hnx
    refine aw_loops (S := Nat × List Bool) (fun p => [(0, .ref (wkC n s fin)), (2, eS act), (7, .own 0 1 N), (15, eL eB set), (16, eI N), (17, eI k), (30, eL eMv (X.map (gti s.mv))), (31, eI (X.map (gti s.mv)).length), (32, eI p.1)]) (fun p => [.row 1 (p.2.map eB)]) (fun p => p.1 ≤ X.length ∧ p.2.length = N ∧ W = hitE n s.mv act (X.drop p.1) p.2) (fun p => X.length - p.1) (0, nextE n s.mv act set k)
      (wk_sub _ ⟨rfl, rfl, rfl, rfl, rfl, rfl, rfl, rfl, rfl, trivial⟩) ⟨Nat.zero_le _, hnl, hnx⟩ (fun p hp => ?_)
    clear hnx hnl
    obtain ⟨j, nx⟩ := p
    obtain ⟨hj, hnl, hE⟩ := hp
    replace hj : j ≤ X.length := hj
    replace hnl : nx.length = N := hnl
    replace hE : W = hitE n s.mv act (X.drop j) nx := hE
    have hLl : (X.map (gti s.mv)).length = X.length := by simp
    repeat (first | refine zaf ?_ | refine zak ?_ | refine zad ?_ | refine zal ?_ | refine zac ?_)
    all_goals refine zae ?_
    all_goals (refine ops_opP rfl rfl (zaa rfl) (does_lss rfl rfl rfl) (fun h33 => ?_) (fun h33 => ?_))
    all_goals refine zaj ?_
    all_goals (repeat (first | refine zaf ?_ | refine zak ?_ | refine zad ?_ | refine zal ?_ | refine zac ?_))
    all_goals (first | refine aw_true rfl ?_ | refine za6 rfl ?_)
    all_goals (repeat (first | refine zaf ?_ | refine zak ?_ | refine zad ?_ | refine zal ?_ | refine zac ?_))
    all_goals dsimp only at h33
    rotate_left 1
    · have e : j = X.length := by omega
      subst e
      rw [List.drop_length] at hE
      replace hE : W = nx := hE
      (refine aw_exit ?_; repeat (first | refine ath_x ?_ | refine abl_hit ?_ | refine abl_miss rfl ?_ | refine zal ?_ | refine zak ?_ | refine zaf ?_ | refine zad ?_ | refine zac ?_))
      refine zae ?_
      refine zab rfl rfl (zaa rfl) (does_add rfl rfl rfl (IntWalk.i64_in _ (by omega))) ?_
      refine zab rfl rfl (zaa rfl) (mv_s (.inl rfl) rfl) ?_
      refine zaj ?_
      repeat (first | refine zaf ?_ | refine zak ?_ | refine zad ?_ | refine zal ?_ | refine zac ?_)
      exact ⟨k + 1, by omega, by omega, wk_st [0] (by decide) ⟨⟨_, rfl, .rowE (rowB_lo _) (by rw [hWe, hE])⟩, trivial⟩ ⟨.lo _ hlw, .lo _ (by repeat' (first | exact Lo.s _ | exact Lo.emp | exact Lo.any | exact zap | exact zao | refine zah ?_ ?_ | refine zai ?_ ?_ | refine zaq ?_ | refine zan ?_ | refine Lo.cells ?_ | refine Lo.agg _ ?_ | refine Lo.ref _ ?_ | refine Lo.tup _ ?_ | refine Lo.fn _ _ ?_ | refine Lo.sl _ ?_ | intro _)), .own 0 0 1 _ _ rfl rfl, .lo _ hlB, .lo _ (by repeat' (first | exact Lo.s _ | exact Lo.emp | exact Lo.any | exact zap | exact zao | refine zah ?_ ?_ | refine zai ?_ ?_ | refine zaq ?_ | refine zan ?_ | refine Lo.cells ?_ | refine Lo.agg _ ?_ | refine Lo.ref _ ?_ | refine Lo.tup _ ?_ | refine Lo.fn _ _ ?_ | refine Lo.sl _ ?_ | intro _)), .lo _ (by repeat' (first | exact Lo.s _ | exact Lo.emp | exact Lo.any | exact zap | exact zao | refine zah ?_ ?_ | refine zai ?_ ?_ | refine zaq ?_ | refine zan ?_ | refine Lo.cells ?_ | refine Lo.agg _ ?_ | refine Lo.ref _ ?_ | refine Lo.tup _ ?_ | refine Lo.fn _ _ ?_ | refine Lo.sl _ ?_ | intro _)), trivial⟩⟩
    have hjt : j < X.length := by omega
    have hix : ((X.map (gti s.mv)).map eMv)[j]? = some (eMv (gti s.mv (gti X j))) := by rw [List.getElem?_map, List.getElem?_map, gti_get hjt]; rfl
    obtain ⟨hkN2, hkf⟩ := hXm _ (gti_mem hjt)
    rw [drop_gti hjt, show hitE n s.mv act (gti X j :: X.drop (j + 1)) nx = hitE n s.mv act (X.drop (j + 1)) (if labM n (gti s.mv (gti X j)) = act then nx.set (gti s.mv (gti X j)).tt.toNat true else nx) from rfl] at hE
    obtain ⟨_, _, ht0, ht1, hy0, hy1⟩ := hm _ hkN2
    generalize gti X j = kk at *
    generalize gti s.mv kk = m at *
    obtain ⟨w, hw⟩ : ∃ w : Nat, m.tt = (w : Int) := ⟨m.tt.toNat, by omega⟩
    have hwn : w < N := by omega
    obtain ⟨y, hy⟩ : ∃ y : Nat, m.sym = (y : Int) := ⟨m.sym.toNat, by omega⟩
    have hixt : (n.trans.map eT)[y]? = some (eT (gti n.trans y)) := ix_map (by omega)
    have hlab : labM n m = (gti n.trans y).label := by unfold labM; rw [hy, Int.toNat_natCast]
    rw [hlab, hw, Int.toNat_natCast] at hE
    have hel2 : (nx.map eB)[w]? = some (eB (gti nx w)) := ix_map (by omega)
    have hlm : Lo 0 (.ref (eMv m).cells) := .ref _ (lo_Mv m).cells
    generalize gti n.trans y = t at *
    refine zae ?_
    refine zab rfl rfl (zaa rfl) (za1 rfl ts102 ti146 rfl rfl rfl hix rfl) ?_
    refine zab rfl rfl (zaa rfl) (zas rfl ta146 ti146 rfl rfl) ?_
    refine zab rfl rfl (zaa rfl) (does_alloc rfl ti146 rfl rfl) ?_
    refine ops_eff rfl (zaa rfl) (za7 rfl ti146 rfl rfl rfl rfl rfl rfl (by decide) (by decide)) ?_
    refine zaj ?_
    repeat (first | refine zaf ?_ | refine zak ?_ | refine zad ?_ | refine zal ?_ | refine zac ?_)
    refine aw_weak (wk_froz (id := 1) rfl) ?_
    refine aw_weak (wk_ref (d := 11) rfl rfl rfl) ?_
    by_cases hsl : t.label = act
    · rw [if_pos hsl] at hE
      have hset : (nx.set w true).map eB = (nx.map eB).set w (eB true) := List.map_set
      refine aw_draw hmix ?_
      refine adraw_quiet (by kernel_rfl) ?_
      refine zba rfl rfl (zaa rfl) (mv_ref (.inl rfl) rfl) ?_
      refine zba rfl rfl (zaa rfl) (does_nil_ref rfl rfl) ?_
      refine zba rfl rfl (zaa rfl) (zag rfl tf114_0 (by decide) rfl) ?_
      refine zba rfl rfl (zaa rfl) (zag rfl tf24_1 (by decide) rfl) ?_
      refine zba rfl rfl (zaa rfl) (zam rfl ta22 rfl) ?_
      refine zba rfl rfl (zaa rfl) (zag rfl tf146_2 (by decide) rfl) ?_
      refine zba rfl rfl (zaa rfl) (zam rfl ta3 rfl) ?_
      refine zba rfl rfl (zaa rfl) (za1 rfl ts22 ti46 rfl rfl hy hixt rfl) ?_
      refine zba rfl rfl (zaa rfl) (zag rfl tf46_0 (by decide) rfl) ?_
      refine zba rfl rfl (zaa rfl) (zam rfl ta9 rfl) ?_
      refine zba rfl rfl (zaa rfl) (mv_s (.inl rfl) rfl) ?_
      refine zba rfl rfl (zaa rfl) (dec_t hsl (does_eqs rfl rfl rfl)) ?_
      refine qx_nil ?_
      repeat (first | refine zaf ?_ | refine zak ?_ | refine zad ?_ | refine zal ?_ | refine zac ?_)
      refine aw_true rfl ?_
      repeat (first | refine zaf ?_ | refine zak ?_ | refine zad ?_ | refine zal ?_ | refine zac ?_)
      refine zae ?_
      refine zab rfl rfl (zaa rfl) (mv_own (.inl rfl) rfl) ?_
      refine zab rfl rfl (zaa rfl) (zag rfl tf146_1 (by decide) rfl) ?_
      refine zab rfl rfl (zaa rfl) (zam rfl ta3 rfl) ?_
      refine zab rfl rfl (zaa rfl) (does_index_own rfl ts109 ti4 rfl rfl hw hwn) ?_
      refine ops_eff rfl (zaa rfl) (za7 rfl ti4 rfl rfl rfl hel2 rfl rfl (by decide) (by decide)) ?_
      refine zaj ?_
      repeat (first | refine zaf ?_ | refine zak ?_ | refine zad ?_ | refine zal ?_ | refine zac ?_)
      refine zae ?_
      refine zab rfl rfl (zaa rfl) (does_add rfl rfl rfl (IntWalk.i64_in _ (by omega))) ?_
      refine zab rfl rfl (zaa rfl) (mv_s (.inl rfl) rfl) ?_
      refine zaj ?_
      repeat (first | refine zaf ?_ | refine zak ?_ | refine zad ?_ | refine zal ?_ | refine zac ?_)
      exact ⟨(j + 1, nx.set w true), ⟨by show j + 1 ≤ X.length; omega, by simp [hnl], hE⟩, by show X.length - (j + 1) < X.length - j; omega, wk_st [0] (by decide) ⟨⟨_, rfl, .rowE (rowB_lo _) hset.symm⟩, trivial⟩ ⟨.lo _ hlw, .lo _ (by repeat' (first | exact Lo.s _ | exact Lo.emp | exact Lo.any | exact zap | exact zao | refine zah ?_ ?_ | refine zai ?_ ?_ | refine zaq ?_ | refine zan ?_ | refine Lo.cells ?_ | refine Lo.agg _ ?_ | refine Lo.ref _ ?_ | refine Lo.tup _ ?_ | refine Lo.fn _ _ ?_ | refine Lo.sl _ ?_ | intro _)), .own 0 0 1 _ _ rfl rfl, .lo _ hlB, .lo _ (by repeat' (first | exact Lo.s _ | exact Lo.emp | exact Lo.any | exact zap | exact zao | refine zah ?_ ?_ | refine zai ?_ ?_ | refine zaq ?_ | refine zan ?_ | refine Lo.cells ?_ | refine Lo.agg _ ?_ | refine Lo.ref _ ?_ | refine Lo.tup _ ?_ | refine Lo.fn _ _ ?_ | refine Lo.sl _ ?_ | intro _)), .lo _ (by repeat' (first | exact Lo.s _ | exact Lo.emp | exact Lo.any | exact zap | exact zao | refine zah ?_ ?_ | refine zai ?_ ?_ | refine zaq ?_ | refine zan ?_ | refine Lo.cells ?_ | refine Lo.agg _ ?_ | refine Lo.ref _ ?_ | refine Lo.tup _ ?_ | refine Lo.fn _ _ ?_ | refine Lo.sl _ ?_ | intro _)), .lo _ (lo_Mvs _), .lo _ (by repeat' (first | exact Lo.s _ | exact Lo.emp | exact Lo.any | exact zap | exact zao | refine zah ?_ ?_ | refine zai ?_ ?_ | refine zaq ?_ | refine zan ?_ | refine Lo.cells ?_ | refine Lo.agg _ ?_ | refine Lo.ref _ ?_ | refine Lo.tup _ ?_ | refine Lo.fn _ _ ?_ | refine Lo.sl _ ?_ | intro _)), .lo _ (by repeat' (first | exact Lo.s _ | exact Lo.emp | exact Lo.any | exact zap | exact zao | refine zah ?_ ?_ | refine zai ?_ ?_ | refine zaq ?_ | refine zan ?_ | refine Lo.cells ?_ | refine Lo.agg _ ?_ | refine Lo.ref _ ?_ | refine Lo.tup _ ?_ | refine Lo.fn _ _ ?_ | refine Lo.sl _ ?_ | intro _)), trivial⟩⟩
    · rw [if_neg hsl] at hE
      refine aw_draw hmix ?_
      refine adraw_quiet (by kernel_rfl) ?_
      refine zba rfl rfl (zaa rfl) (mv_ref (.inl rfl) rfl) ?_
      refine zba rfl rfl (zaa rfl) (does_nil_ref rfl rfl) ?_
      refine zba rfl rfl (zaa rfl) (zag rfl tf114_0 (by decide) rfl) ?_
      refine zba rfl rfl (zaa rfl) (zag rfl tf24_1 (by decide) rfl) ?_
      refine zba rfl rfl (zaa rfl) (zam rfl ta22 rfl) ?_
      refine zba rfl rfl (zaa rfl) (zag rfl tf146_2 (by decide) rfl) ?_
      refine zba rfl rfl (zaa rfl) (zam rfl ta3 rfl) ?_
      refine zba rfl rfl (zaa rfl) (za1 rfl ts22 ti46 rfl rfl hy hixt rfl) ?_
      refine zba rfl rfl (zaa rfl) (zag rfl tf46_0 (by decide) rfl) ?_
      refine zba rfl rfl (zaa rfl) (zam rfl ta9 rfl) ?_
      refine zba rfl rfl (zaa rfl) (mv_s (.inl rfl) rfl) ?_
      refine zba rfl rfl (zaa rfl) (dec_f hsl (does_eqs rfl rfl rfl)) ?_
      refine qx_nil ?_
      repeat (first | refine zaf ?_ | refine zak ?_ | refine zad ?_ | refine zal ?_ | refine zac ?_)
      refine za6 rfl ?_
      repeat (first | refine zaf ?_ | refine zak ?_ | refine zad ?_ | refine zal ?_ | refine zac ?_)
      refine zae ?_
      refine zab rfl rfl (zaa rfl) (does_add rfl rfl rfl (IntWalk.i64_in _ (by omega))) ?_
      refine zab rfl rfl (zaa rfl) (mv_s (.inl rfl) rfl) ?_
      refine zaj ?_
      repeat (first | refine zaf ?_ | refine zak ?_ | refine zad ?_ | refine zal ?_ | refine zac ?_)
      exact ⟨(j + 1, nx), ⟨by show j + 1 ≤ X.length; omega, hnl, hE⟩, by show X.length - (j + 1) < X.length - j; omega, wk_st [0] (by decide) ⟨⟨_, rfl, .rowE (rowB_lo _) rfl⟩, trivial⟩ ⟨.lo _ hlw, .lo _ (by repeat' (first | exact Lo.s _ | exact Lo.emp | exact Lo.any | exact zap | exact zao | refine zah ?_ ?_ | refine zai ?_ ?_ | refine zaq ?_ | refine zan ?_ | refine Lo.cells ?_ | refine Lo.agg _ ?_ | refine Lo.ref _ ?_ | refine Lo.tup _ ?_ | refine Lo.fn _ _ ?_ | refine Lo.sl _ ?_ | intro _)), .own 0 0 1 _ _ rfl rfl, .lo _ hlB, .lo _ (by repeat' (first | exact Lo.s _ | exact Lo.emp | exact Lo.any | exact zap | exact zao | refine zah ?_ ?_ | refine zai ?_ ?_ | refine zaq ?_ | refine zan ?_ | refine Lo.cells ?_ | refine Lo.agg _ ?_ | refine Lo.ref _ ?_ | refine Lo.tup _ ?_ | refine Lo.fn _ _ ?_ | refine Lo.sl _ ?_ | intro _)), .lo _ (by repeat' (first | exact Lo.s _ | exact Lo.emp | exact Lo.any | exact zap | exact zao | refine zah ?_ ?_ | refine zai ?_ ?_ | refine zaq ?_ | refine zan ?_ | refine Lo.cells ?_ | refine Lo.agg _ ?_ | refine Lo.ref _ ?_ | refine Lo.tup _ ?_ | refine Lo.fn _ _ ?_ | refine Lo.sl _ ?_ | intro _)), .lo _ (lo_Mvs _), .lo _ (by repeat' (first | exact Lo.s _ | exact Lo.emp | exact Lo.any | exact zap | exact zao | refine zah ?_ ?_ | refine zai ?_ ?_ | refine zaq ?_ | refine zan ?_ | refine Lo.cells ?_ | refine Lo.agg _ ?_ | refine Lo.ref _ ?_ | refine Lo.tup _ ?_ | refine Lo.fn _ _ ?_ | refine Lo.sl _ ?_ | intro _)), .lo _ (by repeat' (first | exact Lo.s _ | exact Lo.emp | exact Lo.any | exact zap | exact zao | refine zah ?_ ?_ | refine zai ?_ ?_ | refine zaq ?_ | refine zan ?_ | refine Lo.cells ?_ | refine Lo.agg _ ?_ | refine Lo.ref _ ?_ | refine Lo.tup _ ?_ | refine Lo.fn _ _ ?_ | refine Lo.sl _ ?_ | intro _)), trivial⟩⟩
  · have e : k = N := by omega
    subst e
    (refine aw_exit ?_; repeat (first | refine ath_x ?_ | refine abl_hit ?_ | refine abl_miss rfl ?_ | refine zal ?_ | refine zak ?_ | refine zaf ?_ | refine zad ?_ | refine zac ?_))
    rw [hs] at hc
    refine aw_weak (F' := [(0, .ref (wkC n s fin)), (7, .own 0 1 k)]) (σ' := [.row 1 ((nextE n s.mv act set k).map eB)]) (wk_st [0] (by decide) ⟨⟨_, rfl, .rowE (rowB_lo _) rfl⟩, trivial⟩ ⟨.lo _ hlw, .own 0 0 1 _ _ rfl rfl, trivial⟩) ?_
    all_goals refine zae ?_
    all_goals (refine zab rfl rfl (zaa rfl) (mv_ref (.inl rfl) rfl) ?_)
    all_goals (refine zab rfl rfl (zaa rfl) (mv_own (.inl rfl) rfl) ?_)
    all_goals refine ops_callR rfl rfl (zaa rfl) rfl rfl hc rfl (by repeat (first | exact hF_nil | refine hF_cons (by first | exact lo_up hlw | exact .own _ _ _ (by decide) | exact .s _) ?_)) ?_
    all_goals (refine zab rfl rfl (zaa rfl) (mv_own (.inr rfl) rfl) ?_)
    all_goals refine zaj ?_
    all_goals (repeat (first | refine zaf ?_ | refine zak ?_ | refine zad ?_ | refine zal ?_ | refine zac ?_))
    (refine zbd ?_; repeat (first | refine ath_r ?_ | refine abl_r ?_))
    exact post1f (.inr rfl) rfl (.own _ _ _ _ _ rfl rfl (by rw [List.length_map, hcl]))
end Go.Proofs.Ytmhbfoaecebobaa.Aw
end
section
namespace Go.Proofs.Ytmhbfoaecebobaa.Aw
set_option linter.unusedSimpArgs false
set_option linter.unusedVariables false
set_option linter.unusedSectionVars false
open Go Go.RowKit Go.Proofs
variable {P : Program} [IsP P]
def wkO (n : Net) (s : Spc) : AV := .agg [eI n.places, eL eT n.trans, eI n.source, eI n.sink, eL (eL eI) s.st, eL eMv s.mv, eB s.full, .own 1 1 s.st.length, eI (-1)]
def wkF (n : Net) (s : Spc) : AV := .agg [eI n.places, eL eT n.trans, eI n.source, eI n.sink, eL (eL eI) s.st, eL eMv s.mv, eB s.full, eL (eL eMv) (outsA s.mv s.st.length), eI (-1)]
theorem wkO_ren (n : Net) (s : Spc) {K i : Nat} (h1 : 1 < K) (h2 : 1 ≠ i) : ∀ a ∈ [Ob.row 9 [wkO n s]], ObR2 (mv K i) a a := by
  intro a ha
  simp at ha; subst ha
  exact .of _ _ (obRn_agg (.cons (.lo _ (.s _)) (.cons (.lo _ (zaq fun t => lo_T t)) (.cons (.lo _ (.s _)) (.cons (.lo _ (.s _)) (.cons (.lo _ (lo_II _)) (.cons (.lo _ (lo_Mvs _)) (.cons (.lo _ (.s _)) (.cons (.own _ _ _ _ _ (mv_ne h1 h2) rfl) (.cons (.lo _ (.s _)) .nil))))))))))
theorem wkO_lo (n : Net) (s : Spc) : ∀ ob ∈ [Ob.row 9 [wkO n s]], ∀ k, 2 ≤ k → LoOb k ob := by
  intro ob hob k hk
  simp at hob; subst hob
  intro e he c hc
  simp at he; subst he
  simp only [wkO, AV.cells, List.mem_cons, List.not_mem_nil, or_false] at hc
  rcases hc with rfl | rfl | rfl | rfl | rfl | rfl | rfl | rfl | rfl
  · exact .s _
  · exact lo_up (zaq fun t => lo_T t)
  · exact .s _
  · exact .s _
  · exact lo_up (lo_II _)
  · exact lo_up (lo_Mvs _)
  · exact .s _
  · exact .own _ _ _ (by omega)
  · exact .s _
def finE (n : Net) (s : Spc) : Int := findI s.st (oneE n n.sink).1
set_option maxHeartbeats 8000000 in
theorem walk_pf (n : Net) (s : Spc) (hv : zbc n = true) (hm : MvOk n s) (hN : s.st.length ≤ 2000) (hmv : s.mv.length ≤ 20000) : Pure P 59 [eN n, eSpc s] (.ref (wkC n s (finE n s))) := by
  have hfin := final_pf (P := P) n
  have hfe : (oneE n n.sink).2 = 0 := by unfold oneE; rw [if_pos hv]
  have hff : finE n s = findI s.st (oneE n n.sink).1 := rfl
  have hlF := lo_wk n s (finE n s)
  generalize finE n s = fin at hff hlF ⊢
  generalize oneE n n.sink = o at hfin hfe hff
  have hfind := find_pf (P := P) s o.1
  rw [← hff] at hfind
  have hls : Lo 0 (.ref (eSpc s).cells) := .ref _ (lo_Spc s).cells
  have hln : Lo 0 (.ref (eN n).cells) := .ref _ (lo_N n).cells
  refine aw_fn (by rw [IsP.eq (P := P)]; exact Try.func59) rfl rfl rfl rfl rfl (zah (lo_N n) (zah (lo_Spc s) zap)) hlF (by simp only [argF]; rfl) ?_
  repeat (first | refine zaf ?_ | refine zak ?_ | refine zad ?_ | refine zal ?_ | refine zac ?_)
  refine zae ?_
  refine zab rfl rfl (zaa rfl) (does_box rfl rfl rfl rfl) ?_
  refine za5 (wk_froz (id := 0) rfl) (za5 (wk_ref (d := 2) rfl rfl rfl) ?_)
  refine zab rfl rfl (zaa rfl) (does_box rfl rfl rfl rfl) ?_
  refine za5 (wk_froz (id := 1) rfl) (za5 (wk_ref (d := 3) rfl rfl rfl) ?_)
  refine zab rfl rfl (zaa rfl) (mv_s (.inr rfl) rfl) ?_
  refine zaj ?_
  repeat (first | refine zaf ?_ | refine zak ?_ | refine zad ?_ | refine zal ?_ | refine zac ?_)
  all_goals refine aw_draw hmix ?_
  all_goals refine adraw_ex ?_
  all_goals (refine zaz rfl rfl (zaa rfl) (fun _ => (zas rfl ta24 ti24 rfl rfl)) ?_)
  all_goals (refine zaz rfl rfl (zaa rfl) (fun _ => (zas rfl ta104 ti104 rfl rfl)) ?_)
  all_goals (refine zaz rfl rfl (zaa rfl) (fun _ => (zag rfl tf104_0 (by decide) rfl)) ?_)
  all_goals (refine zaz rfl rfl (zaa rfl) (fun _ => (zam rfl ta101 rfl)) ?_)
  all_goals (refine zaz rfl rfl (zaa rfl) (fun _ => (za2 rfl ts101 rfl)) ?_)
  all_goals refine ex_eff rfl rfl (zaa rfl) (does_make rfl ts112 ti102 rfl rfl (by decide) rfl rfl rfl rfl (by omega) (by omega) (by omega)) (fun _ h => app_other h) ?_
  all_goals refine zaz rfl rfl (zaa rfl) (fun _ => (does_build rfl ti114 tp114 rfl rfl)) ?_
  all_goals refine ex_eff rfl rfl (zaa rfl) (does_box rfl rfl rfl rfl) (fun _ h => app_other h) ?_
  all_goals (refine zaz rfl rfl (zaa rfl) (fun _ => (mv_ptr (.inr rfl) rfl)) ?_)
  all_goals refine ex_nil (by kernel_rfl) ?_
  all_goals (repeat (first | refine zaf ?_ | refine zak ?_ | refine zad ?_ | refine zal ?_ | refine zac ?_))
  refine aw_weak (F' := [(2, .ref (eN n).cells), (3, .ref (eSpc s).cells), (5, .ptr 0 9 0 0)]) (σ' := [.row 9 [wkO n s], .row 1 (List.replicate s.st.length (.s (.slice none 0 0)))]) (wk_st [3, 2] (by decide) ⟨⟨_, rfl, obRn_agg (.cons (.lo _ (.s _)) (.cons (.lo _ (zaq fun t => lo_T t)) (.cons (.lo _ (.s _)) (.cons (.lo _ (.s _)) (.cons (.lo _ (lo_II _)) (.cons (.lo _ (lo_Mvs _)) (.cons (.lo _ (.s _)) (.cons (.own _ _ _ _ _ rfl rfl) (.cons (.lo _ (.s _)) .nil)))))))))⟩, ⟨_, rfl, .rowE (lo_nils _) rfl⟩, trivial⟩ ⟨.lo _ hln, .lo _ hls, .ptr 3 0 9 0 0 rfl, trivial⟩) ?_
  refine aw_weak (wk_nils (id := 1) (sz := 1) (sz2 := 3) (n := s.st.length) rfl) ?_
  have hst0 : stoN [.row 9 [wkO n s]] 3 (rowsO s.mv s.st.length 0) = [.row 9 [wkO n s], .row 1 (ownR 2 3 (List.replicate s.st.length []))] ++ obsR 3 (List.replicate s.st.length []) := by rw [rowsO_0]; rfl
  obtain ⟨N, hNe⟩ : ∃ N, N = s.st.length := ⟨_, rfl⟩
  refine zae ?_
  refine zab rfl rfl (zaa rfl) (zag rfl tf104_1 (by decide) rfl) ?_
  refine zab rfl rfl (zaa rfl) (zam rfl ta102 rfl) ?_
  refine zab rfl rfl (zaa rfl) (za2 rfl ts102 rfl) ?_
  refine zab rfl rfl (zaa rfl) (mv_s (.inl rfl) rfl) ?_
  refine zaj ?_
  repeat (first | refine zaf ?_ | refine zak ?_ | refine zad ?_ | refine zal ?_ | refine zac ?_)
  refine aw_loops (S := Nat) (fun i => [(2, .ref (eN n).cells), (3, .ref (eSpc s).cells), (5, .ptr 0 9 0 0), (19, eL eMv s.mv), (20, eI s.mv.length), (21, eI i)]) (fun i => stoN [.row 9 [wkO n s]] 3 (rowsO s.mv s.st.length i)) (fun i => i ≤ s.mv.length) (fun i => s.mv.length - i) 0 (by rw [hst0]; exact wk_sub _ ⟨rfl, rfl, rfl, rfl, rfl, rfl, trivial⟩) (Nat.zero_le _) (fun i hi => ?_)
  repeat (first | refine zaf ?_ | refine zak ?_ | refine zad ?_ | refine zal ?_ | refine zac ?_)
  all_goals refine zae ?_
  all_goals (refine ops_opP rfl rfl (zaa rfl) (does_lss rfl rfl rfl) (fun h22 => ?_) (fun h22 => ?_))
  all_goals refine zaj ?_
  all_goals (repeat (first | refine zaf ?_ | refine zak ?_ | refine zad ?_ | refine zal ?_ | refine zac ?_))
  all_goals (first | refine aw_true rfl ?_ | refine za6 rfl ?_)
  all_goals (repeat (first | refine zaf ?_ | refine zak ?_ | refine zad ?_ | refine zal ?_ | refine zac ?_))
  · have hlt : i < s.mv.length := by omega
    have hix : (s.mv.map eMv)[i]? = some (eMv (gti s.mv i)) := ix_map hlt
    obtain ⟨r1, r2, r3, r4, _, _⟩ := hm i hlt
    have hK : (stoN [.row 9 [wkO n s]] 3 (rowsO s.mv s.st.length i)).length = s.st.length + 2 := by rw [stoN_len, rowsO_len]; rfl
    obtain ⟨v, hv⟩ : ∃ v : Nat, (gti s.mv i).fr = v := ⟨(gti s.mv i).fr.toNat, by omega⟩
    have hvn : v < s.st.length := by omega
    have hrow := rowsO_get (mvs := s.mv) (i := i) hvn
    have hol := outsL_len s.mv (v : Int) i
    have hol2 : ((outsL s.mv (v : Int) i).map eMv).length = (outsL s.mv (v : Int) i).length := by simp
    have hstep := rowsO_step hvn hv
    have hren := stoN_ren (A := [.row 9 [wkO n s]]) (sz := 3) (x := eMv (gti s.mv i)) (K := (stoN [.row 9 [wkO n s]] 3 (rowsO s.mv s.st.length i)).length) (wkO_ren n s (by rw [hK]; omega) (by simp)) hrow (by rw [stoN_len]) (rowsO_lo _ _ _) (lo_Mv _).cells
    rw [← hstep] at hren
    have hlm : Lo 0 (.ref (eMv (gti s.mv i)).cells) := .ref _ (lo_Mv _).cells
    have hlo := stoN_loOb (A := [.row 9 [wkO n s]]) (sz := 3) (fun ob h => wkO_lo n s ob h 2 (Nat.le_refl _)) (rowsO_lo s.mv s.st.length i) (wkO_lo n s)
    generalize gti s.mv i = m at *
    all_goals refine zae ?_
    all_goals (refine zab rfl rfl (zaa rfl) (za1 rfl ts102 ti146 rfl rfl rfl hix rfl) ?_)
    all_goals (refine zab rfl rfl (zaa rfl) (zas rfl ta146 ti146 rfl rfl) ?_)
    all_goals refine zab rfl rfl (zaa rfl) (does_alloc rfl ti146 rfl rfl) ?_
    all_goals refine ops_eff rfl (zaa rfl) (za7 rfl ti146 rfl rfl (last_get _ _) rfl rfl rfl (by decide) (by decide)) ?_
    all_goals refine zaj ?_
    all_goals (repeat (first | refine zaf ?_ | refine zak ?_ | refine zad ?_ | refine zal ?_ | refine zac ?_))
    rw [set_last]
    refine aw_weak ((kwk_last (d := 7) rfl).trans (kwk_cut (F' := [(2, .ref (eN n).cells), (3, .ref (eSpc s).cells), (5, .ptr 0 9 0 0), (7, .ref (eMv m).cells), (19, eL eMv s.mv), (20, eI s.mv.length), (21, eI i)]) (by rw [hK]; omega) hlo ⟨⟨rfl, lo_up hln⟩, ⟨rfl, lo_up hls⟩, ⟨rfl, .ptr _ _ _ _ (by rw [hK]; omega)⟩, ⟨rfl, lo_up hlm⟩, ⟨rfl, lo_up (lo_Mvs _)⟩, ⟨rfl, lo_up (by repeat' (first | exact Lo.s _ | exact Lo.emp | exact Lo.any | exact zap | exact zao | refine zah ?_ ?_ | refine zai ?_ ?_ | refine zaq ?_ | refine zan ?_ | refine Lo.cells ?_ | refine Lo.agg _ ?_ | refine Lo.ref _ ?_ | refine Lo.tup _ ?_ | refine Lo.fn _ _ ?_ | refine Lo.sl _ ?_ | intro _))⟩, ⟨rfl, lo_up (by repeat' (first | exact Lo.s _ | exact Lo.emp | exact Lo.any | exact zap | exact zao | refine zah ?_ ?_ | refine zai ?_ ?_ | refine zaq ?_ | refine zan ?_ | refine Lo.cells ?_ | refine Lo.agg _ ?_ | refine Lo.ref _ ?_ | refine Lo.tup _ ?_ | refine Lo.fn _ _ ?_ | refine Lo.sl _ ?_ | intro _))⟩, trivial⟩)).weak ?_
    all_goals refine aw_draw hmix ?_
    all_goals refine adraw_ex ?_
    all_goals (refine zaz rfl rfl (zaa rfl) (fun _ => (mv_ptr (.inl rfl) rfl)) ?_)
    all_goals (refine zaz rfl rfl (zaa rfl) (fun _ => (does_nil_ptr rfl rfl)) ?_)
    all_goals (refine zaz rfl rfl (zaa rfl) (fun _ => (zat rfl tf114_2 (by decide) rfl)) ?_)
    all_goals (refine ex_look rfl rfl (zaa rfl) (look_ptr rfl ta112 rfl rfl rfl rfl rfl) ?_)
    all_goals (refine zaz rfl rfl (zaa rfl) (fun _ => (zag rfl tf146_0 (by decide) rfl)) ?_)
    all_goals (refine zaz rfl rfl (zaa rfl) (fun _ => (zam rfl ta3 rfl)) ?_)
    all_goals (refine zaz rfl rfl (zaa rfl) (fun _ => (mv_ptr (.inl rfl) rfl)) ?_)
    all_goals (refine zaz rfl rfl (zaa rfl) (fun _ => (does_nil_ptr rfl rfl)) ?_)
    all_goals (refine zaz rfl rfl (zaa rfl) (fun _ => (zat rfl tf114_2 (by decide) rfl)) ?_)
    all_goals (refine ex_look rfl rfl (zaa rfl) (look_ptr rfl ta112 rfl rfl rfl rfl rfl) ?_)
    all_goals (refine zaz rfl rfl (zaa rfl) (fun _ => (zag rfl tf146_0 (by decide) rfl)) ?_)
    all_goals (refine zaz rfl rfl (zaa rfl) (fun _ => (zam rfl ta3 rfl)) ?_)
    all_goals (refine zaz rfl rfl (zaa rfl) (fun _ => (does_index_own rfl ts112 ti102 rfl rfl hv hvn)) ?_)
    all_goals (refine ex_look rfl rfl (zaa rfl) (look_ptr rfl ta102 rfl rfl rfl (ownR_get hrow) rfl) ?_)
    all_goals (refine zaz rfl rfl (zaa rfl) (fun _ => (zas rfl ta146 ti146 rfl rfl)) ?_)
    all_goals (refine zaz rfl rfl (zaa rfl) (fun _ => (does_litAF rfl ts102 ti146 rfl rfl (by decide) (by decide) rfl rfl rfl (by repeat' (first | exact Lo.s _ | exact Lo.emp | exact Lo.any | exact zap | exact zao | refine zah ?_ ?_ | refine zai ?_ ?_ | refine zaq ?_ | refine zan ?_ | refine Lo.cells ?_ | refine Lo.agg _ ?_ | refine Lo.ref _ ?_ | refine Lo.tup _ ?_ | refine Lo.fn _ _ ?_ | refine Lo.sl _ ?_ | intro _)))) ?_)
    all_goals refine ex_eff rfl rfl (zaa rfl) (does_append rfl ts102 ti146 rfl (by decide) rfl (stoN_row hrow) rfl rfl (by first | exact .own _ _ _ rfl rfl _ (by first | rfl | simp) | exact .emp | exact .nil | exact .sl _ (by first | simp; done | intro e he; simp at he; obtain ⟨_, _, rfl⟩ := he; rfl)) (by first | omega | (simp; omega) | (unfold maxLen; simp; omega)) (by first | omega | (simp; omega) | (unfold maxLen; simp; omega))) (fun _ h => app2_other h) ?_
    all_goals (refine zaz rfl rfl (zaa rfl) (fun _ => (does_index_own rfl ts112 ti102 rfl rfl hv hvn)) ?_)
    all_goals refine ex_eff0 rfl (zaa rfl) (za7 rfl ti102 rfl rfl rfl (ownR_get hrow) rfl rfl (by decide) (by decide)) (fun _ h => set_other h) ?_
    all_goals refine ex_nil (by kernel_rfl) ?_
    all_goals (repeat (first | refine zaf ?_ | refine zak ?_ | refine zad ?_ | refine zal ?_ | refine zac ?_))
    refine zae ?_
    refine zab rfl rfl (zaa rfl) (does_add rfl rfl rfl (IntWalk.i64_in _ (by omega))) ?_
    refine zab rfl rfl (zaa rfl) (mv_s (.inl rfl) rfl) ?_
    refine zaj ?_
    repeat (first | refine zaf ?_ | refine zak ?_ | refine zad ?_ | refine zal ?_ | refine zac ?_)
    exact ⟨i + 1, by omega, by omega, wk_ren2 (mv _ (v + 2)) (mv_nd _ _) hren ⟨.lo _ hln, .lo _ hls, .ptr 0 0 9 0 0 (mv_ne (by omega) (by omega)), .lo _ (lo_Mvs _), .lo _ (by repeat' (first | exact Lo.s _ | exact Lo.emp | exact Lo.any | exact zap | exact zao | refine zah ?_ ?_ | refine zai ?_ ?_ | refine zaq ?_ | refine zan ?_ | refine Lo.cells ?_ | refine Lo.agg _ ?_ | refine Lo.ref _ ?_ | refine Lo.tup _ ?_ | refine Lo.fn _ _ ?_ | refine Lo.sl _ ?_ | intro _)), .lo _ (by repeat' (first | exact Lo.s _ | exact Lo.emp | exact Lo.any | exact zap | exact zao | refine zah ?_ ?_ | refine zai ?_ ?_ | refine zaq ?_ | refine zan ?_ | refine Lo.cells ?_ | refine Lo.agg _ ?_ | refine Lo.ref _ ?_ | refine Lo.tup _ ?_ | refine Lo.fn _ _ ?_ | refine Lo.sl _ ?_ | intro _)), trivial⟩⟩
  have e : i = s.mv.length := by omega
  subst e
  (refine aw_exit ?_; repeat (first | refine ath_x ?_ | refine abl_hit ?_ | refine abl_miss rfl ?_ | refine zal ?_ | refine zak ?_ | refine zaf ?_ | refine zad ?_ | refine zac ?_))
  have hcl : ((outsA s.mv s.st.length).map (eL eMv)).length = s.st.length := by simp [outsA]
  refine aw_fzs (id := 1) (S := [.row 9 [wkO n s], .row 1 (ownR 2 3 (rowsO s.mv s.st.length s.mv.length))]) (sz := 1) (sz2 := 3) (rows := rowsO s.mv s.st.length s.mv.length) rfl (fun X => ?_)
  rw [outsA_sl]
  refine aw_weak (kwk_fzC (id := 0) (sz := 9) (i := 1) (sz2 := 1) (e := wkO n s) (e' := wkF n s) (pre := [eI n.places, eL eT n.trans, eI n.source, eI n.sink, eL (eL eI) s.st, eL eMv s.mv, eB s.full]) (post := [eI (-1)]) (cs2 := (outsA s.mv s.st.length).map (eL eMv)) rfl (by rw [hcl]; rfl) rfl (by decide) rfl).weak ?_
  refine aw_weak (F' := [(2, .ref (eN n).cells), (3, .ref (eSpc s).cells), (5, .ptr 0 9 0 0)]) (σ' := [.row 9 [wkF n s]]) (wk_st [0] (by decide) ⟨⟨_, rfl, .rowE (by
    intro e he c hc
    simp at he; subst he
    simp only [wkF, AV.cells, List.mem_cons, List.not_mem_nil, or_false] at hc
    rcases hc with rfl | rfl | rfl | rfl | rfl | rfl | rfl | rfl | rfl
    all_goals first | exact .s _ | exact lo_II _ | exact lo_Mvs _ | exact lo_MvL _ | exact zaq fun t => lo_T t) rfl⟩, trivial⟩ ⟨.lo _ hln, .lo _ hls, .ptr 0 0 9 0 0 rfl, trivial⟩) ?_
  refine zae ?_
  refine zab rfl rfl (zaa rfl) (zas rfl ta24 ti24 rfl rfl) ?_
  refine zab rfl rfl (zaa rfl) (zav rfl rfl (hfin) (zar rfl za0)) ?_
  refine zab rfl rfl (zaa rfl) (mv_tup (.inl rfl) rfl) ?_
  refine zab rfl rfl (zaa rfl) (zay rfl rfl rfl) ?_
  refine zab rfl rfl (zaa rfl) (zay rfl rfl rfl) ?_
  refine zab rfl rfl (zaa rfl) (mv_sl (.inr rfl) rfl) ?_
  refine zab rfl rfl (zaa rfl) (mv_s (.inr rfl) rfl) ?_
  refine zaj ?_
  repeat (first | refine zaf ?_ | refine zak ?_ | refine zad ?_ | refine zal ?_ | refine zac ?_)
  refine zae ?_
  refine zab rfl rfl (zaa rfl) (mv_s (.inl rfl) rfl) ?_
  refine zab rfl rfl (zaa rfl) (dec_t hfe (does_eql rfl rfl rfl)) ?_
  refine zaj ?_
  repeat (first | refine zaf ?_ | refine zak ?_ | refine zad ?_ | refine zal ?_ | refine zac ?_)
  refine aw_true rfl ?_
  repeat (first | refine zaf ?_ | refine zak ?_ | refine zad ?_ | refine zal ?_ | refine zac ?_)
  refine zae ?_
  refine zab rfl rfl (zaa rfl) (mv_ptr (.inl rfl) rfl) ?_
  refine zab rfl rfl (zaa rfl) (zas rfl ta104 ti104 rfl rfl) ?_
  refine zab rfl rfl (zaa rfl) (mv_sl (.inl rfl) rfl) ?_
  refine zab rfl rfl (zaa rfl) (zav rfl rfl (hfind) (zar rfl (zar rfl za0))) ?_
  refine zab rfl rfl (zaa rfl) (does_nil_ptr rfl rfl) ?_
  refine zab rfl rfl (zaa rfl) (zat rfl tf114_3 (by decide) rfl) ?_
  refine ops_eff rfl (zaa rfl) (za7 rfl ti3 rfl rfl rfl rfl rfl rfl (by decide) (by decide)) ?_
  refine zaj ?_
  repeat (first | refine zaf ?_ | refine zak ?_ | refine zad ?_ | refine zal ?_ | refine zac ?_)
  refine zae ?_
  refine zab rfl rfl (zaa rfl) (mv_ptr (.inl rfl) rfl) ?_
  refine zab rfl rfl (zaa rfl) (mv_ptr (.inr rfl) rfl) ?_
  refine zaj ?_
  repeat (first | refine zaf ?_ | refine zak ?_ | refine zad ?_ | refine zal ?_ | refine zac ?_)
  (refine zbd ?_; repeat (first | refine ath_r ?_ | refine abl_r ?_))
  exact post1f (.inr rfl) rfl (show Fini _ (.ptr 0 9 0 0) (.ref (AV.agg (wkC n s fin)).cells) from .ptr 0 9 0 _ _ (.agg (wkC n s fin)) rfl rfl rfl)
end Go.Proofs.Ytmhbfoaecebobaa.Aw
end
section
namespace Go.Proofs.Ytmhbfoaecebobaa
set_option linter.unusedSimpArgs false
set_option linter.unusedVariables false
open Go.RowKit
theorem enabledL_in {m : List Int} {t : Int} : ∀ {ts : List Tr} {i : Nat}, t ∈ enabledL m i ts → (i : Int) ≤ t ∧ t < ((i + ts.length : Nat) : Int)
  | [], i, h => by cases h
  | x :: ts, i, h => by
    rw [enabledL] at h
    have step : t ∈ enabledL m (i + 1) ts → (i : Int) ≤ t ∧ t < ((i + (x :: ts).length : Nat) : Int) := by
      intro h
      have := enabledL_in h
      simp only [List.length_cons] at this ⊢
      omega
    split at h
    · rcases List.mem_cons.1 h with h | h
      · subst h; simp only [List.length_cons]; omega
      · exact step h
    · exact step h
theorem mvOk_app {n : Net} {st : List (List Int)} {mv : List Mvx} {f : Bool} (h : MvOk n ⟨st, mv, f⟩) {st' : List (List Int)} (hs : st.length ≤ st'.length) {m : Mvx} (hm : 0 ≤ m.fr ∧ m.fr < st'.length ∧ 0 ≤ m.tt ∧ m.tt < st'.length ∧ 0 ≤ m.sym ∧ m.sym < n.trans.length) (f' : Bool) : MvOk n ⟨st', mv ++ [m], f'⟩ := by
  intro k hk
  simp only [List.length_append, List.length_singleton] at hk
  by_cases h1 : k < mv.length
  · have := h k h1
    rw [gtiL h1]
    simp only at this ⊢
    omega
  · have e : k = mv.length := by omega
    subst e
    rw [gtiZ]
    exact hm
theorem stepS_MvOk {n : Net} {most : Int} {i : Nat} {s s' : Spc} {x : List Int} {t : Int} (h : MvOk n s) (hi : i < s.st.length) (ht : 0 ≤ t ∧ t < n.trans.length) (he : xstS most i s (FireE n x t) t = some s') : MvOk n s' ∧ s.st.length ≤ s'.st.length := by
  unfold xstS at he
  split at he
  · cases he; exact ⟨h, Nat.le_refl _⟩
  · split at he
    · cases he
    · cases he
      by_cases hf : findI s.st (FireE n x t).1 < 0
      · simp only [if_pos hf]
        refine ⟨mvOk_app (f := s.full) h (by simp) ?_ _, by simp⟩
        simp only [List.length_append, List.length_singleton]
        omega
      · simp only [if_neg hf]
        obtain ⟨k, h1, _, h3⟩ := findI_pos (S := s.st) (m := (FireE n x t).1) (by omega)
        refine ⟨mvOk_app (f := s.full) h (Nat.le_refl _) ?_ _, Nat.le_refl _⟩
        simp only
        omega
theorem rowS_MvOk {n : Net} {most : Int} {i : Nat} {x : List Int} : ∀ (on : List Int) (s s' : Spc), MvOk n s → i < s.st.length → (∀ t ∈ on, 0 ≤ t ∧ t < (n.trans.length : Int)) → rowS n most i x on s = some s' → MvOk n s' ∧ s.st.length ≤ s'.st.length
  | [], s, s', hs, _, _, h => by simp only [rowS, Option.some.injEq] at h; subst h; exact ⟨hs, Nat.le_refl _⟩
  | t :: ts, s, s', hs, hi, ht, h => by
    simp only [rowS] at h
    cases e : xstS most i s (FireE n x t) t with
    | none => rw [e] at h; cases h
    | some s1 =>
      rw [e] at h
      obtain ⟨g1, g2⟩ := stepS_MvOk hs hi (ht t List.mem_cons_self) e
      obtain ⟨k1, k2⟩ := rowS_MvOk ts s1 s' g1 (by omega) (fun t h => ht t (List.mem_cons_of_mem _ h)) h
      exact ⟨k1, by omega⟩
theorem expS_MvOk {n : Net} {most : Int} : ∀ (f i : Nat) (s s' : Spc), MvOk n s → expS n most f i s = some s' → MvOk n s'
  | 0, i, s, s', hs, h => by simp only [expS, Option.some.injEq] at h; subst h; exact hs
  | f + 1, i, s, s', hs, h => by
    unfold expS at h
    split at h
    · rename_i hi
      cases e : rowS n most i (gti s.st i) (enabledL (gti s.st i) 0 n.trans) s with
      | none => rw [e] at h; cases h
      | some s1 =>
        rw [e] at h
        refine expS_MvOk f (i + 1) s1 s' (rowS_MvOk _ s s1 hs hi (fun t ht => ?_) e).1 h
        have := enabledL_in ht
        omega
    · simp only [Option.some.injEq] at h; subst h; exact hs
theorem explE_MvOk {n : Net} {m : List Int} {most : Int} (h : (explE n m most).2 = 0) : MvOk n (explE n m most).1 := by
  unfold explE at h ⊢
  split at h
  · rename_i h1
    rw [if_pos h1]
    split at h
    · simp at h
    · rename_i h2
      rw [if_neg h2]
      cases e : expS n most (most.toNat + 1) 0 ⟨[m], [], true⟩ with
      | none => rw [e] at h; simp [explR] at h
      | some s => exact expS_MvOk _ _ _ _ (fun k hk => by simp at hk) e
  · simp at h
def wholeE (n : Net) (most : Int) : Spc × Int := if (oneE n n.source).2 ≠ 0 then (zSp, (oneE n n.source).2) else if (explE n (oneE n n.source).1 most).2 = 0 ∧ (explE n (oneE n n.source).1 most).1.full = false then (zSp, 13) else explE n (oneE n n.source).1 most
def givenE (n : Net) (most : Int) : Int := if zbc n = true then (if most < 1 ∨ 2000 < most then 2 else 0) else 1
def wsetE (n : Net) (s : Spc) (w : List ByteArray) : List Bool := w.foldl (fun set a => stepE n s.mv a set) (startE n s)
def accS (n : Net) (s : Spc) (w : List ByteArray) : Bool := decide (0 ≤ findI s.st (oneE n n.sink).1) && gti (wsetE n s w) (findI s.st (oneE n n.sink).1).toNat
def acceptsE (n : Net) (w : List ByteArray) (most : Int) : Bool × Int :=
  if zbc n = false ∨ (w.any fun a => !nameB a) = true then (false, 1) else if givenE n most ≠ 0 then (false, givenE n most) else if 200 < w.length then (false, 5) else if (wholeE n most).2 ≠ 0 then (false, (wholeE n most).2) else (accS n (wholeE n most).1 w, 0)
end Go.Proofs.Ytmhbfoaecebobaa
namespace Go.Proofs.Ytmhbfoaecebobaa.Aw
set_option linter.unusedSimpArgs false
set_option linter.unusedVariables false
set_option linter.unusedSectionVars false
open Go Go.RowKit Go.Proofs
variable {P : Program} [IsP P]
theorem isName_pf (s : ByteArray) : Pure P 56 [eS s] (eB (nameB s)) :=
  retB_pure (ent_of Try.func56 rfl rfl) fun G vargs hst hsz hrep => by
    obtain ⟨q⟩ := vargs
    match q, hsz with
    | [x], _ =>
      have h3 := rep_s (hrep 0 x _ rfl rfl)
      subst h3
      exact isName_any s G.w
theorem pvalid_pf (n : Net) : Pure P 54 [eN n] (eB (zbc n)) :=
  retB_pure (ent_of Try.func54 rfl rfl) fun G vargs hst hsz hrep => by
    obtain ⟨vt, rfl, h1⟩ := args1 hst hsz hrep
    exact valid_any n vt _ _ G.w h1
theorem given_pf (n : Net) (most : Int) : Pure P 57 [eN n, eI most] (eI (givenE n most)) := by
  have hv := pvalid_pf (P := P) n
  have HI : givenE n most = if zbc n = true then (if most < 1 ∨ 2000 < most then 2 else 0) else 1 := rfl
  generalize givenE n most = R at HI ⊢
  generalize zbc n = z at hv HI
  refine aw_fn (by rw [IsP.eq (P := P)]; exact Try.func57) rfl rfl rfl rfl rfl (zah (lo_N n) (zah (.s _) zap)) (.s _) (by simp only [argF]; rfl) ?_
  repeat (first | refine zaf ?_ | refine zak ?_ | refine zad ?_ | refine zal ?_ | refine zac ?_)
  refine zae ?_
  refine zab rfl rfl (zaa rfl) (does_box rfl rfl rfl rfl) ?_
  refine za5 (wk_froz (id := 0) rfl) (za5 (wk_ref (d := 2) rfl rfl rfl) ?_)
  refine zab rfl rfl (zaa rfl) (mv_s (.inr rfl) rfl) ?_
  refine zaj ?_
  repeat (first | refine zaf ?_ | refine zak ?_ | refine zad ?_ | refine zal ?_ | refine zac ?_)
  all_goals refine zae ?_
  all_goals (refine zab rfl rfl (zaa rfl) (zas rfl ta24 ti24 rfl rfl) ?_)
  all_goals (refine ops_opB rfl rfl (zaa rfl) (zav rfl rfl (hv) (zar rfl za0)) (fun h6 => ?_) (fun h6 => ?_))
  all_goals (refine zab rfl rfl (zaa rfl) (does_not rfl rfl) ?_)
  all_goals refine zaj ?_
  all_goals (repeat (first | refine zaf ?_ | refine zak ?_ | refine zad ?_ | refine zal ?_ | refine zac ?_))
  all_goals (first | refine aw_true rfl ?_ | refine za6 rfl ?_)
  all_goals (repeat (first | refine zaf ?_ | refine zak ?_ | refine zad ?_ | refine zal ?_ | refine zac ?_))
  rotate_left 1
  · skip
    refine zae ?_
    refine zab rfl rfl (zaa rfl) (mv_s (.inr rfl) rfl) ?_
    refine zaj ?_
    repeat (first | refine zaf ?_ | refine zak ?_ | refine zad ?_ | refine zal ?_ | refine zac ?_)
    (refine zbd ?_; repeat (first | refine ath_r ?_ | refine abl_r ?_))
    exact post1 (.inr rfl) rfl (congrArg eI (by rw [HI, if_neg (by rw [h6]; simp)]))
  rw [if_pos h6] at HI
  all_goals refine zae ?_
  all_goals refine zab rfl rfl (zaa rfl) (mv_s (.inl rfl) rfl) ?_
  all_goals (refine ops_opP rfl rfl (zaa rfl) (does_lss rfl rfl rfl) (fun h9 => ?_) (fun h9 => ?_))
  all_goals refine zab rfl rfl (zaa rfl) (mv_s (.inl rfl) rfl) ?_
  all_goals (first | refine zab rfl rfl (zau rfl rfl rfl) (mv_s (.inl rfl) rfl) ?_ | refine zaw rfl rfl (za4 rfl rfl rfl) ?_)
  all_goals (first | refine ops_opP rfl rfl (zau rfl rfl rfl) (does_gtr rfl rfl rfl) (fun h12 => ?_) (fun h12 => ?_) | refine zaw rfl rfl (za4 rfl rfl rfl) ?_)
  all_goals (first | refine zab rfl rfl (zaa rfl) (pickT_s rfl rfl rfl) ?_ | refine zab rfl rfl (zaa rfl) (pickF_s rfl rfl rfl) ?_)
  all_goals refine zaj ?_
  all_goals (repeat (first | refine zaf ?_ | refine zak ?_ | refine zad ?_ | refine zal ?_ | refine zac ?_))
  all_goals (first | refine aw_true rfl ?_ | refine za6 rfl ?_)
  all_goals (repeat (first | refine zaf ?_ | refine zak ?_ | refine zad ?_ | refine zal ?_ | refine zac ?_))
  all_goals first
    | skip
      refine zae ?_
      refine zab rfl rfl (zaa rfl) (mv_s (.inr rfl) rfl) ?_
      refine zaj ?_
      repeat (first | refine zaf ?_ | refine zak ?_ | refine zad ?_ | refine zal ?_ | refine zac ?_)
      (refine zbd ?_; repeat (first | refine ath_r ?_ | refine abl_r ?_))
      exact post1 (.inr rfl) rfl (congrArg eI (by rw [HI, if_pos (by omega)]))
    | skip
  refine zae ?_
  refine zab rfl rfl (zaa rfl) (mv_s (.inr rfl) rfl) ?_
  refine zaj ?_
  repeat (first | refine zaf ?_ | refine zak ?_ | refine zad ?_ | refine zal ?_ | refine zac ?_)
  (refine zbd ?_; repeat (first | refine ath_r ?_ | refine abl_r ?_))
  exact post1 (.inr rfl) rfl (congrArg eI (by rw [HI, if_neg (by omega)]))
theorem post_cse {N : Nat} {F : Frm} {σ : List Ob} {ad u : Nat} {id : Nat} {ob : Ob} {cs : List AV} {e1 : AV} {s : Spc} {r : Spc × Int} {m : Int} {e : Exit} (he : e = .normal ∨ e = .ret) (ha : tyAgg P 104 = some true) (hp : F.get ad = .ptr id 3 0 0) (hs : σ[id]? = some ob) (ho : rowOf ob = some (3, cs)) (hk : cs[0]? = some e1) (he1 : e1.cells = (eSpc s).cells) (hu : F.get u = eI m) (hr : r = (s, m)) : APost P [.cell ad 104, .tmp u] (eSE r) e F σ := by
  subst hr
  refine post_cs (N := 0) he ha ti104 hp hs ho hk (by rw [he1]; rfl) hu ?_ (.refl _)
  rw [he1]; exact .refl _
set_option maxHeartbeats 1000000 in
theorem whole_pf (n : Net) (most : Int) : Pure P 58 [eN n, eI most] (eSE (wholeE n most)) := by
  have hi := initial_pf (P := P) n
  have HI : wholeE n most = if (oneE n n.source).2 ≠ 0 then (zSp, (oneE n n.source).2) else if (explE n (oneE n n.source).1 most).2 = 0 ∧ (explE n (oneE n n.source).1 most).1.full = false then (zSp, 13) else explE n (oneE n n.source).1 most := rfl
  generalize wholeE n most = R at HI ⊢
  generalize oneE n n.source = o at hi HI
  have hx := explore_pf (P := P) n o.1 most
  generalize explE n o.1 most = r at hx HI
  refine aw_fn (by rw [IsP.eq (P := P)]; exact Try.func58) rfl rfl rfl rfl rfl (zah (lo_N n) (zah (.s _) zap)) (.tup _ (zah (lo_Spc _) (zah (.s _) zap))) (by simp only [argF]; rfl) ?_
  repeat (first | refine zaf ?_ | refine zak ?_ | refine zad ?_ | refine zal ?_ | refine zac ?_)
  refine zae ?_
  refine zab rfl rfl (zaa rfl) (does_box rfl rfl rfl rfl) ?_
  refine za5 (wk_froz (id := 0) rfl) (za5 (wk_ref (d := 2) rfl rfl rfl) ?_)
  refine zab rfl rfl (zaa rfl) (does_alloc rfl ti104 rfl rfl) ?_
  refine zab rfl rfl (zaa rfl) (mv_s (.inr rfl) rfl) ?_
  refine zaj ?_
  repeat (first | refine zaf ?_ | refine zak ?_ | refine zad ?_ | refine zal ?_ | refine zac ?_)
  refine zae ?_
  refine zab rfl rfl (zaa rfl) (zas rfl ta24 ti24 rfl rfl) ?_
  refine zab rfl rfl (zaa rfl) (zav rfl rfl (hi) (zar rfl za0)) ?_
  refine zab rfl rfl (zaa rfl) (mv_tup (.inl rfl) rfl) ?_
  refine zab rfl rfl (zaa rfl) (zay rfl rfl rfl) ?_
  refine zab rfl rfl (zaa rfl) (zay rfl rfl rfl) ?_
  refine zab rfl rfl (zaa rfl) (mv_sl (.inr rfl) rfl) ?_
  refine zab rfl rfl (zaa rfl) (mv_s (.inr rfl) rfl) ?_
  refine zaj ?_
  repeat (first | refine zaf ?_ | refine zak ?_ | refine zad ?_ | refine zal ?_ | refine zac ?_)
  all_goals refine zae ?_
  all_goals refine zab rfl rfl (zaa rfl) (mv_s (.inl rfl) rfl) ?_
  all_goals (refine ops_opP rfl rfl (zaa rfl) (does_neq rfl rfl rfl) (fun h15 => ?_) (fun h15 => ?_))
  all_goals refine zaj ?_
  all_goals (repeat (first | refine zaf ?_ | refine zak ?_ | refine zad ?_ | refine zal ?_ | refine zac ?_))
  all_goals (first | refine aw_true rfl ?_ | refine za6 rfl ?_)
  all_goals (repeat (first | refine zaf ?_ | refine zak ?_ | refine zad ?_ | refine zal ?_ | refine zac ?_))
  · rw [if_pos h15] at HI
    refine zae ?_
    refine zab rfl rfl (zaa rfl) (does_build rfl ti104 tp104 rfl rfl) ?_
    refine zab rfl rfl (zaa rfl) (mv_s (.inl rfl) rfl) ?_
    refine ops_eff rfl (zaa rfl) (za7 rfl ti104 rfl rfl rfl rfl rfl rfl (by decide) (by decide)) ?_
    refine zab rfl rfl (zaa rfl) (mv_s (.inr rfl) rfl) ?_
    refine zaj ?_
    repeat (first | refine zaf ?_ | refine zak ?_ | refine zad ?_ | refine zal ?_ | refine zac ?_)
    (refine zbd ?_; repeat (first | refine ath_r ?_ | refine abl_r ?_))
    exact post_zs (N := 0) (.inr rfl) ta104 ti104 rfl rfl rfl rfl rfl rfl HI
  rw [if_neg h15] at HI
  refine zae ?_
  refine zab rfl rfl (zaa rfl) (zas rfl ta24 ti24 rfl rfl) ?_
  refine zab rfl rfl (zaa rfl) (mv_sl (.inl rfl) rfl) ?_
  refine zab rfl rfl (zaa rfl) (mv_s (.inl rfl) rfl) ?_
  refine zab rfl rfl (zaa rfl) (zav rfl rfl (hx) (zar rfl (zar rfl (zar rfl za0)))) ?_
  refine zab rfl rfl (zaa rfl) (mv_tup (.inl rfl) rfl) ?_
  refine zab rfl rfl (zaa rfl) (zay rfl rfl rfl) ?_
  refine zab rfl rfl (zaa rfl) (zay rfl rfl rfl) ?_
  refine zab rfl rfl (zaa rfl) (does_alloc rfl ti104 rfl rfl) ?_
  refine ops_eff rfl (zaa rfl) (za7 rfl ti104 rfl rfl rfl rfl rfl rfl (by decide) (by decide)) ?_
  refine zab rfl rfl (zaa rfl) (mv_s (.inr rfl) rfl) ?_
  refine zaj ?_
  repeat (first | refine zaf ?_ | refine zak ?_ | refine zad ?_ | refine zal ?_ | refine zac ?_)
  refine aw_weak (wk_froz (id := 2) rfl) ?_
  refine aw_weak (wk_ref (d := 8) rfl rfl rfl) ?_
  obtain ⟨b, hb⟩ : ∃ b, r.1.full = b := ⟨_, rfl⟩
  all_goals refine zae ?_
  all_goals refine zab rfl rfl (zaa rfl) (mv_s (.inl rfl) rfl) ?_
  all_goals (refine ops_opP rfl rfl (zaa rfl) (does_eql rfl rfl rfl) (fun h26 => ?_) (fun h26 => ?_))
  all_goals refine zab rfl rfl (zaa rfl) (mv_s (.inl rfl) rfl) ?_
  all_goals (first | refine zab rfl rfl (zau rfl rfl rfl) (zag rfl tf104_2 (by decide) rfl) ?_ | refine zaw rfl rfl (runs_nt rfl rfl rfl) ?_)
  all_goals (first | refine zab rfl rfl (zau rfl rfl rfl) (zam rfl ta4 rfl) ?_ | refine zaw rfl rfl (runs_nt rfl rfl rfl) ?_)
  all_goals (first | refine zab rfl rfl (zau rfl rfl rfl) (does_not rfl rfl) ?_ | refine zaw rfl rfl (runs_nt rfl rfl rfl) ?_)
  all_goals (first | refine zab rfl rfl (zaa rfl) (pickT_s rfl rfl rfl) ?_ | refine zab rfl rfl (zaa rfl) (pickF_s rfl rfl rfl) ?_)
  all_goals refine zaj ?_
  all_goals (repeat (first | refine zaf ?_ | refine zak ?_ | refine zad ?_ | refine zal ?_ | refine zac ?_))
  · cases b
    · rw [if_pos ⟨h26, hb⟩] at HI
      refine aw_true (by show AV.s (.bool (!r.1.full)) = _; rw [hb]; rfl) ?_
      repeat (first | refine zaf ?_ | refine zak ?_ | refine zad ?_ | refine zal ?_ | refine zac ?_)
      refine zae ?_
      refine zab rfl rfl (zaa rfl) (does_build rfl ti104 tp104 rfl rfl) ?_
      refine ops_eff rfl (zaa rfl) (za7 rfl ti104 rfl rfl rfl rfl rfl rfl (by decide) (by decide)) ?_
      refine zab rfl rfl (zaa rfl) (mv_s (.inr rfl) rfl) ?_
      refine zaj ?_
      repeat (first | refine zaf ?_ | refine zak ?_ | refine zad ?_ | refine zal ?_ | refine zac ?_)
      (refine zbd ?_; repeat (first | refine ath_r ?_ | refine abl_r ?_))
      exact post_zs (N := 0) (.inr rfl) ta104 ti104 rfl rfl rfl rfl rfl rfl HI
    · rw [if_neg (by rw [hb]; simp)] at HI
      refine za6 (by show AV.s (.bool (!r.1.full)) = _; rw [hb]; rfl) ?_
      repeat (first | refine zaf ?_ | refine zak ?_ | refine zad ?_ | refine zal ?_ | refine zac ?_)
      refine zae ?_
      refine zab rfl rfl (zaa rfl) (zas rfl ta104 ti104 rfl rfl) ?_
      refine zab rfl rfl (zaa rfl) (mv_s (.inl rfl) rfl) ?_
      refine ops_eff rfl (zaa rfl) (za7 rfl ti104 rfl rfl rfl rfl rfl rfl (by decide) (by decide)) ?_
      refine zab rfl rfl (zaa rfl) (mv_s (.inr rfl) rfl) ?_
      refine zaj ?_
      repeat (first | refine zaf ?_ | refine zak ?_ | refine zad ?_ | refine zal ?_ | refine zac ?_)
      (refine zbd ?_; repeat (first | refine ath_r ?_ | refine abl_r ?_))
      exact post_cse (N := 0) (s := r.1) (.inr rfl) ta104 rfl rfl rfl rfl rfl rfl HI
  · rw [if_neg (fun h => h26 h.1)] at HI
    refine za6 rfl ?_
    repeat (first | refine zaf ?_ | refine zak ?_ | refine zad ?_ | refine zal ?_ | refine zac ?_)
    refine zae ?_
    refine zab rfl rfl (zaa rfl) (zas rfl ta104 ti104 rfl rfl) ?_
    refine zab rfl rfl (zaa rfl) (mv_s (.inl rfl) rfl) ?_
    refine ops_eff rfl (zaa rfl) (za7 rfl ti104 rfl rfl rfl rfl rfl rfl (by decide) (by decide)) ?_
    refine zab rfl rfl (zaa rfl) (mv_s (.inr rfl) rfl) ?_
    refine zaj ?_
    repeat (first | refine zaf ?_ | refine zak ?_ | refine zad ?_ | refine zal ?_ | refine zac ?_)
    (refine zbd ?_; repeat (first | refine ath_r ?_ | refine abl_r ?_))
    exact post_cse (N := 0) (s := r.1) (.inr rfl) ta104 rfl rfl rfl rfl rfl rfl HI
theorem accepts1_pf (s : ByteArray) : Pure P 55 [eS s] (eB (!nameB s)) := by
  have hn := isName_pf (P := P) s
  refine aw_fn (by rw [IsP.eq (P := P)]; exact Try.func55) rfl rfl rfl rfl rfl (by repeat' (first | exact Lo.s _ | exact Lo.emp | exact Lo.any | exact zap | exact zao | refine zah ?_ ?_ | refine zai ?_ ?_ | refine zaq ?_ | refine zan ?_ | refine Lo.cells ?_ | refine Lo.agg _ ?_ | refine Lo.ref _ ?_ | refine Lo.tup _ ?_ | refine Lo.fn _ _ ?_ | refine Lo.sl _ ?_ | intro _)) (by repeat' (first | exact Lo.s _ | exact Lo.emp | exact Lo.any | exact zap | exact zao | refine zah ?_ ?_ | refine zai ?_ ?_ | refine zaq ?_ | refine zan ?_ | refine Lo.cells ?_ | refine Lo.agg _ ?_ | refine Lo.ref _ ?_ | refine Lo.tup _ ?_ | refine Lo.fn _ _ ?_ | refine Lo.sl _ ?_ | intro _)) (by simp only [argF]; rfl) ?_
  repeat (first | refine zaf ?_ | refine zak ?_ | refine zad ?_ | refine zal ?_ | refine zac ?_)
  refine zae ?_
  refine zab rfl rfl (zaa rfl) (mv_s (.inr rfl) rfl) ?_
  refine zaj ?_
  repeat (first | refine zaf ?_ | refine zak ?_ | refine zad ?_ | refine zal ?_ | refine zac ?_)
  refine zae ?_
  refine zab rfl rfl (zaa rfl) (mv_s (.inl rfl) rfl) ?_
  refine zab rfl rfl (zaa rfl) (zav rfl rfl (hn) (zar rfl za0)) ?_
  refine zab rfl rfl (zaa rfl) (does_not rfl rfl) ?_
  refine zab rfl rfl (zaa rfl) (mv_s (.inr rfl) rfl) ?_
  refine zaj ?_
  repeat (first | refine zaf ?_ | refine zak ?_ | refine zad ?_ | refine zal ?_ | refine zac ?_)
  (refine zbd ?_; repeat (first | refine ath_r ?_ | refine abl_r ?_))
  exact post1 (.inr rfl) rfl rfl
theorem wholeE_ok {n : Net} {most : Int} (h : (wholeE n most).2 = 0) : zbc n = true ∧ MvOk n (wholeE n most).1 ∧ 1 ≤ (wholeE n most).1.st.length ∧ (wholeE n most).1.st.length ≤ 2000 ∧ (wholeE n most).1.mv.length ≤ 20000 := by
  unfold wholeE at h ⊢
  split at h
  · rename_i h1; exact absurd h h1
  · rename_i h1
    rw [if_neg h1]
    split at h
    · simp at h
    · rename_i h2
      rw [if_neg h2]
      obtain ⟨g1, g2, g3⟩ := explE_SI h
      have := g3.le
      exact ⟨by unfold markB at g1; simp only [Bool.and_eq_true] at g1; exact g1.1, explE_MvOk h, g3.ne, by omega, g3.mvs⟩
theorem stepE_len {n : Net} {s : Spc} (hm : MvOk n s) (a : ByteArray) {set : List Bool} (hs : set.length = s.st.length) : (stepE n s.mv a set).length = s.st.length :=
  closeE_len (fun k hk => by obtain ⟨_, _, h1, h2, _⟩ := hm k hk; omega) (by rw [nextE_len, hs])
theorem startE_len {n : Net} {s : Spc} (hm : MvOk n s) : (startE n s).length = s.st.length :=
  closeE_len (fun k hk => by obtain ⟨_, _, h1, h2, _⟩ := hm k hk; omega) (by simp)
def eBE (r : Bool × Int) : AV := .tup [eB r.1, eI r.2]
theorem post_be {N : Nat} {F : Frm} {σ : List Ob} {t u : Nat} {r : Bool × Int} {l : Bool} {m : Int} {e : Exit} (he : e = .normal ∨ e = .ret) (h : F.get t = eB l) (h' : F.get u = eI m) (hr : r = (l, m)) : APost P [.tmp t, .tmp u] (eBE r) e F σ := by
  subst hr
  exact post2 he h h' (.refl _) (.refl _)
set_option maxHeartbeats 2000000 in
theorem accepts_pf (n : Net) (w : List ByteArray) (most : Int) : Pure P 18 [eN n, eL eS w, eI most] (eBE (acceptsE n w most)) := by
  have hv := pvalid_pf (P := P) n
  have hg := given_pf (P := P) n most
  have hw := whole_pf (P := P) n most
  have hnm := containsFS_pf (P := P) 55 [] (fun a => !nameB a) w (fun _ => .s _) (.fn _ _ (by simp)) (fun a _ => accepts1_pf a)
  have hok := wholeE_ok (n := n) (most := most)
  have HI : acceptsE n w most = if zbc n = false ∨ (w.any fun a => !nameB a) = true then (false, 1) else if givenE n most ≠ 0 then (false, givenE n most) else if 200 < w.length then (false, 5) else if (wholeE n most).2 ≠ 0 then (false, (wholeE n most).2) else (accS n (wholeE n most).1 w, 0) := rfl
  generalize acceptsE n w most = R at HI ⊢
  generalize givenE n most = ge at hg HI
  generalize wholeE n most = r at hw HI hok
  obtain ⟨s, we⟩ := r
  generalize w.any (fun a => !nameB a) = zn at hnm HI
  replace hw : Pure P 58 [eN n, eI most] (.tup [eSpc s, eI we]) := hw
  have hln : Lo 0 (.ref (eN n).cells) := .ref _ (lo_N n).cells
  have hlw : Lo 0 (eL eS w) := zaq fun _ => .s _
  have HVB : zbc n = zbc n := rfl
  obtain ⟨zv, hzv⟩ : ∃ zv, zbc n = zv := ⟨_, rfl⟩
  rw [hzv] at hv HI
  refine aw_fn (by rw [IsP.eq (P := P)]; exact Try.func18) rfl rfl rfl rfl rfl (zah (lo_N n) (zah hlw (zah (.s _) zap))) (.tup _ (zah (.s _) (zah (.s _) zap))) (by simp only [argF]; rfl) ?_
  refine aw_bdm (d := 1) rfl (fun hmx => ?_)
  unfold maxLen at hmx
  repeat (first | refine zaf ?_ | refine zak ?_ | refine zad ?_ | refine zal ?_ | refine zac ?_)
  refine zae ?_
  refine zab rfl rfl (zaa rfl) (does_box rfl rfl rfl rfl) ?_
  refine za5 (wk_froz (id := 0) rfl) (za5 (wk_ref (d := 3) rfl rfl rfl) ?_)
  refine zab rfl rfl (zaa rfl) (mv_s (.inr rfl) rfl) ?_
  refine zab rfl rfl (zaa rfl) (mv_s (.inr rfl) rfl) ?_
  refine zaj ?_
  repeat (first | refine zaf ?_ | refine zak ?_ | refine zad ?_ | refine zal ?_ | refine zac ?_)
  all_goals refine zae ?_
  all_goals (refine zab rfl rfl (zaa rfl) (zas rfl ta24 ti24 rfl rfl) ?_)
  all_goals (refine ops_opB rfl rfl (zaa rfl) (zav rfl rfl (hv) (zar rfl za0)) (fun h16 => ?_) (fun h16 => ?_))
  all_goals (refine zab rfl rfl (zaa rfl) (does_not rfl rfl) ?_)
  all_goals refine zab rfl rfl (zaa rfl) (mv_s (.inl rfl) rfl) ?_
  all_goals (first | refine zab rfl rfl (zau rfl rfl rfl) (mv_sl (.inl rfl) rfl) ?_ | refine zaw rfl rfl (za4 rfl rfl rfl) ?_)
  all_goals (first | refine ops_opB rfl rfl (zau rfl rfl rfl) (zav rfl rfl (hnm) (zar rfl (zar rfl za0))) (fun h20 => ?_) (fun h20 => ?_) | refine zaw rfl rfl (za4 rfl rfl rfl) ?_)
  all_goals (first | refine zab rfl rfl (zaa rfl) (pickT_s rfl rfl rfl) ?_ | refine zab rfl rfl (zaa rfl) (pickF_s rfl rfl rfl) ?_)
  all_goals refine zaj ?_
  all_goals (repeat (first | refine zaf ?_ | refine zak ?_ | refine zad ?_ | refine zal ?_ | refine zac ?_))
  all_goals (first | refine aw_true rfl ?_ | refine za6 rfl ?_)
  all_goals (repeat (first | refine zaf ?_ | refine zak ?_ | refine zad ?_ | refine zal ?_ | refine zac ?_))
  all_goals first
    | skip
      refine zae ?_
      refine zab rfl rfl (zaa rfl) (mv_s (.inr rfl) rfl) ?_
      refine zab rfl rfl (zaa rfl) (mv_s (.inr rfl) rfl) ?_
      refine zaj ?_
      repeat (first | refine zaf ?_ | refine zak ?_ | refine zad ?_ | refine zal ?_ | refine zac ?_)
      (refine zbd ?_; repeat (first | refine ath_r ?_ | refine abl_r ?_))
      exact post_be (N := 0) (.inr rfl) rfl rfl (by rw [HI]; simp_all)
    | skip
  rw [if_neg (by simp_all)] at HI
  rw [h16] at hzv
  clear HVB
  refine zae ?_
  refine zab rfl rfl (zaa rfl) (zas rfl ta24 ti24 rfl rfl) ?_
  refine zab rfl rfl (zaa rfl) (mv_s (.inl rfl) rfl) ?_
  refine zab rfl rfl (zaa rfl) (zav rfl rfl (hg) (zar rfl (zar rfl za0))) ?_
  refine zab rfl rfl (zaa rfl) (mv_s (.inr rfl) rfl) ?_
  refine zaj ?_
  repeat (first | refine zaf ?_ | refine zak ?_ | refine zad ?_ | refine zal ?_ | refine zac ?_)
  all_goals refine zae ?_
  all_goals refine zab rfl rfl (zaa rfl) (mv_s (.inl rfl) rfl) ?_
  all_goals (refine ops_opP rfl rfl (zaa rfl) (does_neq rfl rfl rfl) (fun h26 => ?_) (fun h26 => ?_))
  all_goals refine zaj ?_
  all_goals (repeat (first | refine zaf ?_ | refine zak ?_ | refine zad ?_ | refine zal ?_ | refine zac ?_))
  all_goals (first | refine aw_true rfl ?_ | refine za6 rfl ?_)
  all_goals (repeat (first | refine zaf ?_ | refine zak ?_ | refine zad ?_ | refine zal ?_ | refine zac ?_))
  · rw [if_pos h26] at HI
    refine zae ?_
    refine zab rfl rfl (zaa rfl) (mv_s (.inl rfl) rfl) ?_
    refine zab rfl rfl (zaa rfl) (mv_s (.inr rfl) rfl) ?_
    refine zab rfl rfl (zaa rfl) (mv_s (.inr rfl) rfl) ?_
    refine zaj ?_
    repeat (first | refine zaf ?_ | refine zak ?_ | refine zad ?_ | refine zal ?_ | refine zac ?_)
    (refine zbd ?_; repeat (first | refine ath_r ?_ | refine abl_r ?_))
    exact post_be (N := 0) (.inr rfl) rfl rfl HI
  rw [if_neg h26] at HI
  all_goals refine zae ?_
  all_goals (refine zab rfl rfl (zaa rfl) (mv_sl (.inl rfl) rfl) ?_)
  all_goals (refine zab rfl rfl (zaa rfl) (za2 rfl ts25 rfl) ?_)
  all_goals (refine ops_opP rfl rfl (zaa rfl) (does_gtr rfl rfl rfl) (fun h30 => ?_) (fun h30 => ?_))
  all_goals refine zaj ?_
  all_goals (repeat (first | refine zaf ?_ | refine zak ?_ | refine zad ?_ | refine zal ?_ | refine zac ?_))
  all_goals (first | refine aw_true rfl ?_ | refine za6 rfl ?_)
  all_goals (repeat (first | refine zaf ?_ | refine zak ?_ | refine zad ?_ | refine zal ?_ | refine zac ?_))
  · rw [if_pos (by omega)] at HI
    refine zae ?_
    refine zab rfl rfl (zaa rfl) (mv_s (.inr rfl) rfl) ?_
    refine zab rfl rfl (zaa rfl) (mv_s (.inr rfl) rfl) ?_
    refine zaj ?_
    repeat (first | refine zaf ?_ | refine zak ?_ | refine zad ?_ | refine zal ?_ | refine zac ?_)
    (refine zbd ?_; repeat (first | refine ath_r ?_ | refine abl_r ?_))
    exact post_be (N := 0) (.inr rfl) rfl rfl HI
  rw [if_neg (by omega)] at HI
  refine zae ?_
  refine zab rfl rfl (zaa rfl) (zas rfl ta24 ti24 rfl rfl) ?_
  refine zab rfl rfl (zaa rfl) (mv_s (.inl rfl) rfl) ?_
  refine zab rfl rfl (zaa rfl) (zav rfl rfl (hw) (zar rfl (zar rfl za0))) ?_
  refine zab rfl rfl (zaa rfl) (mv_tup (.inl rfl) rfl) ?_
  refine zab rfl rfl (zaa rfl) (zay rfl rfl rfl) ?_
  refine zab rfl rfl (zaa rfl) (zay rfl rfl rfl) ?_
  refine zab rfl rfl (zaa rfl) (does_alloc rfl ti104 rfl rfl) ?_
  refine ops_eff rfl (zaa rfl) (za7 rfl ti104 rfl rfl rfl rfl rfl rfl (by decide) (by decide)) ?_
  refine zab rfl rfl (zaa rfl) (mv_s (.inr rfl) rfl) ?_
  refine zaj ?_
  repeat (first | refine zaf ?_ | refine zak ?_ | refine zad ?_ | refine zal ?_ | refine zac ?_)
  refine aw_weak (wk_froz (id := 1) rfl) ?_
  refine aw_weak (wk_ref (d := 9) rfl rfl rfl) ?_
  all_goals refine zae ?_
  all_goals refine zab rfl rfl (zaa rfl) (mv_s (.inl rfl) rfl) ?_
  all_goals (refine ops_opP rfl rfl (zaa rfl) (does_neq rfl rfl rfl) (fun h38 => ?_) (fun h38 => ?_))
  all_goals refine zaj ?_
  all_goals (repeat (first | refine zaf ?_ | refine zak ?_ | refine zad ?_ | refine zal ?_ | refine zac ?_))
  all_goals (first | refine aw_true rfl ?_ | refine za6 rfl ?_)
  all_goals (repeat (first | refine zaf ?_ | refine zak ?_ | refine zad ?_ | refine zal ?_ | refine zac ?_))
  · rw [if_pos h38] at HI
    refine zae ?_
    refine zab rfl rfl (zaa rfl) (mv_s (.inl rfl) rfl) ?_
    refine zab rfl rfl (zaa rfl) (mv_s (.inr rfl) rfl) ?_
    refine zab rfl rfl (zaa rfl) (mv_s (.inr rfl) rfl) ?_
    refine zaj ?_
    repeat (first | refine zaf ?_ | refine zak ?_ | refine zad ?_ | refine zal ?_ | refine zac ?_)
    (refine zbd ?_; repeat (first | refine ath_r ?_ | refine abl_r ?_))
    exact post_be (N := 0) (.inr rfl) rfl rfl HI
  rw [if_neg h38] at HI
  obtain ⟨_, hmo, hn1, hn2, hmv⟩ := hok (Classical.not_not.1 h38)
  replace hmo : MvOk n s := hmo
  replace hn1 : 1 ≤ s.st.length := hn1
  replace hn2 : s.st.length ≤ 2000 := hn2
  replace hmv : s.mv.length ≤ 20000 := hmv
  have hwk := walk_pf (P := P) n s hzv hmo hn2 hmv
  have hss := start_pf (P := P) n s (finE n s) hmo hn2 hn1 hmv
  have hlW := lo_wk n s (finE n s)
  replace HI : R = (accS n s w, 0) := HI
  have hacc : accS n s w = (decide (0 ≤ finE n s) && gti (wsetE n s w) (finE n s).toNat) := rfl
  have hfn : finE n s < 0 ∨ ∃ f : Nat, finE n s = f ∧ f < s.st.length := by
    by_cases hf : finE n s < 0
    · exact .inl hf
    · obtain ⟨k, h1, _, h3⟩ := findI_pos (S := s.st) (m := (oneE n n.sink).1) (by unfold finE at hf; omega)
      exact .inr ⟨k, h1, h3⟩
  refine zae ?_
  refine zab rfl rfl (zaa rfl) (zas rfl ta24 ti24 rfl rfl) ?_
  refine zab rfl rfl (zaa rfl) (zas rfl ta104 ti104 rfl rfl) ?_
  refine zab rfl rfl (zaa rfl) (zav rfl rfl (hwk) (zar rfl (zar rfl za0))) ?_
  refine zab rfl rfl (zaa rfl) (mv_ref (.inr rfl) rfl) ?_
  refine zaj ?_
  repeat (first | refine zaf ?_ | refine zak ?_ | refine zad ?_ | refine zal ?_ | refine zac ?_)
  refine zae ?_
  refine zab rfl rfl (zaa rfl) (mv_ref (.inl rfl) rfl) ?_
  refine zab rfl rfl (zaa rfl) (zav rfl rfl (hss) (zar rfl za0)) ?_
  refine zab rfl rfl (zaa rfl) (mv_sl (.inr rfl) rfl) ?_
  refine zaj ?_
  repeat (first | refine zaf ?_ | refine zak ?_ | refine zad ?_ | refine zal ?_ | refine zac ?_)
  refine zae ?_
  refine zab rfl rfl (zaa rfl) (mv_sl (.inl rfl) rfl) ?_
  refine zab rfl rfl (zaa rfl) (za2 rfl ts25 rfl) ?_
  refine zab rfl rfl (zaa rfl) (mv_s (.inl rfl) rfl) ?_
  refine zaj ?_
  repeat (first | refine zaf ?_ | refine zak ?_ | refine zad ?_ | refine zal ?_ | refine zac ?_)
  refine aw_loops (S := Nat × List Bool) (fun p => [(1, eL eS w), (11, .ref (wkC n s (finE n s))), (12, eL eB p.2), (45, eL eS w), (46, eI w.length), (47, eI p.1)]) (fun _ => []) (fun p => p.1 ≤ w.length ∧ p.2.length = s.st.length ∧ (w.drop p.1).foldl (fun set a => stepE n s.mv a set) p.2 = wsetE n s w) (fun p => w.length - p.1) (0, startE n s) (wk_st [] (by decide) trivial ⟨.lo _ hlw, .lo _ hlW, .lo _ (zaq fun _ => .s _), .lo _ hlw, .lo _ (by repeat' (first | exact Lo.s _ | exact Lo.emp | exact Lo.any | exact zap | exact zao | refine zah ?_ ?_ | refine zai ?_ ?_ | refine zaq ?_ | refine zan ?_ | refine Lo.cells ?_ | refine Lo.agg _ ?_ | refine Lo.ref _ ?_ | refine Lo.tup _ ?_ | refine Lo.fn _ _ ?_ | refine Lo.sl _ ?_ | intro _)), .lo _ (by repeat' (first | exact Lo.s _ | exact Lo.emp | exact Lo.any | exact zap | exact zao | refine zah ?_ ?_ | refine zai ?_ ?_ | refine zaq ?_ | refine zan ?_ | refine Lo.cells ?_ | refine Lo.agg _ ?_ | refine Lo.ref _ ?_ | refine Lo.tup _ ?_ | refine Lo.fn _ _ ?_ | refine Lo.sl _ ?_ | intro _)), trivial⟩) ⟨Nat.zero_le _, startE_len hmo, rfl⟩ (fun p hp => ?_)
  obtain ⟨k, set⟩ := p
  obtain ⟨hk, hsl, hE⟩ := hp
  replace hk : k ≤ w.length := hk
  replace hsl : set.length = s.st.length := hsl
  replace hE : (w.drop k).foldl (fun set a => stepE n s.mv a set) set = wsetE n s w := hE
  repeat (first | refine zaf ?_ | refine zak ?_ | refine zad ?_ | refine zal ?_ | refine zac ?_)
  all_goals refine zae ?_
  all_goals (refine ops_opP rfl rfl (zaa rfl) (does_lss rfl rfl rfl) (fun h48 => ?_) (fun h48 => ?_))
  all_goals refine zaj ?_
  all_goals (repeat (first | refine zaf ?_ | refine zak ?_ | refine zad ?_ | refine zal ?_ | refine zac ?_))
  all_goals (first | refine aw_true rfl ?_ | refine za6 rfl ?_)
  all_goals (repeat (first | refine zaf ?_ | refine zak ?_ | refine zad ?_ | refine zal ?_ | refine zac ?_))
  all_goals dsimp only at h48
  · have hkt : k < w.length := by omega
    have hix : (w.map eS)[k]? = some (eS (gti w k)) := ix_map hkt
    have hst := step_pf (P := P) n s (finE n s) hmo hn2 hmv set hsl (gti w k)
    rw [drop_gti hkt, List.foldl_cons] at hE
    have hl2 := stepE_len hmo (gti w k) hsl
    refine zae ?_
    refine zab rfl rfl (zaa rfl) (za1 rfl ts25 ti9 rfl rfl rfl hix rfl) ?_
    refine zab rfl rfl (zaa rfl) (zam rfl ta9 rfl) ?_
    refine zab rfl rfl (zaa rfl) (mv_s (.inr rfl) rfl) ?_
    refine zaj ?_
    repeat (first | refine zaf ?_ | refine zak ?_ | refine zad ?_ | refine zal ?_ | refine zac ?_)
    refine zae ?_
    refine zab rfl rfl (zaa rfl) (mv_ref (.inl rfl) rfl) ?_
    refine zab rfl rfl (zaa rfl) (mv_sl (.inl rfl) rfl) ?_
    refine zab rfl rfl (zaa rfl) (mv_s (.inl rfl) rfl) ?_
    refine zab rfl rfl (zaa rfl) (zav rfl rfl (hst) (zar rfl (zar rfl (zar rfl za0)))) ?_
    refine zab rfl rfl (zaa rfl) (mv_sl (.inr rfl) rfl) ?_
    refine zaj ?_
    repeat (first | refine zaf ?_ | refine zak ?_ | refine zad ?_ | refine zal ?_ | refine zac ?_)
    refine zae ?_
    refine zab rfl rfl (zaa rfl) (does_add rfl rfl rfl (IntWalk.i64_in _ (by omega))) ?_
    refine zab rfl rfl (zaa rfl) (mv_s (.inl rfl) rfl) ?_
    refine zaj ?_
    repeat (first | refine zaf ?_ | refine zak ?_ | refine zad ?_ | refine zal ?_ | refine zac ?_)
    exact ⟨(k + 1, stepE n s.mv (gti w k) set), ⟨by show k + 1 ≤ w.length; omega, hl2, hE⟩, by show w.length - (k + 1) < w.length - k; omega, wk_st [] (by decide) trivial ⟨.lo _ hlw, .lo _ hlW, .lo _ (zaq fun _ => .s _), .lo _ hlw, .lo _ (by repeat' (first | exact Lo.s _ | exact Lo.emp | exact Lo.any | exact zap | exact zao | refine zah ?_ ?_ | refine zai ?_ ?_ | refine zaq ?_ | refine zan ?_ | refine Lo.cells ?_ | refine Lo.agg _ ?_ | refine Lo.ref _ ?_ | refine Lo.tup _ ?_ | refine Lo.fn _ _ ?_ | refine Lo.sl _ ?_ | intro _)), .lo _ (by repeat' (first | exact Lo.s _ | exact Lo.emp | exact Lo.any | exact zap | exact zao | refine zah ?_ ?_ | refine zai ?_ ?_ | refine zaq ?_ | refine zan ?_ | refine Lo.cells ?_ | refine Lo.agg _ ?_ | refine Lo.ref _ ?_ | refine Lo.tup _ ?_ | refine Lo.fn _ _ ?_ | refine Lo.sl _ ?_ | intro _)), trivial⟩⟩
  · have e : k = w.length := by omega
    subst e
    rw [List.drop_length] at hE
    replace hE : set = wsetE n s w := hE
    rw [hacc, ← hE] at HI
    generalize finE n s = fin at *
    (refine aw_exit ?_; repeat (first | refine ath_x ?_ | refine abl_hit ?_ | refine abl_miss rfl ?_ | refine zal ?_ | refine zak ?_ | refine zaf ?_ | refine zad ?_ | refine zac ?_))
    rcases hfn with hfn | ⟨f, rfl, hf⟩
    · skip
      refine zae ?_
      refine zab rfl rfl (zaa rfl) (mv_ref (.inl rfl) rfl) ?_
      refine zab rfl rfl (zaa rfl) (does_nil_ref rfl rfl) ?_
      refine zab rfl rfl (zaa rfl) (zag rfl tf114_3 (by decide) rfl) ?_
      refine zab rfl rfl (zaa rfl) (zam rfl ta3 rfl) ?_
      refine zab rfl rfl (zaa rfl) (dec_f (by omega) (does_geq rfl rfl rfl)) ?_
      refine zab rfl rfl (zaa rfl) (mv_s (.inl rfl) rfl) ?_
      refine zaw rfl rfl (runs_nt rfl rfl rfl) ?_
      refine zaw rfl rfl (runs_nt rfl rfl rfl) ?_
      refine zaw rfl rfl (runs_nt rfl rfl rfl) ?_
      refine zaw rfl rfl (runs_nt rfl rfl rfl) ?_
      refine zaw rfl rfl (runs_nt rfl rfl rfl) ?_
      refine zaw rfl rfl (runs_nt rfl rfl rfl) ?_
      refine zaw rfl rfl (runs_nt rfl rfl rfl) ?_
      refine zab rfl rfl (zaa rfl) (pickF_s rfl rfl rfl) ?_
      refine zab rfl rfl (zaa rfl) (mv_s (.inr rfl) rfl) ?_
      refine zab rfl rfl (zaa rfl) (mv_s (.inr rfl) rfl) ?_
      refine zaj ?_
      repeat (first | refine zaf ?_ | refine zak ?_ | refine zad ?_ | refine zal ?_ | refine zac ?_)
      (refine zbd ?_; repeat (first | refine ath_r ?_ | refine abl_r ?_))
      exact post_be (N := 0) (.inr rfl) rfl rfl (by rw [HI, decide_eq_false (by omega)]; rfl)
    · have hel : (set.map eB)[f]? = some (eB (gti set f)) := ix_map (by omega)
      refine zae ?_
      refine zab rfl rfl (zaa rfl) (mv_ref (.inl rfl) rfl) ?_
      refine zab rfl rfl (zaa rfl) (does_nil_ref rfl rfl) ?_
      refine zab rfl rfl (zaa rfl) (zag rfl tf114_3 (by decide) rfl) ?_
      refine zab rfl rfl (zaa rfl) (zam rfl ta3 rfl) ?_
      refine zab rfl rfl (zaa rfl) (dec_t (by omega) (does_geq rfl rfl rfl)) ?_
      refine zab rfl rfl (zaa rfl) (mv_s (.inl rfl) rfl) ?_
      refine zab rfl rfl (zau rfl rfl rfl) (mv_sl (.inl rfl) rfl) ?_
      refine zab rfl rfl (zau rfl rfl rfl) (mv_ref (.inl rfl) rfl) ?_
      refine zab rfl rfl (zau rfl rfl rfl) (does_nil_ref rfl rfl) ?_
      refine zab rfl rfl (zau rfl rfl rfl) (zag rfl tf114_3 (by decide) rfl) ?_
      refine zab rfl rfl (zau rfl rfl rfl) (zam rfl ta3 rfl) ?_
      refine zab rfl rfl (zau rfl rfl rfl) (za1 rfl ts109 ti4 rfl rfl rfl hel rfl) ?_
      refine zab rfl rfl (zau rfl rfl rfl) (zam rfl ta4 rfl) ?_
      refine zab rfl rfl (zaa rfl) (pickT_s rfl rfl rfl) ?_
      refine zab rfl rfl (zaa rfl) (mv_s (.inr rfl) rfl) ?_
      refine zab rfl rfl (zaa rfl) (mv_s (.inr rfl) rfl) ?_
      refine zaj ?_
      repeat (first | refine zaf ?_ | refine zak ?_ | refine zad ?_ | refine zal ?_ | refine zac ?_)
      (refine zbd ?_; repeat (first | refine ath_r ?_ | refine abl_r ?_))
      exact post_be (N := 0) (.inr rfl) rfl rfl (by rw [HI, decide_eq_true (by omega), Int.toNat_natCast]; rfl)
end Go.Proofs.Ytmhbfoaecebobaa.Aw
end
