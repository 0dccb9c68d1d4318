/-
  Texts joined: ShQ, ShU, ShV, Orc, ClE, ShI. Conditions: none.
-/
import Derived.Test.YtmoipmnhgdmkpaaJQ9
import Derived.Carry
import Derived.Test.YtmoipmnhgdmkpaaJQ3
import Derived.Test.YtmoipmnhgdmkpaaJQ7
import Derived.Test.YtmoipmnhgdmkpaaJQ4
import Derived.Test.YtmoipmnhgdmkpaaJQ8
section
namespace Go.Proofs.Ytmoipmnhgdmkpaa.Aw
set_option linter.unusedSimpArgs false
set_option linter.unusedVariables false
set_option linter.unusedSectionVars false
open Go.RowKit Go.Proofs
variable {P : Program} [IsP P]

set_option maxHeartbeats 2000000 in
theorem size_n : ∀ (m : Nat) (b : Br) (d n : Int), SizeOf.sizeOf b < m → 0 ≤ d → d ≤ 301 → 0 ≤ n → n ≤ 2000 → CallC P 7 (eBr b) d n := by
  intro m
  induction m
  · intro b d n h; omega
  rename_i m IH0
  intro b d n hsz hd1 hd2 hn1 hn2
  obtain ⟨s, t, L, y⟩ := b
  have IH : ∀ b', b' ∈ L → ∀ (d n : Int), 0 ≤ d → d ≤ 301 → 0 ≤ n → n ≤ 2000 → CallC P 7 (eBr b') d n := fun b' hb' d n h1 h2 h3 h4 => IH0 b' d n (by have := List.sizeOf_lt_of_mem hb'; simp at hsz; omega) h1 h2 h3 h4
  clear IH0 hsz
  have hloL : Lo 0 (eL eBr L) := zak lo_Br
  rw [eBr_mk]
  refine callC_fn (t := 6) (by rw [IsP.eq (P := P)]; exact Try.func7) rfl rfl (Nat.le_of_ble_eq_true rfl) rfl ?_
  simp only [argF]
  all_goals (repeat (first | refine kw_seq ?_ | refine zap ?_ | refine kw_skip ?_ | refine zar ?_ | refine kw_block ?_))
  all_goals refine kw_region ?_
  all_goals refine zbk rfl rfl (zaa rfl) (does_box rfl rfl rfl rfl) ?_
  all_goals refine zbk rfl rfl (zaa rfl) (mv_s (.inr rfl) rfl) ?_
  all_goals refine kops_nil ?_
  all_goals (repeat (first | refine kw_seq ?_ | refine zap ?_ | refine kw_skip ?_ | refine zar ?_ | refine kw_block ?_))
  all_goals refine kw_region ?_
  all_goals (first | refine zbk rfl rfl (zaa rfl) (mv_ptr (.inl rfl) rfl) ?_ | refine zbk rfl rfl (zaa rfl) (mv_ref (.inl rfl) rfl) ?_ | refine zbk rfl rfl (zaa rfl) (mv_s (.inl rfl) rfl) ?_)
  all_goals (first | refine zbk rfl rfl (zaa rfl) (does_nil_ptr rfl rfl) ?_ | refine zbk rfl rfl (zaa rfl) (does_nil_ref rfl rfl) ?_ | refine zbk rfl rfl (zaa rfl) (does_nil_fn rfl rfl) ?_)
  all_goals (first | refine zbk rfl rfl (zaa rfl) (zan rfl ta3 rfl) ?_ | refine zbk rfl rfl (zaa rfl) (zas rfl ta3 rfl rfl rfl rfl rfl) ?_)
  all_goals refine zbk rfl rfl (zaa rfl) (does_sub rfl rfl rfl (IntWalk.i64_in _ (by omega))) ?_
  all_goals (first | refine zbk rfl rfl (zaa rfl) (does_nil_ptr rfl rfl) ?_ | refine zbk rfl rfl (zaa rfl) (does_nil_ref rfl rfl) ?_ | refine zbk rfl rfl (zaa rfl) (does_nil_fn rfl rfl) ?_)
  all_goals refine kops_eff rfl (zaa rfl) (zbd rfl ti3 rfl rfl rfl rfl rfl rfl (by decide) (by decide)) ?_
  all_goals refine kops_nil ?_
  all_goals (repeat (first | refine kw_seq ?_ | refine zap ?_ | refine kw_skip ?_ | refine zar ?_ | refine kw_block ?_))
  all_goals refine kw_region ?_
  all_goals (first | refine zbk rfl rfl (zaa rfl) (mv_ptr (.inl rfl) rfl) ?_ | refine zbk rfl rfl (zaa rfl) (mv_ref (.inl rfl) rfl) ?_ | refine zbk rfl rfl (zaa rfl) (mv_s (.inl rfl) rfl) ?_)
  all_goals (first | refine zbk rfl rfl (zaa rfl) (does_nil_ptr rfl rfl) ?_ | refine zbk rfl rfl (zaa rfl) (does_nil_ref rfl rfl) ?_ | refine zbk rfl rfl (zaa rfl) (does_nil_fn rfl rfl) ?_)
  all_goals (first | refine zbk rfl rfl (zaa rfl) (zan rfl ta3 rfl) ?_ | refine zbk rfl rfl (zaa rfl) (zas rfl ta3 rfl rfl rfl rfl rfl) ?_)
  all_goals (first | refine kops_opP rfl rfl (zaa rfl) (zbh rfl rfl rfl) (fun h17 => ?_) (fun h17 => ?_) | refine kops_opB rfl rfl (zaa rfl) (zbh rfl rfl rfl) (fun h17 => ?_) (fun h17 => ?_))
  all_goals refine zbk rfl rfl (zaa rfl) (mv_s (.inl rfl) rfl) ?_
  all_goals (first | refine zbk rfl rfl (zah rfl rfl rfl) (mv_s (.inl rfl) rfl) ?_ | refine kops_skip rfl rfl (zaw rfl rfl rfl) ?_ | refine kops_skip rfl rfl (zau rfl rfl rfl) ?_)
  all_goals (first | refine kops_opP rfl rfl (zah rfl rfl rfl) (does_gtr rfl rfl rfl) (fun h20 => ?_) (fun h20 => ?_) | refine kops_opB rfl rfl (zah rfl rfl rfl) (does_gtr rfl rfl rfl) (fun h20 => ?_) (fun h20 => ?_) | refine kops_skip rfl rfl (zaw rfl rfl rfl) ?_ | refine kops_skip rfl rfl (zau rfl rfl rfl) ?_)
  all_goals (first | refine zbk rfl rfl (zaa rfl) (pickT_s rfl rfl rfl) ?_ | refine zbk rfl rfl (zaa rfl) (pickF_s rfl rfl rfl) ?_ | refine zbk rfl rfl (zaa rfl) (zbi rfl rfl rfl) ?_ | refine zbk rfl rfl (zaa rfl) (zbj rfl rfl rfl) ?_)
  all_goals refine zbk rfl rfl (zaa rfl) (mv_s (.inl rfl) rfl) ?_
  all_goals (first | refine zbk rfl rfl (zah rfl rfl rfl) (zao rfl tf29_3 (by decide) rfl) ?_ | refine zbk rfl rfl (zah rfl rfl rfl) (zal rfl tf29_3 (by decide) rfl) ?_ | refine kops_skip rfl rfl (zaw rfl rfl rfl) ?_ | refine kops_skip rfl rfl (zau rfl rfl rfl) ?_)
  all_goals (first | refine zbk rfl rfl (zah rfl rfl rfl) (zan rfl ta27 rfl) ?_ | refine zbk rfl rfl (zah rfl rfl rfl) (zas rfl ta27 rfl rfl rfl rfl rfl) ?_ | refine kops_skip rfl rfl (zaw rfl rfl rfl) ?_ | refine kops_skip rfl rfl (zau rfl rfl rfl) ?_)
  all_goals (first | refine zbk rfl rfl (zah rfl rfl rfl) (za3 rfl ts27 rfl) ?_ | refine zbk rfl rfl (zah rfl rfl rfl) (za8 rfl ts27 rfl) ?_ | refine zbk rfl rfl (zah rfl rfl rfl) (za0 rfl ts27 rfl) ?_ | refine zbk rfl rfl (zah rfl rfl rfl) (zbe rfl ts27 rfl) ?_ | refine zbk rfl rfl (zah rfl rfl rfl) (za1 rfl ts27 rfl) ?_ | refine kops_skip rfl rfl (zaw rfl rfl rfl) ?_ | refine kops_skip rfl rfl (zau rfl rfl rfl) ?_)
  all_goals (first | refine kops_opP rfl rfl (zah rfl rfl rfl) (does_gtr rfl rfl rfl) (fun h26 => ?_) (fun h26 => ?_) | refine kops_opB rfl rfl (zah rfl rfl rfl) (does_gtr rfl rfl rfl) (fun h26 => ?_) (fun h26 => ?_) | refine kops_skip rfl rfl (zaw rfl rfl rfl) ?_ | refine kops_skip rfl rfl (zau rfl rfl rfl) ?_)
  all_goals (first | refine zbk rfl rfl (zaa rfl) (pickT_s rfl rfl rfl) ?_ | refine zbk rfl rfl (zaa rfl) (pickF_s rfl rfl rfl) ?_ | refine zbk rfl rfl (zaa rfl) (zbi rfl rfl rfl) ?_ | refine zbk rfl rfl (zaa rfl) (zbj rfl rfl rfl) ?_)
  all_goals refine kops_nil ?_
  all_goals (repeat (first | refine kw_seq ?_ | refine zap ?_ | refine kw_skip ?_ | refine zar ?_ | refine kw_block ?_))
  all_goals (first | refine kw_true rfl ?_ | refine kw_false rfl ?_)
  all_goals (repeat (first | refine kw_seq ?_ | refine zap ?_ | refine kw_skip ?_ | refine zar ?_ | refine kw_block ?_))
  all_goals first
    | skip
      all_goals refine kw_region ?_
      all_goals refine zbk rfl rfl (zaa rfl) (mv_s (.inr rfl) rfl) ?_
      all_goals refine kops_nil ?_
      all_goals (repeat (first | refine kw_seq ?_ | refine zap ?_ | refine kw_skip ?_ | refine zar ?_ | refine kw_block ?_))
      refine kw_ret ?_
      exact ⟨.inr rfl, false, n - 1, _, rfl, rfl, by omega, by omega, by simp⟩
    | skip
  all_goals refine kw_region ?_
  all_goals (first | refine zbk rfl rfl (zaa rfl) (zao rfl tf29_2 (by decide) rfl) ?_ | refine zbk rfl rfl (zaa rfl) (zal rfl tf29_2 (by decide) rfl) ?_)
  all_goals (first | refine zbk rfl rfl (zaa rfl) (zan rfl ta26 rfl) ?_ | refine zbk rfl rfl (zaa rfl) (zas rfl ta26 rfl rfl rfl rfl rfl) ?_)
  all_goals (first | refine zbk rfl rfl (zaa rfl) (za3 rfl ts26 rfl) ?_ | refine zbk rfl rfl (zaa rfl) (za8 rfl ts26 rfl) ?_ | refine zbk rfl rfl (zaa rfl) (za0 rfl ts26 rfl) ?_ | refine zbk rfl rfl (zaa rfl) (zbe rfl ts26 rfl) ?_ | refine zbk rfl rfl (zaa rfl) (za1 rfl ts26 rfl) ?_)
  all_goals refine zbk rfl rfl (zaa rfl) (mv_s (.inl rfl) rfl) ?_
  all_goals refine kops_nil ?_
  all_goals (repeat (first | refine kw_seq ?_ | refine zap ?_ | refine kw_skip ?_ | refine zar ?_ | refine kw_block ?_))
  refine kw_bdm (d := 29) (g := eBr) rfl (fun hm1 => ?_)
  unfold maxLen at hm1
  refine kw_loops (S := Nat × Int) (fun s => [(1, .ptr 0 1 0 0), (2, eI d), (29, eL eBr L), (30, eI L.length), (31, eI s.1)]) (fun s => [.row 1 [eI s.2]]) (fun s => s.1 ≤ L.length ∧ 0 ≤ s.2 ∧ s.2 ≤ n - 1) (fun s => L.length - s.1) (0, n - 1) (kwk_st [0] rfl (by decide) ⟨⟨_, rfl, .rowE (by repeat' (first | exact Lo.s _ | exact zai | exact zbf | refine zad ?_ ?_ | refine za5 ?_ ?_ | refine zak ?_ | refine zbg ?_ | refine Lo.cells ?_ | refine Lo.agg _ ?_ | refine Lo.sl _ ?_ | intro _)) rfl⟩, trivial⟩ ⟨.ptr 0 0 1 0 0 rfl, .lo _ (.s _), .lo _ hloL, .lo _ (.s _), .lo _ (.s _), trivial⟩) ⟨Nat.zero_le _, by dsimp only; omega, by dsimp only; omega⟩ (fun s hs => ?_)
  obtain ⟨k, n1⟩ := s
  obtain ⟨hk, hn3, hn4⟩ := hs
  dsimp only at hk hn3 hn4 ⊢
  all_goals (repeat (first | refine kw_seq ?_ | refine zap ?_ | refine kw_skip ?_ | refine zar ?_ | refine kw_block ?_))
  all_goals refine kw_region ?_
  all_goals (first | refine kops_opP rfl rfl (zaa rfl) (zbh rfl rfl rfl) (fun h32 => ?_) (fun h32 => ?_) | refine kops_opB rfl rfl (zaa rfl) (zbh rfl rfl rfl) (fun h32 => ?_) (fun h32 => ?_))
  all_goals refine kops_nil ?_
  all_goals (repeat (first | refine kw_seq ?_ | refine zap ?_ | refine kw_skip ?_ | refine zar ?_ | refine kw_block ?_))
  all_goals (first | refine kw_true rfl ?_ | refine kw_false rfl ?_)
  all_goals (repeat (first | refine kw_seq ?_ | refine zap ?_ | refine kw_skip ?_ | refine zar ?_ | refine kw_block ?_))
  · have hlt : k < L.length := by omega
    have hmem : gti L k ∈ L := gti_mem hlt
    have hc := IH (gti L k) hmem (d + 1) n1 (by omega) (by omega) (by omega) (by omega)
    have hix : (L.map eBr)[k]? = some (eBr (gti L k)) := ix_map hlt
    obtain ⟨⟨sx, tx, Lx, yx⟩, hx⟩ : ∃ x, gti L k = x := ⟨_, rfl⟩
    rw [hx] at hc hix
    have hlx := lo_Br (.mk sx tx Lx yx)
    rw [eBr_mk] at hc hix hlx
    all_goals refine kw_region ?_
    all_goals (first | refine zbk rfl rfl (zaa rfl) (zaz rfl ts26 ti29 rfl rfl rfl hix rfl) ?_ | refine zbk rfl rfl (zaa rfl) (zay rfl ts26 ti29 rfl rfl rfl hix) ?_)
    all_goals (first | refine zbk rfl rfl (zaa rfl) (zax rfl ta29 ti29 rfl rfl) ?_ | refine zbk rfl rfl (zaa rfl) (za6 rfl ta29 ti29 rfl rfl rfl rfl rfl) ?_ | refine zbk rfl rfl (zaa rfl) (zav rfl ta29 ti29 rfl (Nat.le_of_ble_eq_true rfl)) ?_ | refine zbk rfl rfl (zaa rfl) (za7 rfl ta29 ti29 rfl rfl rfl rfl (Nat.le_of_ble_eq_true rfl)) ?_)
    all_goals refine zbk rfl rfl (zaa rfl) (zbt rfl ti29 rfl rfl) ?_
    all_goals refine kops_eff rfl (zaa rfl) (zbd rfl ti29 rfl rfl rfl rfl rfl rfl (by decide) (by decide)) ?_
    all_goals refine kops_nil ?_
    all_goals (repeat (first | refine kw_seq ?_ | refine zap ?_ | refine kw_skip ?_ | refine zar ?_ | refine kw_block ?_))
    all_goals refine kw_region ?_
    all_goals (first | refine zbk rfl rfl (zaa rfl) (zax rfl ta29 ti29 rfl rfl) ?_ | refine zbk rfl rfl (zaa rfl) (za6 rfl ta29 ti29 rfl rfl rfl rfl rfl) ?_ | refine zbk rfl rfl (zaa rfl) (zav rfl ta29 ti29 rfl (Nat.le_of_ble_eq_true rfl)) ?_ | refine zbk rfl rfl (zaa rfl) (za7 rfl ta29 ti29 rfl rfl rfl rfl (Nat.le_of_ble_eq_true rfl)) ?_)
    all_goals (first | refine zbk rfl rfl (zaa rfl) (mv_ptr (.inl rfl) rfl) ?_ | refine zbk rfl rfl (zaa rfl) (mv_ref (.inl rfl) rfl) ?_ | refine zbk rfl rfl (zaa rfl) (mv_s (.inl rfl) rfl) ?_)
    all_goals refine zbk rfl rfl (zaa rfl) (mv_s (.inl rfl) rfl) ?_
    all_goals refine zbk rfl rfl (zaa rfl) (does_add rfl rfl rfl (IntWalk.i64_in _ (by omega))) ?_
    all_goals (refine kops_weak (F' := [(1, .ptr 0 1 0 0), (2, eI d), (29, eL eBr L), (30, eI L.length), (31, eI k), (35, .agg [eI sx, eI tx, eL eBr Lx, eL eF yx]), (36, .ptr 0 1 0 0), (38, eI (d + 1))]) (σ' := [.row 1 [eI n1]]) (kwk_st [0] rfl (by decide) ⟨⟨_, rfl, .rowE (by repeat' (first | exact Lo.s _ | exact zai | exact zbf | refine zad ?_ ?_ | refine za5 ?_ ?_ | refine zak ?_ | refine zbg ?_ | refine Lo.cells ?_ | refine Lo.agg _ ?_ | refine Lo.sl _ ?_ | intro _)) rfl⟩, trivial⟩ ⟨.ptr 0 0 1 0 0 rfl, .lo _ (.s _), .lo _ hloL, .lo _ (.s _), .lo _ (.s _), .lo _ hlx, .ptr 0 0 1 0 0 rfl, .lo _ (.s _), trivial⟩) (kops_cnt rfl rfl (zaa rfl) rfl rfl hc rfl (hF_cons (.ptr _ _ _ _ (by decide)) (hF_cons (.s _) (hF_cons (lo_01 hloL) (hF_cons (.s _) (hF_cons (.s _) (hF_cons (lo_01 hlx) (hF_cons (.ptr _ _ _ _ (by decide)) (hF_cons (.s _) hF_nil)))))))) (fun z n' c1 c2 c3 => ?_)); cases z)
    all_goals (first | refine zbk rfl rfl (zaa rfl) (does_notp rfl rfl) ?_ | refine zbk rfl rfl (zaa rfl) (does_not rfl rfl) ?_)
    all_goals refine kops_nil ?_
    all_goals (repeat (first | refine kw_seq ?_ | refine zap ?_ | refine kw_skip ?_ | refine zar ?_ | refine kw_block ?_))
    all_goals (first | refine kw_true rfl ?_ | refine kw_false rfl ?_)
    all_goals (repeat (first | refine kw_seq ?_ | refine zap ?_ | refine kw_skip ?_ | refine zar ?_ | refine kw_block ?_))
    · skip
      all_goals refine kw_region ?_
      all_goals refine zbk rfl rfl (zaa rfl) (mv_s (.inr rfl) rfl) ?_
      all_goals refine kops_nil ?_
      all_goals (repeat (first | refine kw_seq ?_ | refine zap ?_ | refine kw_skip ?_ | refine zar ?_ | refine kw_block ?_))
      refine kw_ret ?_
      exact ⟨.inr rfl, false, n', _, rfl, rfl, by omega, by omega, by simp⟩
    · have c4 := c3 rfl
      all_goals refine kw_region ?_
      all_goals refine zbk rfl rfl (zaa rfl) (does_add rfl rfl rfl (IntWalk.i64_in _ (by omega))) ?_
      all_goals refine zbk rfl rfl (zaa rfl) (mv_s (.inl rfl) rfl) ?_
      all_goals refine kops_nil ?_
      all_goals (repeat (first | refine kw_seq ?_ | refine zap ?_ | refine kw_skip ?_ | refine zar ?_ | refine kw_block ?_))
      exact ⟨(k + 1, n'), ⟨by dsimp only; omega, by dsimp only; omega, by dsimp only; omega⟩, by dsimp only; omega, kwk_st [0] rfl (by decide) ⟨⟨_, rfl, .rowE (by repeat' (first | exact Lo.s _ | exact zai | exact zbf | refine zad ?_ ?_ | refine za5 ?_ ?_ | refine zak ?_ | refine zbg ?_ | refine Lo.cells ?_ | refine Lo.agg _ ?_ | refine Lo.sl _ ?_ | intro _)) rfl⟩, trivial⟩ ⟨.ptr 0 0 1 0 0 rfl, .lo _ (.s _), .lo _ hloL, .lo _ (.s _), .lo _ (.s _), trivial⟩⟩
  · refine kw_exit ?_
    repeat (first | refine ath_x ?_ | refine abl_hit ?_ | refine abl_miss rfl ?_ | refine zar ?_ | refine zap ?_)
    all_goals (repeat (first | refine kw_seq ?_ | refine zap ?_ | refine kw_skip ?_ | refine zar ?_ | refine kw_block ?_))
    all_goals refine kw_region ?_
    all_goals refine zbk rfl rfl (zaa rfl) (mv_s (.inr rfl) rfl) ?_
    all_goals refine kops_nil ?_
    all_goals (repeat (first | refine kw_seq ?_ | refine zap ?_ | refine kw_skip ?_ | refine zar ?_ | refine kw_block ?_))
    refine kw_ret ?_
    exact ⟨.inr rfl, true, n1, _, rfl, rfl, by omega, by omega, fun _ => hn3⟩
theorem size_pf (b : Br) (d n : Int) (h1 : 0 ≤ d) (h2 : d ≤ 301) (h3 : 0 ≤ n) (h4 : n ≤ 2000) : CallC P 7 (eBr b) d n := size_n (SizeOf.sizeOf b + 1) b d n (Nat.lt_succ_self _) h1 h2 h3 h4
end Go.Proofs.Ytmoipmnhgdmkpaa.Aw
end
section
namespace Go.Proofs.Ytmoipmnhgdmkpaa.Aw
set_option linter.unusedSimpArgs false
set_option linter.unusedVariables false
set_option linter.unusedSectionVars false
open Go.RowKit Go.Proofs
variable {P : Program} [IsP P]

theorem covE_of {d : List Int} {l : List Sft} {p : Pln} {b : Br} (h : chkE d l p b = true) : validS d l = true ∧ covE d l p.c = (true, -1, 0) := by
  unfold chkE at h
  split at h
  · rename_i hk
    obtain ⟨hv, hc, hs, _⟩ := hk
    refine ⟨hv, ?_⟩
    unfold covE
    rw [if_neg (fun g => g ⟨hv, hc⟩), decide_eq_true hs]
    have h1 := shF_ge d l p.c d.length 0
    have h2 : shE d l p.c = -1 := by unfold shE at *; omega
    rw [h2]
  · cases h
set_option maxHeartbeats 4000000 in
theorem lawCheapest_pf (h1 : Pure P 5 [] (eB true)) (d : List Int) (l : List Sft) (p q : Pln) (b : Br) : Pure P 3 [eL eI d, eL eSh l, ePl p, ePl q, eBr b] (eB true) := by
  have h2 := few_pf (P := P) d l
  have h3 := covers_pf (P := P) d l p
  have h4 := covers_pf (P := P) d l q
  have h5 := check_pf (P := P) d l p b
  have h6 := size_pf (P := P) b 0 2000 (by omega) (by omega) (by omega) (by omega)
  have hco := covE_of (d := d) (l := l) (p := p) (b := b)
  have hch := fun (h : chkE d l p b = true) => cheapest h (c := q.c)
  generalize fewB d l = y at h2
  generalize chkE d l p b = ck at h5 hco hch
  have hlb := lo_Br b
  obtain ⟨s, t, L, yb⟩ := b
  rw [eBr_mk] at h5 h6 hlb ⊢
  refine aw_fn (by rw [IsP.eq (P := P)]; exact Try.func3) rfl rfl rfl rfl rfl (zad (by repeat' (first | exact Lo.s _ | exact zai | refine zad ?_ ?_ | refine zak ?_ | refine Lo.cells ?_ | refine Lo.agg _ ?_ | refine Lo.ref _ ?_ | refine Lo.tup _ ?_ | refine Lo.fn _ _ ?_ | refine Lo.sl _ ?_ | intro _)) (zad (zak lo_Sh) (zad (by repeat' (first | exact Lo.s _ | exact zai | refine zad ?_ ?_ | refine zak ?_ | refine Lo.cells ?_ | refine Lo.agg _ ?_ | refine Lo.ref _ ?_ | refine Lo.tup _ ?_ | refine Lo.fn _ _ ?_ | refine Lo.sl _ ?_ | intro _)) (zad (by repeat' (first | exact Lo.s _ | exact zai | refine zad ?_ ?_ | refine zak ?_ | refine Lo.cells ?_ | refine Lo.agg _ ?_ | refine Lo.ref _ ?_ | refine Lo.tup _ ?_ | refine Lo.fn _ _ ?_ | refine Lo.sl _ ?_ | intro _)) (zad hlb zai))))) (.s _) (by simp only [argF]; rfl) ?_
  repeat (first | refine zag ?_ | refine zap ?_ | refine zae ?_ | refine zar ?_ | refine zac ?_)
  refine zaf ?_
  refine zab rfl rfl (zaa rfl) (does_box rfl rfl rfl rfl) ?_
  refine zbo (wk_froz (id := 0) rfl) (zbo (wk_ref (d := 7) rfl rfl rfl) ?_)
  refine zab rfl rfl (zaa rfl) (does_box rfl rfl rfl rfl) ?_
  refine zbo (wk_froz (id := 1) rfl) (zbo (wk_ref (d := 8) rfl rfl rfl) ?_)
  refine zab rfl rfl (zaa rfl) (does_box rfl rfl rfl rfl) ?_
  refine zbo (wk_froz (id := 2) rfl) (zbo (wk_ref (d := 9) rfl rfl rfl) ?_)
  refine zab rfl rfl (zaa rfl) (mv_s (.inr rfl) rfl) ?_
  refine zam ?_
  repeat (first | refine zag ?_ | refine zap ?_ | refine zae ?_ | refine zar ?_ | refine zac ?_)
  refine zaf ?_
  refine zab rfl rfl (zaa rfl) (za2 rfl rfl (h1) zbl) ?_
  first | refine zab rfl rfl (zaa rfl) (does_notp rfl rfl) ?_ | refine zab rfl rfl (zaa rfl) (does_not rfl rfl) ?_
  refine zam ?_
  repeat (first | refine zag ?_ | refine zap ?_ | refine zae ?_ | refine zar ?_ | refine zac ?_)
  refine zbr rfl ?_
  repeat (first | refine zag ?_ | refine zap ?_ | refine zae ?_ | refine zar ?_ | refine zac ?_)
  refine zaf ?_
  refine zab rfl rfl (zaa rfl) (zbt rfl ti3 rfl rfl) ?_
  refine ops_eff rfl (zaa rfl) (zbd rfl ti3 rfl rfl rfl rfl rfl rfl (by decide) (by decide)) ?_
  refine zam ?_
  repeat (first | refine zag ?_ | refine zap ?_ | refine zae ?_ | refine zar ?_ | refine zac ?_)
  refine aw_weak (F' := [(0, eL eI d), (1, eL eSh l), (7, .ref (ePl p).cells), (8, .ref (ePl q).cells), (9, .ref [eI s, eI t, eL eBr L, eL eF yb]), (11, .ptr 0 1 0 0)]) (σ' := [.row 1 [eI 2000]]) (wk_st [3] (by decide) ⟨⟨_, rfl, .rowE (by repeat' (first | exact Lo.s _ | exact zai | exact zbf | refine zad ?_ ?_ | refine za5 ?_ ?_ | refine zak ?_ | refine zbg ?_ | refine Lo.cells ?_ | refine Lo.agg _ ?_ | refine Lo.sl _ ?_ | intro _)) rfl⟩, trivial⟩ ⟨.lo _ (by repeat' (first | exact Lo.s _ | exact zai | refine zad ?_ ?_ | refine zak ?_ | refine Lo.cells ?_ | refine Lo.agg _ ?_ | refine Lo.ref _ ?_ | refine Lo.tup _ ?_ | refine Lo.fn _ _ ?_ | refine Lo.sl _ ?_ | intro _)), .lo _ (zak lo_Sh), .lo _ (by repeat' (first | exact Lo.s _ | exact zai | refine zad ?_ ?_ | refine zak ?_ | refine Lo.cells ?_ | refine Lo.agg _ ?_ | refine Lo.ref _ ?_ | refine Lo.tup _ ?_ | refine Lo.fn _ _ ?_ | refine Lo.sl _ ?_ | intro _)), .lo _ (by repeat' (first | exact Lo.s _ | exact zai | refine zad ?_ ?_ | refine zak ?_ | refine Lo.cells ?_ | refine Lo.agg _ ?_ | refine Lo.ref _ ?_ | refine Lo.tup _ ?_ | refine Lo.fn _ _ ?_ | refine Lo.sl _ ?_ | intro _)), .lo _ (.ref _ hlb.cells), .ptr 3 0 1 0 0 rfl, trivial⟩) ?_
  all_goals refine zaf ?_
  all_goals (first | refine zab rfl rfl (zaa rfl) (za9 (.inl rfl) rfl) ?_ | refine zab rfl rfl (zaa rfl) (zbp (.inl rfl) rfl) ?_ | refine zab rfl rfl (zaa rfl) (mv_s (.inl rfl) rfl) ?_ | refine zab rfl rfl (zaa rfl) (zba (.inl rfl) rfl) ?_)
  all_goals (first | refine zab rfl rfl (zaa rfl) (za9 (.inl rfl) rfl) ?_ | refine zab rfl rfl (zaa rfl) (zbp (.inl rfl) rfl) ?_ | refine zab rfl rfl (zaa rfl) (mv_s (.inl rfl) rfl) ?_ | refine zab rfl rfl (zaa rfl) (zba (.inl rfl) rfl) ?_)
  all_goals (first | refine zbm rfl rfl (zaa rfl) (za2 rfl rfl (h2) (zat rfl (zat rfl zbl))) (fun h25 => ?_) (fun h25 => ?_) | refine zbn rfl rfl (zaa rfl) (za2 rfl rfl (h2) (zat rfl (zat rfl zbl))) (fun h25 => ?_) (fun h25 => ?_))
  all_goals (first | refine zab rfl rfl (zaa rfl) (does_notp rfl rfl) ?_ | refine zab rfl rfl (zaa rfl) (does_not rfl rfl) ?_)
  all_goals refine zab rfl rfl (zaa rfl) (mv_s (.inl rfl) rfl) ?_
  all_goals (first | refine zab rfl rfl (zah rfl rfl rfl) (zao rfl tf25_0 (by decide) rfl) ?_ | refine zab rfl rfl (zah rfl rfl rfl) (zal rfl tf25_0 (by decide) rfl) ?_ | refine zaj rfl rfl (zaw rfl rfl rfl) ?_ | refine zaj rfl rfl (zau rfl rfl rfl) ?_)
  all_goals (first | refine zab rfl rfl (zah rfl rfl rfl) (zan rfl ta22 rfl) ?_ | refine zab rfl rfl (zah rfl rfl rfl) (zas rfl ta22 rfl rfl rfl rfl rfl) ?_ | refine zaj rfl rfl (zaw rfl rfl rfl) ?_ | refine zaj rfl rfl (zau rfl rfl rfl) ?_)
  all_goals (first | refine zab rfl rfl (zah rfl rfl rfl) (za3 rfl ts22 rfl) ?_ | refine zab rfl rfl (zah rfl rfl rfl) (za8 rfl ts22 rfl) ?_ | refine zab rfl rfl (zah rfl rfl rfl) (za0 rfl ts22 rfl) ?_ | refine zab rfl rfl (zah rfl rfl rfl) (zbe rfl ts22 rfl) ?_ | refine zab rfl rfl (zah rfl rfl rfl) (za1 rfl ts22 rfl) ?_ | refine zaj rfl rfl (zaw rfl rfl rfl) ?_ | refine zaj rfl rfl (zau rfl rfl rfl) ?_)
  all_goals (first | refine zbm rfl rfl (zah rfl rfl rfl) (does_gtr rfl rfl rfl) (fun h31 => ?_) (fun h31 => ?_) | refine zbn rfl rfl (zah rfl rfl rfl) (does_gtr rfl rfl rfl) (fun h31 => ?_) (fun h31 => ?_) | refine zaj rfl rfl (zaw rfl rfl rfl) ?_ | refine zaj rfl rfl (zau rfl rfl rfl) ?_)
  all_goals (first | refine zab rfl rfl (zaa rfl) (pickT_s rfl rfl rfl) ?_ | refine zab rfl rfl (zaa rfl) (pickF_s rfl rfl rfl) ?_ | refine zab rfl rfl (zaa rfl) (zbi rfl rfl rfl) ?_ | refine zab rfl rfl (zaa rfl) (zbj rfl rfl rfl) ?_)
  all_goals refine zab rfl rfl (zaa rfl) (mv_s (.inl rfl) rfl) ?_
  all_goals (first | refine zab rfl rfl (zah rfl rfl rfl) (zao rfl tf25_0 (by decide) rfl) ?_ | refine zab rfl rfl (zah rfl rfl rfl) (zal rfl tf25_0 (by decide) rfl) ?_ | refine zaj rfl rfl (zaw rfl rfl rfl) ?_ | refine zaj rfl rfl (zau rfl rfl rfl) ?_)
  all_goals (first | refine zab rfl rfl (zah rfl rfl rfl) (zan rfl ta22 rfl) ?_ | refine zab rfl rfl (zah rfl rfl rfl) (zas rfl ta22 rfl rfl rfl rfl rfl) ?_ | refine zaj rfl rfl (zaw rfl rfl rfl) ?_ | refine zaj rfl rfl (zau rfl rfl rfl) ?_)
  all_goals (first | refine zab rfl rfl (zah rfl rfl rfl) (za3 rfl ts22 rfl) ?_ | refine zab rfl rfl (zah rfl rfl rfl) (za8 rfl ts22 rfl) ?_ | refine zab rfl rfl (zah rfl rfl rfl) (za0 rfl ts22 rfl) ?_ | refine zab rfl rfl (zah rfl rfl rfl) (zbe rfl ts22 rfl) ?_ | refine zab rfl rfl (zah rfl rfl rfl) (za1 rfl ts22 rfl) ?_ | refine zaj rfl rfl (zaw rfl rfl rfl) ?_ | refine zaj rfl rfl (zau rfl rfl rfl) ?_)
  all_goals (first | refine zbm rfl rfl (zah rfl rfl rfl) (does_gtr rfl rfl rfl) (fun h37 => ?_) (fun h37 => ?_) | refine zbn rfl rfl (zah rfl rfl rfl) (does_gtr rfl rfl rfl) (fun h37 => ?_) (fun h37 => ?_) | refine zaj rfl rfl (zaw rfl rfl rfl) ?_ | refine zaj rfl rfl (zau rfl rfl rfl) ?_)
  all_goals (first | refine zab rfl rfl (zaa rfl) (pickT_s rfl rfl rfl) ?_ | refine zab rfl rfl (zaa rfl) (pickF_s rfl rfl rfl) ?_ | refine zab rfl rfl (zaa rfl) (zbi rfl rfl rfl) ?_ | refine zab rfl rfl (zaa rfl) (zbj rfl rfl rfl) ?_)
  all_goals refine zab rfl rfl (zaa rfl) (mv_s (.inl rfl) rfl) ?_
  all_goals (first | refine zab rfl rfl (zah rfl rfl rfl) (zax rfl ta29 ti29 rfl rfl) ?_ | refine zab rfl rfl (zah rfl rfl rfl) (za6 rfl ta29 ti29 rfl rfl rfl rfl rfl) ?_ | refine zab rfl rfl (zah rfl rfl rfl) (zav rfl ta29 ti29 rfl (Nat.le_of_ble_eq_true rfl)) ?_ | refine zab rfl rfl (zah rfl rfl rfl) (za7 rfl ta29 ti29 rfl rfl rfl rfl (Nat.le_of_ble_eq_true rfl)) ?_ | refine zaj rfl rfl (zaw rfl rfl rfl) ?_ | refine zaj rfl rfl (zau rfl rfl rfl) ?_)
  all_goals (first | (refine zbo (F' := [(0, eL eI d), (1, eL eSh l), (7, .ref (ePl p).cells), (8, .ref (ePl q).cells), (9, .ref [eI s, eI t, eL eBr L, eL eF yb]), (11, .ptr 0 1 0 0), (39, eB false), (40, .agg [eI s, eI t, eL eBr L, eL eF yb])]) (σ' := [.row 1 [eI 2000]]) (wk_st [0] (by decide) ⟨⟨_, rfl, .rowE (by repeat' (first | exact Lo.s _ | exact zai | exact zbf | refine zad ?_ ?_ | refine za5 ?_ ?_ | refine zak ?_ | refine zbg ?_ | refine Lo.cells ?_ | refine Lo.agg _ ?_ | refine Lo.sl _ ?_ | intro _)) rfl⟩, trivial⟩ ⟨.lo _ (by repeat' (first | exact Lo.s _ | exact zai | refine zad ?_ ?_ | refine zak ?_ | refine Lo.cells ?_ | refine Lo.agg _ ?_ | refine Lo.ref _ ?_ | refine Lo.tup _ ?_ | refine Lo.fn _ _ ?_ | refine Lo.sl _ ?_ | intro _)), .lo _ (zak lo_Sh), .lo _ (by repeat' (first | exact Lo.s _ | exact zai | refine zad ?_ ?_ | refine zak ?_ | refine Lo.cells ?_ | refine Lo.agg _ ?_ | refine Lo.ref _ ?_ | refine Lo.tup _ ?_ | refine Lo.fn _ _ ?_ | refine Lo.sl _ ?_ | intro _)), .lo _ (by repeat' (first | exact Lo.s _ | exact zai | refine zad ?_ ?_ | refine zak ?_ | refine Lo.cells ?_ | refine Lo.agg _ ?_ | refine Lo.ref _ ?_ | refine Lo.tup _ ?_ | refine Lo.fn _ _ ?_ | refine Lo.sl _ ?_ | intro _)), .lo _ (.ref _ hlb.cells), .ptr 0 0 1 0 0 rfl, .lo _ (.s _), .lo _ hlb, trivial⟩) (ops_cnt rfl rfl (zah rfl rfl rfl) rfl rfl h6 rfl (hF_cons (lo_01 (by repeat' (first | exact Lo.s _ | exact zai | refine zad ?_ ?_ | refine zak ?_ | refine Lo.cells ?_ | refine Lo.agg _ ?_ | refine Lo.ref _ ?_ | refine Lo.tup _ ?_ | refine Lo.fn _ _ ?_ | refine Lo.sl _ ?_ | intro _))) (hF_cons (lo_01 (zak lo_Sh)) (hF_cons (lo_01 (by repeat' (first | exact Lo.s _ | exact zai | refine zad ?_ ?_ | refine zak ?_ | refine Lo.cells ?_ | refine Lo.agg _ ?_ | refine Lo.ref _ ?_ | refine Lo.tup _ ?_ | refine Lo.fn _ _ ?_ | refine Lo.sl _ ?_ | intro _))) (hF_cons (lo_01 (by repeat' (first | exact Lo.s _ | exact zai | refine zad ?_ ?_ | refine zak ?_ | refine Lo.cells ?_ | refine Lo.agg _ ?_ | refine Lo.ref _ ?_ | refine Lo.tup _ ?_ | refine Lo.fn _ _ ?_ | refine Lo.sl _ ?_ | intro _))) (hF_cons (lo_01 (.ref _ hlb.cells)) (hF_cons (.ptr _ _ _ _ (by decide)) (hF_cons (.s _) (hF_cons (lo_01 hlb) hF_nil)))))))) (fun z n' c1 c2 c3 => ?_)); cases z) | refine zaj rfl rfl (zaw rfl rfl rfl) ?_ | refine zaj rfl rfl (zau rfl rfl rfl) ?_)
  all_goals (first | refine zab rfl rfl (zah rfl rfl rfl) (does_notp rfl rfl) ?_ | refine zab rfl rfl (zah rfl rfl rfl) (does_not rfl rfl) ?_ | refine zaj rfl rfl (zaw rfl rfl rfl) ?_ | refine zaj rfl rfl (zau rfl rfl rfl) ?_)
  all_goals (first | refine zab rfl rfl (zaa rfl) (pickT_s rfl rfl rfl) ?_ | refine zab rfl rfl (zaa rfl) (pickF_s rfl rfl rfl) ?_ | refine zab rfl rfl (zaa rfl) (zbi rfl rfl rfl) ?_ | refine zab rfl rfl (zaa rfl) (zbj rfl rfl rfl) ?_)
  all_goals refine zab rfl rfl (zaa rfl) (mv_s (.inl rfl) rfl) ?_
  all_goals (first | refine zab rfl rfl (zah rfl rfl rfl) (za9 (.inl rfl) rfl) ?_ | refine zab rfl rfl (zah rfl rfl rfl) (zbp (.inl rfl) rfl) ?_ | refine zab rfl rfl (zah rfl rfl rfl) (mv_s (.inl rfl) rfl) ?_ | refine zab rfl rfl (zah rfl rfl rfl) (zba (.inl rfl) rfl) ?_ | refine zaj rfl rfl (zaw rfl rfl rfl) ?_ | refine zaj rfl rfl (zau rfl rfl rfl) ?_)
  all_goals (first | refine zab rfl rfl (zah rfl rfl rfl) (za9 (.inl rfl) rfl) ?_ | refine zab rfl rfl (zah rfl rfl rfl) (zbp (.inl rfl) rfl) ?_ | refine zab rfl rfl (zah rfl rfl rfl) (mv_s (.inl rfl) rfl) ?_ | refine zab rfl rfl (zah rfl rfl rfl) (zba (.inl rfl) rfl) ?_ | refine zaj rfl rfl (zaw rfl rfl rfl) ?_ | refine zaj rfl rfl (zau rfl rfl rfl) ?_)
  all_goals (first | refine zab rfl rfl (zah rfl rfl rfl) (zax rfl ta25 ti25 rfl rfl) ?_ | refine zab rfl rfl (zah rfl rfl rfl) (za6 rfl ta25 ti25 rfl rfl rfl rfl rfl) ?_ | refine zab rfl rfl (zah rfl rfl rfl) (zav rfl ta25 ti25 rfl (Nat.le_of_ble_eq_true rfl)) ?_ | refine zab rfl rfl (zah rfl rfl rfl) (za7 rfl ta25 ti25 rfl rfl rfl rfl (Nat.le_of_ble_eq_true rfl)) ?_ | refine zaj rfl rfl (zaw rfl rfl rfl) ?_ | refine zaj rfl rfl (zau rfl rfl rfl) ?_)
  all_goals (first | refine zab rfl rfl (zah rfl rfl rfl) (zax rfl ta29 ti29 rfl rfl) ?_ | refine zab rfl rfl (zah rfl rfl rfl) (za6 rfl ta29 ti29 rfl rfl rfl rfl rfl) ?_ | refine zab rfl rfl (zah rfl rfl rfl) (zav rfl ta29 ti29 rfl (Nat.le_of_ble_eq_true rfl)) ?_ | refine zab rfl rfl (zah rfl rfl rfl) (za7 rfl ta29 ti29 rfl rfl rfl rfl (Nat.le_of_ble_eq_true rfl)) ?_ | refine zaj rfl rfl (zaw rfl rfl rfl) ?_ | refine zaj rfl rfl (zau rfl rfl rfl) ?_)
  all_goals (first | refine zbm rfl rfl (zah rfl rfl rfl) (za2 rfl rfl (h5) (zat rfl (zat rfl (zat rfl (zat rfl zbl))))) (fun h49 => ?_) (fun h49 => ?_) | refine zbn rfl rfl (zah rfl rfl rfl) (za2 rfl rfl (h5) (zat rfl (zat rfl (zat rfl (zat rfl zbl))))) (fun h49 => ?_) (fun h49 => ?_) | refine zaj rfl rfl (zaw rfl rfl rfl) ?_ | refine zaj rfl rfl (zau rfl rfl rfl) ?_)
  all_goals (first | refine zab rfl rfl (zah rfl rfl rfl) (does_notp rfl rfl) ?_ | refine zab rfl rfl (zah rfl rfl rfl) (does_not rfl rfl) ?_ | refine zaj rfl rfl (zaw rfl rfl rfl) ?_ | refine zaj rfl rfl (zau rfl rfl rfl) ?_)
  all_goals (first | refine zab rfl rfl (zaa rfl) (pickT_s rfl rfl rfl) ?_ | refine zab rfl rfl (zaa rfl) (pickF_s rfl rfl rfl) ?_ | refine zab rfl rfl (zaa rfl) (zbi rfl rfl rfl) ?_ | refine zab rfl rfl (zaa rfl) (zbj rfl rfl rfl) ?_)
  all_goals refine zam ?_
  all_goals (repeat (first | refine zag ?_ | refine zap ?_ | refine zae ?_ | refine zar ?_ | refine zac ?_))
  all_goals (first | refine zbv rfl ?_ | refine zbr rfl ?_)
  all_goals (repeat (first | refine zag ?_ | refine zap ?_ | refine zae ?_ | refine zar ?_ | refine zac ?_))
  all_goals first
    | skip
      refine zaf ?_
      refine zab rfl rfl (zaa rfl) (mv_s (.inr rfl) rfl) ?_
      refine zam ?_
      repeat (first | refine zag ?_ | refine zap ?_ | refine zae ?_ | refine zar ?_ | refine zac ?_)
      (refine zbw ?_; repeat (first | refine ath_r ?_ | refine abl_r ?_))
      exact post1 (.inr rfl) rfl rfl
    | skip
  obtain ⟨hv, hcv⟩ := hco h49
  have hcst := hch h49
  rw [hcv] at h3
  replace h3 : Pure P 9 [eL eI d, eL eSh l, ePl p] (.tup [eB true, eI (-1), eI 0]) := h3
  refine zaf ?_
  first | refine zab rfl rfl (zaa rfl) (za9 (.inl rfl) rfl) ?_ | refine zab rfl rfl (zaa rfl) (zbp (.inl rfl) rfl) ?_ | refine zab rfl rfl (zaa rfl) (mv_s (.inl rfl) rfl) ?_ | refine zab rfl rfl (zaa rfl) (zba (.inl rfl) rfl) ?_
  first | refine zab rfl rfl (zaa rfl) (za9 (.inl rfl) rfl) ?_ | refine zab rfl rfl (zaa rfl) (zbp (.inl rfl) rfl) ?_ | refine zab rfl rfl (zaa rfl) (mv_s (.inl rfl) rfl) ?_ | refine zab rfl rfl (zaa rfl) (zba (.inl rfl) rfl) ?_
  first | refine zab rfl rfl (zaa rfl) (zax rfl ta25 ti25 rfl rfl) ?_ | refine zab rfl rfl (zaa rfl) (za6 rfl ta25 ti25 rfl rfl rfl rfl rfl) ?_ | refine zab rfl rfl (zaa rfl) (zav rfl ta25 ti25 rfl (Nat.le_of_ble_eq_true rfl)) ?_ | refine zab rfl rfl (zaa rfl) (za7 rfl ta25 ti25 rfl rfl rfl rfl (Nat.le_of_ble_eq_true rfl)) ?_
  refine zab rfl rfl (zaa rfl) (za2 rfl rfl (h3) (zat rfl (zat rfl (zat rfl zbl)))) ?_
  first | refine zab rfl rfl (zaa rfl) (mv_tup (.inl rfl) rfl) ?_ | refine zab rfl rfl (zaa rfl) (mv_s (.inl rfl) rfl) ?_
  refine zab rfl rfl (zaa rfl) (zbb rfl rfl rfl) ?_
  refine zab rfl rfl (zaa rfl) (zbb rfl rfl rfl) ?_
  refine zab rfl rfl (zaa rfl) (zbb rfl rfl rfl) ?_
  refine zab rfl rfl (zaa rfl) (mv_s (.inr rfl) rfl) ?_
  refine zab rfl rfl (zaa rfl) (mv_s (.inr rfl) rfl) ?_
  refine zab rfl rfl (zaa rfl) (mv_s (.inr rfl) rfl) ?_
  refine zam ?_
  repeat (first | refine zag ?_ | refine zap ?_ | refine zae ?_ | refine zar ?_ | refine zac ?_)
  refine zaf ?_
  refine zab rfl rfl (zaa rfl) (mv_s (.inl rfl) rfl) ?_
  refine zab rfl rfl (zaa rfl) (dec_f (fun h => h rfl) (does_neq rfl rfl rfl)) ?_
  refine zab rfl rfl (zaa rfl) (mv_s (.inl rfl) rfl) ?_
  first | refine zab rfl rfl (zah rfl rfl rfl) (mv_s (.inl rfl) rfl) ?_ | refine zaj rfl rfl (zaw rfl rfl rfl) ?_ | refine zaj rfl rfl (zau rfl rfl rfl) ?_
  first | refine zab rfl rfl (zah rfl rfl rfl) (does_notp rfl rfl) ?_ | refine zab rfl rfl (zah rfl rfl rfl) (does_not rfl rfl) ?_ | refine zaj rfl rfl (zaw rfl rfl rfl) ?_ | refine zaj rfl rfl (zau rfl rfl rfl) ?_
  first | refine zab rfl rfl (zaa rfl) (pickT_s rfl rfl rfl) ?_ | refine zab rfl rfl (zaa rfl) (pickF_s rfl rfl rfl) ?_ | refine zab rfl rfl (zaa rfl) (zbi rfl rfl rfl) ?_ | refine zab rfl rfl (zaa rfl) (zbj rfl rfl rfl) ?_
  refine zab rfl rfl (zaa rfl) (mv_s (.inl rfl) rfl) ?_
  first | refine zab rfl rfl (zah rfl rfl rfl) (mv_s (.inl rfl) rfl) ?_ | refine zaj rfl rfl (zaw rfl rfl rfl) ?_ | refine zaj rfl rfl (zau rfl rfl rfl) ?_
  first | refine zab rfl rfl (zah rfl rfl rfl) (dec_f (fun h => h rfl) (does_neq rfl rfl rfl)) ?_ | refine zaj rfl rfl (zaw rfl rfl rfl) ?_ | refine zaj rfl rfl (zau rfl rfl rfl) ?_
  first | refine zab rfl rfl (zaa rfl) (pickT_s rfl rfl rfl) ?_ | refine zab rfl rfl (zaa rfl) (pickF_s rfl rfl rfl) ?_ | refine zab rfl rfl (zaa rfl) (zbi rfl rfl rfl) ?_ | refine zab rfl rfl (zaa rfl) (zbj rfl rfl rfl) ?_
  refine zam ?_
  repeat (first | refine zag ?_ | refine zap ?_ | refine zae ?_ | refine zar ?_ | refine zac ?_)
  refine zbr rfl ?_
  repeat (first | refine zag ?_ | refine zap ?_ | refine zae ?_ | refine zar ?_ | refine zac ?_)
  by_cases hcq : cntB l q.c = true
  · have hcE : covE d l q.c = (decide (shE d l q.c < 0), shE d l q.c, 0) := by unfold covE; rw [if_neg (fun g => g ⟨hv, hcq⟩)]
    rw [hcE] at h4
    by_cases hs : shE d l q.c < 0
    · rw [decide_eq_true hs] at h4
      replace h4 : Pure P 9 [eL eI d, eL eSh l, ePl q] (.tup [eB true, eI (shE d l q.c), eI 0]) := h4
      have hle := hcst hcq hs
      have hok := okC_of hv hcq
      have hcl := hok.1
      obtain ⟨⟨q1, q2, q3⟩, qd, ql⟩ := validS_iff hv
      refine zaf ?_
      first | refine zab rfl rfl (zaa rfl) (za9 (.inl rfl) rfl) ?_ | refine zab rfl rfl (zaa rfl) (zbp (.inl rfl) rfl) ?_ | refine zab rfl rfl (zaa rfl) (mv_s (.inl rfl) rfl) ?_ | refine zab rfl rfl (zaa rfl) (zba (.inl rfl) rfl) ?_
      first | refine zab rfl rfl (zaa rfl) (za9 (.inl rfl) rfl) ?_ | refine zab rfl rfl (zaa rfl) (zbp (.inl rfl) rfl) ?_ | refine zab rfl rfl (zaa rfl) (mv_s (.inl rfl) rfl) ?_ | refine zab rfl rfl (zaa rfl) (zba (.inl rfl) rfl) ?_
      first | refine zab rfl rfl (zaa rfl) (zax rfl ta25 ti25 rfl rfl) ?_ | refine zab rfl rfl (zaa rfl) (za6 rfl ta25 ti25 rfl rfl rfl rfl rfl) ?_ | refine zab rfl rfl (zaa rfl) (zav rfl ta25 ti25 rfl (Nat.le_of_ble_eq_true rfl)) ?_ | refine zab rfl rfl (zaa rfl) (za7 rfl ta25 ti25 rfl rfl rfl rfl (Nat.le_of_ble_eq_true rfl)) ?_
      refine zab rfl rfl (zaa rfl) (za2 rfl rfl (h4) (zat rfl (zat rfl (zat rfl zbl)))) ?_
      first | refine zab rfl rfl (zaa rfl) (mv_tup (.inl rfl) rfl) ?_ | refine zab rfl rfl (zaa rfl) (mv_s (.inl rfl) rfl) ?_
      refine zab rfl rfl (zaa rfl) (zbb rfl rfl rfl) ?_
      refine zab rfl rfl (zaa rfl) (zbb rfl rfl rfl) ?_
      refine zab rfl rfl (zaa rfl) (zbb rfl rfl rfl) ?_
      refine zab rfl rfl (zaa rfl) (mv_s (.inr rfl) rfl) ?_
      refine zab rfl rfl (zaa rfl) (mv_s (.inr rfl) rfl) ?_
      refine zab rfl rfl (zaa rfl) (mv_s (.inr rfl) rfl) ?_
      refine zam ?_
      repeat (first | refine zag ?_ | refine zap ?_ | refine zae ?_ | refine zar ?_ | refine zac ?_)
      refine zaf ?_
      refine zab rfl rfl (zaa rfl) (mv_s (.inl rfl) rfl) ?_
      refine zab rfl rfl (zaa rfl) (dec_f (fun h => h rfl) (does_neq rfl rfl rfl)) ?_
      refine zab rfl rfl (zaa rfl) (mv_s (.inl rfl) rfl) ?_
      first | refine zab rfl rfl (zah rfl rfl rfl) (mv_s (.inl rfl) rfl) ?_ | refine zaj rfl rfl (zaw rfl rfl rfl) ?_ | refine zaj rfl rfl (zau rfl rfl rfl) ?_
      first | refine zab rfl rfl (zah rfl rfl rfl) (does_notp rfl rfl) ?_ | refine zab rfl rfl (zah rfl rfl rfl) (does_not rfl rfl) ?_ | refine zaj rfl rfl (zaw rfl rfl rfl) ?_ | refine zaj rfl rfl (zau rfl rfl rfl) ?_
      first | refine zab rfl rfl (zaa rfl) (pickT_s rfl rfl rfl) ?_ | refine zab rfl rfl (zaa rfl) (pickF_s rfl rfl rfl) ?_ | refine zab rfl rfl (zaa rfl) (zbi rfl rfl rfl) ?_ | refine zab rfl rfl (zaa rfl) (zbj rfl rfl rfl) ?_
      refine zam ?_
      repeat (first | refine zag ?_ | refine zap ?_ | refine zae ?_ | refine zar ?_ | refine zac ?_)
      refine zbr rfl ?_
      repeat (first | refine zag ?_ | refine zap ?_ | refine zae ?_ | refine zar ?_ | refine zac ?_)
      refine zaf ?_
      refine zab rfl rfl (zaa rfl) (mv_s (.inr rfl) rfl) ?_
      refine zam ?_
      repeat (first | refine zag ?_ | refine zap ?_ | refine zae ?_ | refine zar ?_ | refine zac ?_)
      refine zaf ?_
      first | refine zab rfl rfl (zaa rfl) (zao rfl tf25_0 (by decide) rfl) ?_ | refine zab rfl rfl (zaa rfl) (zal rfl tf25_0 (by decide) rfl) ?_
      first | refine zab rfl rfl (zaa rfl) (zan rfl ta22 rfl) ?_ | refine zab rfl rfl (zaa rfl) (zas rfl ta22 rfl rfl rfl rfl rfl) ?_
      first | refine zab rfl rfl (zaa rfl) (za3 rfl ts22 rfl) ?_ | refine zab rfl rfl (zaa rfl) (za8 rfl ts22 rfl) ?_ | refine zab rfl rfl (zaa rfl) (za0 rfl ts22 rfl) ?_ | refine zab rfl rfl (zaa rfl) (zbe rfl ts22 rfl) ?_ | refine zab rfl rfl (zaa rfl) (za1 rfl ts22 rfl) ?_
      refine zab rfl rfl (zaa rfl) (mv_s (.inl rfl) rfl) ?_
      refine zam ?_
      repeat (first | refine zag ?_ | refine zap ?_ | refine zae ?_ | refine zar ?_ | refine zac ?_)
      refine aw_loops (S := Nat) (fun k => [(1, eL eSh l), (7, .ref (ePl p).cells), (91, eL eI q.c), (92, eI q.c.length), (93, eI k), (18, eI (prcP l q.c k))]) (fun _ => []) (fun k => k ≤ q.c.length) (fun k => q.c.length - k) 0 (wk_st [] (by decide) trivial ⟨.lo _ (zak lo_Sh), .lo _ (by repeat' (first | exact Lo.s _ | exact zai | refine zad ?_ ?_ | refine zak ?_ | refine Lo.cells ?_ | refine Lo.agg _ ?_ | refine Lo.ref _ ?_ | refine Lo.tup _ ?_ | refine Lo.fn _ _ ?_ | refine Lo.sl _ ?_ | intro _)), .lo _ (by repeat' (first | exact Lo.s _ | exact zai | refine zad ?_ ?_ | refine zak ?_ | refine Lo.cells ?_ | refine Lo.agg _ ?_ | refine Lo.ref _ ?_ | refine Lo.tup _ ?_ | refine Lo.fn _ _ ?_ | refine Lo.sl _ ?_ | intro _)), .lo _ (by repeat' (first | exact Lo.s _ | exact zai | refine zad ?_ ?_ | refine zak ?_ | refine Lo.cells ?_ | refine Lo.agg _ ?_ | refine Lo.ref _ ?_ | refine Lo.tup _ ?_ | refine Lo.fn _ _ ?_ | refine Lo.sl _ ?_ | intro _)), .lo _ (by repeat' (first | exact Lo.s _ | exact zai | refine zad ?_ ?_ | refine zak ?_ | refine Lo.cells ?_ | refine Lo.agg _ ?_ | refine Lo.ref _ ?_ | refine Lo.tup _ ?_ | refine Lo.fn _ _ ?_ | refine Lo.sl _ ?_ | intro _)), .lo _ (by repeat' (first | exact Lo.s _ | exact zai | refine zad ?_ ?_ | refine zak ?_ | refine Lo.cells ?_ | refine Lo.agg _ ?_ | refine Lo.ref _ ?_ | refine Lo.tup _ ?_ | refine Lo.fn _ _ ?_ | refine Lo.sl _ ?_ | intro _)), trivial⟩) (Nat.zero_le _) (fun k hk => ?_)
      repeat (first | refine zag ?_ | refine zap ?_ | refine zae ?_ | refine zar ?_ | refine zac ?_)
      have hbd := prcP_bd hv hok k (by omega)
      all_goals refine zaf ?_
      all_goals (first | refine zbm rfl rfl (zaa rfl) (zbh rfl rfl rfl) (fun h94 => ?_) (fun h94 => ?_) | refine zbn rfl rfl (zaa rfl) (zbh rfl rfl rfl) (fun h94 => ?_) (fun h94 => ?_))
      all_goals refine zam ?_
      all_goals (repeat (first | refine zag ?_ | refine zap ?_ | refine zae ?_ | refine zar ?_ | refine zac ?_))
      all_goals (first | refine zbv rfl ?_ | refine zbr rfl ?_)
      all_goals (repeat (first | refine zag ?_ | refine zap ?_ | refine zae ?_ | refine zar ?_ | refine zac ?_))
      · have hlt : k < q.c.length := by omega
        have hlt2 : k < l.length := by omega
        have hb1 := (ql k hlt2).1
        have hb2 := hok.2.2 k hlt2
        have hb := mul_bd hb1.2.1 hb1.2.2.1 hb2.1 hb2.2
        rw [Int.mul_comm] at hb
        have hnx : prcP l q.c (k + 1) = prcP l q.c k + gti q.c k * (gti l k).cost := by rw [Int.mul_comm]; rfl
        refine zaf ?_
        refine zab rfl rfl (zaa rfl) (mv_s (.inl rfl) rfl) ?_
        first | refine zab rfl rfl (zaa rfl) (zaz rfl ts22 ti3 rfl rfl rfl (ix_map (by omega)) rfl) ?_ | refine zab rfl rfl (zaa rfl) (zay rfl ts22 ti3 rfl rfl rfl (by omega)) ?_
        first | refine zab rfl rfl (zaa rfl) (zan rfl ta3 rfl) ?_ | refine zab rfl rfl (zaa rfl) (zas rfl ta3 rfl rfl rfl rfl rfl) ?_
        refine zab rfl rfl (zaa rfl) (mv_s (.inr rfl) rfl) ?_
        refine zab rfl rfl (zaa rfl) (mv_s (.inr rfl) rfl) ?_
        refine zam ?_
        repeat (first | refine zag ?_ | refine zap ?_ | refine zae ?_ | refine zar ?_ | refine zac ?_)
        refine zaf ?_
        refine zab rfl rfl (zaa rfl) (mv_s (.inl rfl) rfl) ?_
        refine zab rfl rfl (zaa rfl) (mv_s (.inl rfl) rfl) ?_
        first | refine zab rfl rfl (zaa rfl) (za9 (.inl rfl) rfl) ?_ | refine zab rfl rfl (zaa rfl) (zbp (.inl rfl) rfl) ?_ | refine zab rfl rfl (zaa rfl) (mv_s (.inl rfl) rfl) ?_ | refine zab rfl rfl (zaa rfl) (zba (.inl rfl) rfl) ?_
        refine zab rfl rfl (zaa rfl) (mv_s (.inl rfl) rfl) ?_
        first | refine zab rfl rfl (zaa rfl) (zaz rfl ts23 ti39 rfl rfl rfl (ix_map (by omega)) rfl) ?_ | refine zab rfl rfl (zaa rfl) (zay rfl ts23 ti39 rfl rfl rfl (by omega)) ?_
        first | refine zab rfl rfl (zaa rfl) (zao rfl tf39_1 (by decide) rfl) ?_ | refine zab rfl rfl (zaa rfl) (zal rfl tf39_1 (by decide) rfl) ?_
        first | refine zab rfl rfl (zaa rfl) (zan rfl ta3 rfl) ?_ | refine zab rfl rfl (zaa rfl) (zas rfl ta3 rfl rfl rfl rfl rfl) ?_
        refine zab rfl rfl (zaa rfl) (does_mul rfl rfl rfl (IntWalk.i64_in _ (by omega))) ?_
        refine zab rfl rfl (zaa rfl) (does_add rfl rfl rfl (IntWalk.i64_in _ (by omega))) ?_
        refine zab rfl rfl (zaa rfl) (mv_s (.inr rfl) rfl) ?_
        refine zam ?_
        repeat (first | refine zag ?_ | refine zap ?_ | refine zae ?_ | refine zar ?_ | refine zac ?_)
        refine zaf ?_
        refine zab rfl rfl (zaa rfl) (does_add rfl rfl rfl (IntWalk.i64_in _ (by omega))) ?_
        refine zab rfl rfl (zaa rfl) (mv_s (.inl rfl) rfl) ?_
        refine zam ?_
        repeat (first | refine zag ?_ | refine zap ?_ | refine zae ?_ | refine zar ?_ | refine zac ?_)
        rw [← hnx]
        exact ⟨k + 1, by omega, by omega, wk_st [] (by decide) trivial ⟨.lo _ (zak lo_Sh), .lo _ (by repeat' (first | exact Lo.s _ | exact zai | refine zad ?_ ?_ | refine zak ?_ | refine Lo.cells ?_ | refine Lo.agg _ ?_ | refine Lo.ref _ ?_ | refine Lo.tup _ ?_ | refine Lo.fn _ _ ?_ | refine Lo.sl _ ?_ | intro _)), .lo _ (by repeat' (first | exact Lo.s _ | exact zai | refine zad ?_ ?_ | refine zak ?_ | refine Lo.cells ?_ | refine Lo.agg _ ?_ | refine Lo.ref _ ?_ | refine Lo.tup _ ?_ | refine Lo.fn _ _ ?_ | refine Lo.sl _ ?_ | intro _)), .lo _ (by repeat' (first | exact Lo.s _ | exact zai | refine zad ?_ ?_ | refine zak ?_ | refine Lo.cells ?_ | refine Lo.agg _ ?_ | refine Lo.ref _ ?_ | refine Lo.tup _ ?_ | refine Lo.fn _ _ ?_ | refine Lo.sl _ ?_ | intro _)), .lo _ (by repeat' (first | exact Lo.s _ | exact zai | refine zad ?_ ?_ | refine zak ?_ | refine Lo.cells ?_ | refine Lo.agg _ ?_ | refine Lo.ref _ ?_ | refine Lo.tup _ ?_ | refine Lo.fn _ _ ?_ | refine Lo.sl _ ?_ | intro _)), .lo _ (by repeat' (first | exact Lo.s _ | exact zai | refine zad ?_ ?_ | refine zak ?_ | refine Lo.cells ?_ | refine Lo.agg _ ?_ | refine Lo.ref _ ?_ | refine Lo.tup _ ?_ | refine Lo.fn _ _ ?_ | refine Lo.sl _ ?_ | intro _)), trivial⟩⟩
      · have e : k = l.length := by omega
        subst e
        (refine aw_exit ?_; repeat (first | refine ath_x ?_ | refine abl_hit ?_ | refine abl_miss rfl ?_ | refine zar ?_ | refine zap ?_ | refine zag ?_ | refine zae ?_ | refine zac ?_))
        refine zaf ?_
        refine zab rfl rfl (zaa rfl) (mv_s (.inl rfl) rfl) ?_
        first | refine zab rfl rfl (zaa rfl) (zao rfl tf25_1 (by decide) rfl) ?_ | refine zab rfl rfl (zaa rfl) (zal rfl tf25_1 (by decide) rfl) ?_
        first | refine zab rfl rfl (zaa rfl) (zan rfl ta3 rfl) ?_ | refine zab rfl rfl (zaa rfl) (zas rfl ta3 rfl rfl rfl rfl rfl) ?_
        refine zab rfl rfl (zaa rfl) (dec_t (by omega) (does_geq rfl rfl rfl)) ?_
        refine zab rfl rfl (zaa rfl) (mv_s (.inr rfl) rfl) ?_
        refine zam ?_
        repeat (first | refine zag ?_ | refine zap ?_ | refine zae ?_ | refine zar ?_ | refine zac ?_)
        (refine zbw ?_; repeat (first | refine ath_r ?_ | refine abl_r ?_))
        exact post1 (.inr rfl) rfl rfl
    · rw [decide_eq_false hs] at h4
      replace h4 : Pure P 9 [eL eI d, eL eSh l, ePl q] (.tup [eB false, eI (shE d l q.c), eI 0]) := h4
      refine zaf ?_
      first | refine zab rfl rfl (zaa rfl) (za9 (.inl rfl) rfl) ?_ | refine zab rfl rfl (zaa rfl) (zbp (.inl rfl) rfl) ?_ | refine zab rfl rfl (zaa rfl) (mv_s (.inl rfl) rfl) ?_ | refine zab rfl rfl (zaa rfl) (zba (.inl rfl) rfl) ?_
      first | refine zab rfl rfl (zaa rfl) (za9 (.inl rfl) rfl) ?_ | refine zab rfl rfl (zaa rfl) (zbp (.inl rfl) rfl) ?_ | refine zab rfl rfl (zaa rfl) (mv_s (.inl rfl) rfl) ?_ | refine zab rfl rfl (zaa rfl) (zba (.inl rfl) rfl) ?_
      first | refine zab rfl rfl (zaa rfl) (zax rfl ta25 ti25 rfl rfl) ?_ | refine zab rfl rfl (zaa rfl) (za6 rfl ta25 ti25 rfl rfl rfl rfl rfl) ?_ | refine zab rfl rfl (zaa rfl) (zav rfl ta25 ti25 rfl (Nat.le_of_ble_eq_true rfl)) ?_ | refine zab rfl rfl (zaa rfl) (za7 rfl ta25 ti25 rfl rfl rfl rfl (Nat.le_of_ble_eq_true rfl)) ?_
      refine zab rfl rfl (zaa rfl) (za2 rfl rfl (h4) (zat rfl (zat rfl (zat rfl zbl)))) ?_
      first | refine zab rfl rfl (zaa rfl) (mv_tup (.inl rfl) rfl) ?_ | refine zab rfl rfl (zaa rfl) (mv_s (.inl rfl) rfl) ?_
      refine zab rfl rfl (zaa rfl) (zbb rfl rfl rfl) ?_
      refine zab rfl rfl (zaa rfl) (zbb rfl rfl rfl) ?_
      refine zab rfl rfl (zaa rfl) (zbb rfl rfl rfl) ?_
      refine zab rfl rfl (zaa rfl) (mv_s (.inr rfl) rfl) ?_
      refine zab rfl rfl (zaa rfl) (mv_s (.inr rfl) rfl) ?_
      refine zab rfl rfl (zaa rfl) (mv_s (.inr rfl) rfl) ?_
      refine zam ?_
      repeat (first | refine zag ?_ | refine zap ?_ | refine zae ?_ | refine zar ?_ | refine zac ?_)
      refine zaf ?_
      refine zab rfl rfl (zaa rfl) (mv_s (.inl rfl) rfl) ?_
      refine zab rfl rfl (zaa rfl) (dec_f (fun h => h rfl) (does_neq rfl rfl rfl)) ?_
      refine zab rfl rfl (zaa rfl) (mv_s (.inl rfl) rfl) ?_
      first | refine zab rfl rfl (zah rfl rfl rfl) (mv_s (.inl rfl) rfl) ?_ | refine zaj rfl rfl (zaw rfl rfl rfl) ?_ | refine zaj rfl rfl (zau rfl rfl rfl) ?_
      first | refine zab rfl rfl (zah rfl rfl rfl) (does_notp rfl rfl) ?_ | refine zab rfl rfl (zah rfl rfl rfl) (does_not rfl rfl) ?_ | refine zaj rfl rfl (zaw rfl rfl rfl) ?_ | refine zaj rfl rfl (zau rfl rfl rfl) ?_
      first | refine zab rfl rfl (zaa rfl) (pickT_s rfl rfl rfl) ?_ | refine zab rfl rfl (zaa rfl) (pickF_s rfl rfl rfl) ?_ | refine zab rfl rfl (zaa rfl) (zbi rfl rfl rfl) ?_ | refine zab rfl rfl (zaa rfl) (zbj rfl rfl rfl) ?_
      refine zam ?_
      repeat (first | refine zag ?_ | refine zap ?_ | refine zae ?_ | refine zar ?_ | refine zac ?_)
      refine zbv rfl ?_
      repeat (first | refine zag ?_ | refine zap ?_ | refine zae ?_ | refine zar ?_ | refine zac ?_)
      refine zaf ?_
      refine zab rfl rfl (zaa rfl) (mv_s (.inl rfl) rfl) ?_
      refine zab rfl rfl (zaa rfl) (dec_t rfl (does_eql rfl rfl rfl)) ?_
      refine zab rfl rfl (zaa rfl) (mv_s (.inl rfl) rfl) ?_
      first | refine zab rfl rfl (zah rfl rfl rfl) (mv_s (.inl rfl) rfl) ?_ | refine zaj rfl rfl (zaw rfl rfl rfl) ?_ | refine zaj rfl rfl (zau rfl rfl rfl) ?_
      first | refine zab rfl rfl (zah rfl rfl rfl) (does_eql rfl rfl rfl) ?_ | refine zaj rfl rfl (zaw rfl rfl rfl) ?_ | refine zaj rfl rfl (zau rfl rfl rfl) ?_
      first | refine zab rfl rfl (zaa rfl) (pickT_s rfl rfl rfl) ?_ | refine zab rfl rfl (zaa rfl) (pickF_s rfl rfl rfl) ?_ | refine zab rfl rfl (zaa rfl) (zbi rfl rfl rfl) ?_ | refine zab rfl rfl (zaa rfl) (zbj rfl rfl rfl) ?_
      refine zab rfl rfl (zaa rfl) (mv_s (.inr rfl) rfl) ?_
      refine zam ?_
      repeat (first | refine zag ?_ | refine zap ?_ | refine zae ?_ | refine zar ?_ | refine zac ?_)
      (refine zbw ?_; repeat (first | refine ath_r ?_ | refine abl_r ?_))
      exact post1 (.inr rfl) rfl rfl
  · have hcE : covE d l q.c = (false, 0, 1) := by unfold covE; rw [if_pos (fun g => hcq g.2)]
    rw [hcE] at h4
    replace h4 : Pure P 9 [eL eI d, eL eSh l, ePl q] (.tup [eB false, eI 0, eI 1]) := h4
    refine zaf ?_
    first | refine zab rfl rfl (zaa rfl) (za9 (.inl rfl) rfl) ?_ | refine zab rfl rfl (zaa rfl) (zbp (.inl rfl) rfl) ?_ | refine zab rfl rfl (zaa rfl) (mv_s (.inl rfl) rfl) ?_ | refine zab rfl rfl (zaa rfl) (zba (.inl rfl) rfl) ?_
    first | refine zab rfl rfl (zaa rfl) (za9 (.inl rfl) rfl) ?_ | refine zab rfl rfl (zaa rfl) (zbp (.inl rfl) rfl) ?_ | refine zab rfl rfl (zaa rfl) (mv_s (.inl rfl) rfl) ?_ | refine zab rfl rfl (zaa rfl) (zba (.inl rfl) rfl) ?_
    first | refine zab rfl rfl (zaa rfl) (zax rfl ta25 ti25 rfl rfl) ?_ | refine zab rfl rfl (zaa rfl) (za6 rfl ta25 ti25 rfl rfl rfl rfl rfl) ?_ | refine zab rfl rfl (zaa rfl) (zav rfl ta25 ti25 rfl (Nat.le_of_ble_eq_true rfl)) ?_ | refine zab rfl rfl (zaa rfl) (za7 rfl ta25 ti25 rfl rfl rfl rfl (Nat.le_of_ble_eq_true rfl)) ?_
    refine zab rfl rfl (zaa rfl) (za2 rfl rfl (h4) (zat rfl (zat rfl (zat rfl zbl)))) ?_
    first | refine zab rfl rfl (zaa rfl) (mv_tup (.inl rfl) rfl) ?_ | refine zab rfl rfl (zaa rfl) (mv_s (.inl rfl) rfl) ?_
    refine zab rfl rfl (zaa rfl) (zbb rfl rfl rfl) ?_
    refine zab rfl rfl (zaa rfl) (zbb rfl rfl rfl) ?_
    refine zab rfl rfl (zaa rfl) (zbb rfl rfl rfl) ?_
    refine zab rfl rfl (zaa rfl) (mv_s (.inr rfl) rfl) ?_
    refine zab rfl rfl (zaa rfl) (mv_s (.inr rfl) rfl) ?_
    refine zab rfl rfl (zaa rfl) (mv_s (.inr rfl) rfl) ?_
    refine zam ?_
    repeat (first | refine zag ?_ | refine zap ?_ | refine zae ?_ | refine zar ?_ | refine zac ?_)
    refine zaf ?_
    refine zab rfl rfl (zaa rfl) (mv_s (.inl rfl) rfl) ?_
    refine zab rfl rfl (zaa rfl) (dec_t (by decide) (does_neq rfl rfl rfl)) ?_
    refine zab rfl rfl (zaa rfl) (mv_s (.inl rfl) rfl) ?_
    first | refine zab rfl rfl (zah rfl rfl rfl) (mv_s (.inl rfl) rfl) ?_ | refine zaj rfl rfl (zaw rfl rfl rfl) ?_ | refine zaj rfl rfl (zau rfl rfl rfl) ?_
    first | refine zab rfl rfl (zah rfl rfl rfl) (does_notp rfl rfl) ?_ | refine zab rfl rfl (zah rfl rfl rfl) (does_not rfl rfl) ?_ | refine zaj rfl rfl (zaw rfl rfl rfl) ?_ | refine zaj rfl rfl (zau rfl rfl rfl) ?_
    first | refine zab rfl rfl (zaa rfl) (pickT_s rfl rfl rfl) ?_ | refine zab rfl rfl (zaa rfl) (pickF_s rfl rfl rfl) ?_ | refine zab rfl rfl (zaa rfl) (zbi rfl rfl rfl) ?_ | refine zab rfl rfl (zaa rfl) (zbj rfl rfl rfl) ?_
    refine zam ?_
    repeat (first | refine zag ?_ | refine zap ?_ | refine zae ?_ | refine zar ?_ | refine zac ?_)
    refine zbv rfl ?_
    repeat (first | refine zag ?_ | refine zap ?_ | refine zae ?_ | refine zar ?_ | refine zac ?_)
    refine zaf ?_
    refine zab rfl rfl (zaa rfl) (mv_s (.inl rfl) rfl) ?_
    refine zab rfl rfl (zaa rfl) (dec_f (by decide) (does_eql rfl rfl rfl)) ?_
    refine zab rfl rfl (zaa rfl) (mv_s (.inl rfl) rfl) ?_
    first | refine zab rfl rfl (zah rfl rfl rfl) (mv_s (.inl rfl) rfl) ?_ | refine zaj rfl rfl (zaw rfl rfl rfl) ?_ | refine zaj rfl rfl (zau rfl rfl rfl) ?_
    first | refine zab rfl rfl (zah rfl rfl rfl) (dec_t rfl (does_eql rfl rfl rfl)) ?_ | refine zaj rfl rfl (zaw rfl rfl rfl) ?_ | refine zaj rfl rfl (zau rfl rfl rfl) ?_
    first | refine zab rfl rfl (zaa rfl) (pickT_s rfl rfl rfl) ?_ | refine zab rfl rfl (zaa rfl) (pickF_s rfl rfl rfl) ?_ | refine zab rfl rfl (zaa rfl) (zbi rfl rfl rfl) ?_ | refine zab rfl rfl (zaa rfl) (zbj rfl rfl rfl) ?_
    refine zab rfl rfl (zaa rfl) (mv_s (.inr rfl) rfl) ?_
    refine zam ?_
    repeat (first | refine zag ?_ | refine zap ?_ | refine zae ?_ | refine zar ?_ | refine zac ?_)
    (refine zbw ?_; repeat (first | refine ath_r ?_ | refine abl_r ?_))
    exact post1 (.inr rfl) rfl rfl
end Go.Proofs.Ytmoipmnhgdmkpaa.Aw
end
section
namespace Go.Proofs.Ytmoipmnhgdmkpaa
open Go.ChangeShapes Go.WideShapes Go.ChangeAt Go.RowKit
set_option maxRecDepth 100000 in
theorem shiftCheapest_lifted (hawake : Aw.Pure Try.prog 5 [] (Aw.eB true)) (os : Os) (started : os.Started) (H : Type) (enc : TypeId × Value → H) :
    ReturnsInHanded {} Try.checked os 3 .any (Rows.shiftCheapestSpec.pre6 enc Try.prog Try.f3 Rows.shiftCheapestRow.domain false) (Rows.shiftCheapestSpec.post enc Try.prog Try.f3 false true false false) := by
  refine returnsInHanded_of_change (C := Try.checked) own_knob started (by kernel_rfl) Try.func3
    (ChangeSpec.witness6 (enc := enc) (C := Try.checked) false ⟨#[], #[.slice none 0 0, .slice none 0 0, .agg #[.slice none 0 0, .int .i64 0], .agg #[.slice none 0 0, .int .i64 0], .agg #[.int .i64 0, .int .i64 0, .slice none 0 0, .slice none 0 0]], []⟩ 8 (by kernel_rfl) (by kernel_rfl) (by kernel_rfl) (by kernel_rfl)) ?_
  intro W base args ds gs before hval0 hW hcnd _
  have hval : ∀ (j : Nat) t v, Try.f3.params[j]? = some t → args[j]? = some v → Value.okWide Try.prog W .any base t v := hval0
  have hW' := hW
  obtain ⟨p, q, hA0, hV, rfl, hfz, hnd⟩ := hW
  have hA : DataW.TrodAll enc Try.prog W 0 (fun _ => true) true Try.f3.params.toList args.toList ds p := hA0
  rw [Try.params3] at hA hval
  obtain ⟨v0, v1, v2, v3, v4, d0, d1, d2, d3, d4, p0, p1, p2, p3, p4, rfl, rfl, rfl, h0, h1, h2, h3, h4⟩ := trodAll_5 hA
  obtain ⟨rfl, rfl⟩ := trodVars_none hV
  obtain ⟨m, hn⟩ := Aw.open_ints (hval 0 22 v0 rfl rfl) h0
  obtain ⟨l, hs⟩ := Aw.open_shifts (hval 1 23 v1 rfl rfl) h1
  obtain ⟨k, hk⟩ := Aw.open_plan (hval 2 25 v2 rfl rfl) h2
  obtain ⟨k3, hk3⟩ := Aw.open_plan (hval 3 25 v3 rfl rfl) h3
  obtain ⟨k4, hk4⟩ := Aw.open_branch (hval 4 29 v4 rfl rfl) h4
  simp only [List.append_nil] at hW'
  refine (Aw.pure_law (Aw.lawCheapest_pf (P := Try.prog) hawake m l k k3 k4) W #[v0, v1, v2, v3, v4] rfl (fun j v x hv hx => ?_)).mono fun e W' ⟨he, hb⟩ => ?_
  · match j, hv, hx with
    | 0, hv, hx => simp at hv hx; subst hv hx; exact hn
    | 1, hv, hx => simp at hv hx; subst hv hx; exact hs
    | 2, hv, hx => simp at hv hx; subst hv hx; exact hk
    | 3, hv, hx => simp at hv hx; subst hv hx; exact hk3
    | 4, hv, hx => simp at hv hx; subst hv hx; exact hk4
    | j + 5, hv, hx => simp at hv
  subst he
  have hp : ∀ x ∈ p0 ++ p1 ++ p2 ++ p3 ++ p4, x.block < W.heap.size := fun x hx => hW'.lt x (by simpa using hx)
  have hg : DataW.TrodAll enc Try.prog W' 0 (fun b => decide (b < W.heap.size)) true [22, 23, 25, 25, 29] [v0, v1, v2, v3, v4] [d0, d1, d2, d3, d4] (p0 ++ (p1 ++ (p2 ++ (p3 ++ p4)))) := ⟨p0, p1 ++ (p2 ++ (p3 ++ p4)), (Below.trod laid_out (by kernel_rfl) (of_decide_eq_true (by kernel_rfl)) h0 hb (fun x hx => hp x (by simp [hx]))), trodAll_mk4 (Below.trod laid_out (by kernel_rfl) (of_decide_eq_true (by kernel_rfl)) h1 hb (fun x hx => hp x (by simp [hx]))) (Below.trod laid_out (by kernel_rfl) (of_decide_eq_true (by kernel_rfl)) h2 hb (fun x hx => hp x (by simp [hx]))) (Below.trod laid_out (by kernel_rfl) (of_decide_eq_true (by kernel_rfl)) h3 hb (fun x hx => hp x (by simp [hx]))) (Below.trod laid_out (by kernel_rfl) (of_decide_eq_true (by kernel_rfl)) h4 hb (fun x hx => hp x (by simp [hx]))), rfl⟩
  rw [← List.append_assoc, ← List.append_assoc, ← List.append_assoc] at hg
  exact ⟨_, rfl, law_post (t := 4) hW' (by kernel_rfl) Try.underlying4 ⟨rfl, rfl, rfl⟩ rfl hg hb⟩

theorem shiftCheapest_of (hawake : Aw.Pure Try.prog 5 [] (Aw.eB true)) : Rows.ShiftCheapestSaid :=
  OpenClaim.holds_of_wide 3 Try.f3 rfl rfl rfl rfl rfl rfl rfl ⟨rfl, rfl, rfl, rfl, rfl⟩ rfl rfl rfl rfl rfl (by kernel_rfl) Try.func3 (by kernel_rfl)
    (of_decide_eq_true (by kernel_rfl)) (by unfold Func.isWrapper; first | (rw [if_pos (by decide +kernel)]; kernel_rfl) | (rw [if_neg (by decide +kernel)]; exact ⟨rfl, rfl⟩))
    (fun os started H enc _ => shiftCheapest_lifted hawake os started H enc)


end Go.Proofs.Ytmoipmnhgdmkpaa
end
section
namespace Go.Proofs.Ytmoipmnhgdmkpaa.Aw
set_option linter.unusedSimpArgs false
set_option linter.unusedVariables false
open Go Go.RowKit Go.Proofs
variable {P : Program} [IsP P]

def unF : AV → Option Fr
  | .agg [.s (.int .i64 a), .s (.int .i64 b)] => some ⟨a, b⟩
  | _ => none
theorem unF_of {x : AV} {a : Fr} (h : unF x = some a) : x = eF a := by
  unfold unF at h
  split at h
  · cases h; rfl
  · cases h
/-- functions of two fractions -/
def orc2 (f : Nat) (a b : Fr) : Option AV :=
  bif Nat.beq f 61 then some (eFE (mulE a b)) else
  bif Nat.beq f 65 then some (eFE (subE a b)) else
  bif Nat.beq f 98 then some (eFE (divE a b)) else
  bif Nat.beq f 66 then some (eFE (addE a b)) else
  bif Nat.beq f 57 then some (.tup [eI (cmpE a b).1, eI (cmpE a b).2]) else none
def orcF : Orc := fun f args => match args with
  | [x] => bif Nat.beq f 55 then match unF x with
      | some a => some (eB a.okB)
      | none => none
    else none
  | [x, y] => match unF x with
    | none => none
    | some a => match unF y with
      | none => none
      | some b => orc2 f a b
  | _ => none
theorem orcF_ok : OrcOk P orcF := by
  intro f args r h
  unfold orcF at h
  split at h
  · rename_i x
    cases hb : Nat.beq f 55 with
    | false => rw [hb] at h; cases h
    | true =>
      rw [hb, cond_true] at h
      split at h
      · rename_i a ha; cases h; rw [Nat.eq_of_beq_eq_true hb, unF_of ha]; exact fValid_pf a
      · cases h
  · rename_i x y
    split at h
    · cases h
    · rename_i a ha
      split at h
      · cases h
      · rename_i b hb
        rw [unF_of ha, unF_of hb]
        unfold orc2 at h
        cases h1 : Nat.beq f 61 with
        | true => rw [h1] at h; cases h; rw [Nat.eq_of_beq_eq_true h1]; exact fMul_pf a b
        | false =>
        rw [h1, cond_false] at h
        cases h1 : Nat.beq f 65 with
        | true => rw [h1] at h; cases h; rw [Nat.eq_of_beq_eq_true h1]; exact fSub_pf a b
        | false =>
        rw [h1, cond_false] at h
        cases h1 : Nat.beq f 98 with
        | true => rw [h1] at h; cases h; rw [Nat.eq_of_beq_eq_true h1]; exact fDiv_pf a b
        | false =>
        rw [h1, cond_false] at h
        cases h1 : Nat.beq f 66 with
        | true => rw [h1] at h; cases h; rw [Nat.eq_of_beq_eq_true h1]; exact fAdd_pf a b
        | false =>
        rw [h1, cond_false] at h
        cases h1 : Nat.beq f 57 with
        | true => rw [h1] at h; cases h; rw [Nat.eq_of_beq_eq_true h1]; exact fCmp_pf a b
        | false => rw [h1, cond_false] at h; cases h
  · cases h
end Go.Proofs.Ytmoipmnhgdmkpaa.Aw
end
section
namespace Go.Proofs.Ytmoipmnhgdmkpaa.Aw
set_option linter.unusedSimpArgs false
set_option linter.unusedVariables false
set_option linter.unusedSectionVars false
open Go Go.RowKit Go.Proofs
variable {P : Program} [IsP P]

theorem pure_emp {f : FuncId} {r : AV} (h0 : Pure P f [.s (.slice none 0 0)] r) (h1 : ∀ a : Addr, a.spot = none → Pure P f [.s (.slice (some a) 0 0)] r) : Pure P f [.emp] r :=
  ⟨h0.ent, h0.lo, fun G vargs hs hsz hrep => by
    have hlt : 0 < vargs.size := by rw [hsz]; simp
    have g := hrep 0 vargs[0] .emp (by simp [hlt]) rfl
    have one : ∀ {x : AV}, Rep G vargs[0] x → ∀ (j : Nat) v y, vargs[j]? = some v → [x][j]? = some y → Rep G v y := by
      intro x hx j v y hv hy
      cases j with
      | zero => simp at hy; subst hy; rw [Array.getElem?_eq_getElem hlt] at hv; cases hv; exact hx
      | succ j => simp at hy
    generalize hv : vargs[0] = v0 at g
    cases g with
    | emp A hA =>
      cases A with
      | none => exact h0.call G vargs hs hsz (one (by rw [hv]; exact .s _))
      | some a => exact (h1 a (hA a rfl)).call G vargs hs hsz (one (by rw [hv]; exact .s _))⟩
section
variable {o : Oper} {F : Frm} {σ : List Ob}
theorem does_append_e {t e : TypeId} {s y : Operand} {z : Option Value} {sz bt : Nat} {a : Addr} (ho : o.op = .call { callee := .builtin .append, args := #[s, y], argTypes := #[t, t] })
    (ht : zbq P t = some e) (hi : zbs P e = some (z, sz, bt)) (hx : F.eval s = .emp) (hy : F.eval y = .s (.slice (some a) 0 0)) : Does P o F σ .emp σ :=
  zbu fun G ρ hr hop => by
    have g1 := hop s (by simp [ho, Op.operands, Call.operands])
    have g2 := hop y (by simp [ho, Op.operands, Call.operands])
    rw [hx] at g1
    rw [hy] at g2
    have g2 := rep_s g2
    generalize hv1 : ρ s = v1 at g1
    cases g1 with
    | emp B hB =>
      have hrun : (Builtin.append_ #[t, t] o.type #[.slice B 0 0, .slice (some a) 0 0]).run P G.w = .ok (.slice B 0 0) G.w := by
        have hf : (Builtin.firstCells sz 0 (.slice (some a) 0 0)).run P G.w = .ok #[] G.w := run_firstCells_some (P := P) G.w sz 0 a 0 0 [] (by simp) (by simp)
        cases B with
        | none => simp [Builtin.append_, run_underlying (slice_of ht), run_sizeOf hi, Builtin.lenOf, hf]
        | some a => simp [Builtin.append_, run_underlying (slice_of ht), run_sizeOf hi, Builtin.lenOf, hf, storeCells]
      refine ⟨.slice B 0 0, ?_, .emp B hB⟩
      simp only [execOp, ho, resolve, invoke, builtin, Sem.run_bind, Sem.run_pure, Result.andThen_ok, List.map_toArray, List.map_cons, List.map_nil, hv1, g2, hrun]
theorem does_eqsome {t t' e : TypeId} {x y : Operand} {a : Addr} (ho : o.op = .binOp .eql t x y t') (ht : zbq P t = some e) (hx : F.eval x = .s (.slice (some a) 0 0)) (hy : F.eval y = .s (.slice none 0 0)) : Does P o F σ (.s (.bool false)) σ :=
  zbu fun G ρ hr hop => by
    have g1 := hop x (by simp [ho, Op.operands])
    have g2 := hop y (by simp [ho, Op.operands])
    rw [hx] at g1
    rw [hy] at g2
    have g1 := rep_s g1
    have g2 := rep_s g2
    have := run_nil_cmp (P := P) ht x y (some a) 0 0 .eql G.w (r := false) (.inl ⟨rfl, rfl⟩)
    refine ⟨.bool false, ?_, .s _⟩
    rw [Sem.run_bind] at this
    simp only [execOp, ho, Sem.run_bind, g1, g2]
    exact this ▸ rfl
end
theorem rep_semp {G : Cx} {v : Value} (h : Rep G v (.s (.slice none 0 0))) : Rep G v .emp := by cases h; exact .emp none (fun a ha => by cases ha)
theorem wk_semp {N d : Nat} {F : Frm} {σ : List Ob} (hd : F.get d = .s (.slice none 0 0)) : Weak N F σ ((d, .emp) :: F) σ := fun G a h =>
  ⟨G, rfl, .refl G, h.rel, h.fr.more (rep_semp (by rw [← hd]; exact h.fr d)), h.df, h.nt⟩
theorem cloneE0_pf : Pure P 50 [.s (.slice none 0 0)] .emp := by
  refine aw_fn (by rw [IsP.eq (P := P)]; exact Try.func50) rfl rfl rfl rfl rfl (zad (.s _) zai) .emp (by simp only [argF]; rfl) ?_
  repeat (first | refine zag ?_ | refine zap ?_ | refine zae ?_ | refine zar ?_ | refine zac ?_)
  refine zaf ?_
  first | refine zab rfl rfl (zaa rfl) (za9 (.inr rfl) rfl) ?_ | refine zab rfl rfl (zaa rfl) (zbp (.inr rfl) rfl) ?_ | refine zab rfl rfl (zaa rfl) (mv_s (.inr rfl) rfl) ?_ | refine zab rfl rfl (zaa rfl) (zba (.inr rfl) rfl) ?_
  refine zam ?_
  repeat (first | refine zag ?_ | refine zap ?_ | refine zae ?_ | refine zar ?_ | refine zac ?_)
  refine zaf ?_
  refine zab rfl rfl (zaa rfl) (mv_s (.inl rfl) rfl) ?_
  refine zab rfl rfl (zaa rfl) (does_eqnil0 rfl ts22 rfl rfl (.inl ⟨rfl, rfl⟩)) ?_
  refine zam ?_
  repeat (first | refine zag ?_ | refine zap ?_ | refine zae ?_ | refine zar ?_ | refine zac ?_)
  refine zbv rfl ?_
  repeat (first | refine zag ?_ | refine zap ?_ | refine zae ?_ | refine zar ?_ | refine zac ?_)
  refine zaf ?_
  first | refine zab rfl rfl (zaa rfl) (za9 (.inr rfl) rfl) ?_ | refine zab rfl rfl (zaa rfl) (zbp (.inr rfl) rfl) ?_ | refine zab rfl rfl (zaa rfl) (mv_s (.inr rfl) rfl) ?_ | refine zab rfl rfl (zaa rfl) (zba (.inr rfl) rfl) ?_
  refine zam ?_
  repeat (first | refine zag ?_ | refine zap ?_ | refine zae ?_ | refine zar ?_ | refine zac ?_)
  refine aw_weak (wk_semp (d := 2) rfl) ?_
  (refine zbw ?_; repeat (first | refine ath_r ?_ | refine abl_r ?_))
  exact post1 (.inr rfl) rfl rfl
theorem cloneE1_pf (a : Addr) : Pure P 50 [.s (.slice (some a) 0 0)] .emp := by
  refine aw_fn (by rw [IsP.eq (P := P)]; exact Try.func50) rfl rfl rfl rfl rfl (zad (.s _) zai) .emp (by simp only [argF]; rfl) ?_
  repeat (first | refine zag ?_ | refine zap ?_ | refine zae ?_ | refine zar ?_ | refine zac ?_)
  refine zaf ?_
  first | refine zab rfl rfl (zaa rfl) (za9 (.inr rfl) rfl) ?_ | refine zab rfl rfl (zaa rfl) (zbp (.inr rfl) rfl) ?_ | refine zab rfl rfl (zaa rfl) (mv_s (.inr rfl) rfl) ?_ | refine zab rfl rfl (zaa rfl) (zba (.inr rfl) rfl) ?_
  refine zam ?_
  repeat (first | refine zag ?_ | refine zap ?_ | refine zae ?_ | refine zar ?_ | refine zac ?_)
  refine zaf ?_
  refine zab rfl rfl (zaa rfl) (mv_s (.inl rfl) rfl) ?_
  refine zab rfl rfl (zaa rfl) (does_eqsome (a := a) rfl ts22 rfl rfl) ?_
  refine zam ?_
  repeat (first | refine zag ?_ | refine zap ?_ | refine zae ?_ | refine zar ?_ | refine zac ?_)
  refine zbr rfl ?_
  repeat (first | refine zag ?_ | refine zap ?_ | refine zae ?_ | refine zar ?_ | refine zac ?_)
  refine zaf ?_
  refine zab rfl rfl (zaa rfl) (does_lit0 rfl rfl ts22 ti3) ?_
  refine zab rfl rfl (zaa rfl) (mv_s (.inl rfl) rfl) ?_
  refine zab rfl rfl (zaa rfl) (does_append_e (a := a) rfl ts22 ti3 rfl rfl) ?_
  refine zab rfl rfl (zaa rfl) (zba (.inr rfl) rfl) ?_
  refine zam ?_
  repeat (first | refine zag ?_ | refine zap ?_ | refine zae ?_ | refine zar ?_ | refine zac ?_)
  (refine zbw ?_; repeat (first | refine ath_r ?_ | refine abl_r ?_))
  exact post1 (.inr rfl) rfl rfl
theorem cloneE_pf : Pure P 50 [.emp] .emp := pure_emp cloneE0_pf (fun a ha => cloneE1_pf a)
end Go.Proofs.Ytmoipmnhgdmkpaa.Aw
end
section
namespace Go.Proofs.Ytmoipmnhgdmkpaa.Aw
set_option linter.unusedSimpArgs false
set_option linter.unusedVariables false
set_option linter.unusedSectionVars false
open Go.RowKit Go.Proofs
variable {P : Program} [IsP P]

theorem indexI_pf (l : List Int) (p : Int) : Pure P 58 [eL eI l, eI p] (eI (firstAt (fun x => decide (x = p)) l)) := by
  refine aw_fn (by rw [IsP.eq (P := P)]; exact Try.func58) rfl rfl rfl rfl rfl (by repeat' (first | exact Lo.s _ | exact zai | refine zad ?_ ?_ | refine zak ?_ | refine Lo.cells ?_ | refine Lo.agg _ ?_ | refine Lo.ref _ ?_ | refine Lo.tup _ ?_ | refine Lo.fn _ _ ?_ | refine Lo.sl _ ?_ | intro _)) (by repeat' (first | exact Lo.s _ | exact zai | refine zad ?_ ?_ | refine zak ?_ | refine Lo.cells ?_ | refine Lo.agg _ ?_ | refine Lo.ref _ ?_ | refine Lo.tup _ ?_ | refine Lo.fn _ _ ?_ | refine Lo.sl _ ?_ | intro _)) (by simp only [argF]; rfl) ?_
  repeat (first | refine zag ?_ | refine zap ?_ | refine zae ?_ | refine zar ?_ | refine zac ?_)
  refine aw_bdm (d := 0) rfl (fun hmx => ?_)
  unfold maxLen at hmx
  refine zaf ?_
  refine zab rfl rfl (zaa rfl) (mv_s (.inr rfl) rfl) ?_
  refine zam ?_
  repeat (first | refine zag ?_ | refine zap ?_ | refine zae ?_ | refine zar ?_ | refine zac ?_)
  refine zaf ?_
  first | refine zab rfl rfl (zaa rfl) (za9 (.inl rfl) rfl) ?_ | refine zab rfl rfl (zaa rfl) (zbp (.inl rfl) rfl) ?_ | refine zab rfl rfl (zaa rfl) (mv_s (.inl rfl) rfl) ?_ | refine zab rfl rfl (zaa rfl) (zba (.inl rfl) rfl) ?_
  first | refine zab rfl rfl (zaa rfl) (za3 rfl ts22 rfl) ?_ | refine zab rfl rfl (zaa rfl) (za8 rfl ts22 rfl) ?_ | refine zab rfl rfl (zaa rfl) (za0 rfl ts22 rfl) ?_ | refine zab rfl rfl (zaa rfl) (zbe rfl ts22 rfl) ?_ | refine zab rfl rfl (zaa rfl) (za1 rfl ts22 rfl) ?_
  refine zab rfl rfl (zaa rfl) (mv_s (.inl rfl) rfl) ?_
  refine zam ?_
  repeat (first | refine zag ?_ | refine zap ?_ | refine zae ?_ | refine zar ?_ | refine zac ?_)
  refine aw_loops (S := Nat) (fun k => [(0, eL eI l), (1, eI p), (7, eI l.length), (8, eI k)]) (fun _ => []) (fun k => k ≤ l.length ∧ ∀ j, j < k → gti l j ≠ p) (fun k => l.length - k) 0 (wk_sub _ ⟨rfl, rfl, rfl, rfl, trivial⟩) ⟨by omega, fun j hj => by omega⟩ (fun k hk => ?_)
  obtain ⟨hk, hall⟩ := hk
  have hno : ∀ j a, j < k → l[j]? = some a → decide (a = p) = false := fun j a hj ha => by
    have := hall j hj
    unfold gti at this
    rw [ha] at this
    exact decide_eq_false this
  repeat (first | refine zag ?_ | refine zap ?_ | refine zae ?_ | refine zar ?_ | refine zac ?_)
  all_goals refine zaf ?_
  all_goals (first | refine zbm rfl rfl (zaa rfl) (zbh rfl rfl rfl) (fun h9 => ?_) (fun h9 => ?_) | refine zbn rfl rfl (zaa rfl) (zbh rfl rfl rfl) (fun h9 => ?_) (fun h9 => ?_))
  all_goals refine zam ?_
  all_goals (repeat (first | refine zag ?_ | refine zap ?_ | refine zae ?_ | refine zar ?_ | refine zac ?_))
  all_goals (first | refine zbv rfl ?_ | refine zbr rfl ?_)
  all_goals (repeat (first | refine zag ?_ | refine zap ?_ | refine zae ?_ | refine zar ?_ | refine zac ?_))
  · have hlt : k < l.length := by omega
    refine zaf ?_
    refine zab rfl rfl (zaa rfl) (mv_s (.inl rfl) rfl) ?_
    refine zab rfl rfl (zaa rfl) (mv_s (.inr rfl) rfl) ?_
    refine zam ?_
    repeat (first | refine zag ?_ | refine zap ?_ | refine zae ?_ | refine zar ?_ | refine zac ?_)
    all_goals refine zaf ?_
    all_goals refine zab rfl rfl (zaa rfl) (mv_s (.inl rfl) rfl) ?_
    all_goals (first | refine zab rfl rfl (zaa rfl) (za9 (.inl rfl) rfl) ?_ | refine zab rfl rfl (zaa rfl) (zbp (.inl rfl) rfl) ?_ | refine zab rfl rfl (zaa rfl) (mv_s (.inl rfl) rfl) ?_ | refine zab rfl rfl (zaa rfl) (zba (.inl rfl) rfl) ?_)
    all_goals refine zab rfl rfl (zaa rfl) (mv_s (.inl rfl) rfl) ?_
    all_goals (first | refine zab rfl rfl (zaa rfl) (zaz rfl ts22 ti3 rfl rfl rfl (ix_map (by omega)) rfl) ?_ | refine zab rfl rfl (zaa rfl) (zay rfl ts22 ti3 rfl rfl rfl (by omega)) ?_)
    all_goals (first | refine zab rfl rfl (zaa rfl) (zan rfl ta3 rfl) ?_ | refine zab rfl rfl (zaa rfl) (zas rfl ta3 rfl rfl rfl rfl rfl) ?_)
    all_goals (first | refine zbm rfl rfl (zaa rfl) (does_eql rfl rfl rfl) (fun h16 => ?_) (fun h16 => ?_) | refine zbn rfl rfl (zaa rfl) (does_eql rfl rfl rfl) (fun h16 => ?_) (fun h16 => ?_))
    all_goals refine zam ?_
    all_goals (repeat (first | refine zag ?_ | refine zap ?_ | refine zae ?_ | refine zar ?_ | refine zac ?_))
    all_goals (first | refine zbv rfl ?_ | refine zbr rfl ?_)
    all_goals (repeat (first | refine zag ?_ | refine zap ?_ | refine zae ?_ | refine zar ?_ | refine zac ?_))
    · skip
      refine zaf ?_
      refine zab rfl rfl (zaa rfl) (mv_s (.inl rfl) rfl) ?_
      refine zab rfl rfl (zaa rfl) (mv_s (.inr rfl) rfl) ?_
      refine zam ?_
      repeat (first | refine zag ?_ | refine zap ?_ | refine zae ?_ | refine zar ?_ | refine zac ?_)
      (refine zbw ?_; repeat (first | refine ath_r ?_ | refine abl_r ?_))
      exact post1 (.inr rfl) rfl (congrArg eI (firstAt_some (gti_get hlt) (decide_eq_true h16.symm) hno).symm)
    · skip
      refine zaf ?_
      refine zab rfl rfl (zaa rfl) (does_add rfl rfl rfl (IntWalk.i64_in _ (by omega))) ?_
      refine zab rfl rfl (zaa rfl) (mv_s (.inl rfl) rfl) ?_
      refine zam ?_
      repeat (first | refine zag ?_ | refine zap ?_ | refine zae ?_ | refine zar ?_ | refine zac ?_)
      refine ⟨k + 1, ⟨by omega, fun j hj => ?_⟩, by omega, wk_sub _ ⟨rfl, rfl, rfl, rfl, trivial⟩⟩
      by_cases e : j = k
      · subst e; exact fun h => h16 h.symm
      · exact hall j (by omega)
  · have e : k = l.length := by omega
    subst e
    (refine aw_exit ?_; repeat (first | refine ath_x ?_ | refine abl_hit ?_ | refine abl_miss rfl ?_ | refine zar ?_ | refine zap ?_ | refine zag ?_ | refine zae ?_ | refine zac ?_))
    refine zaf ?_
    refine zab rfl rfl (zaa rfl) (mv_s (.inr rfl) rfl) ?_
    refine zam ?_
    repeat (first | refine zag ?_ | refine zap ?_ | refine zae ?_ | refine zar ?_ | refine zac ?_)
    (refine zbw ?_; repeat (first | refine ath_r ?_ | refine abl_r ?_))
    exact post1 (.inr rfl) rfl (congrArg eI (firstAt_none hno).symm)
theorem containsI_pf (l : List Int) (p : Int) : Pure P 46 [eL eI l, eI p] (eB (inB l p)) := by
  have hi := indexI_pf (P := P) l p
  have ha : decide (0 ≤ firstAt (fun x => decide (x = p)) l) = inB l p := firstAt_any _ _
  generalize firstAt (fun x => decide (x = p)) l = k at hi ha
  refine aw_fn (by rw [IsP.eq (P := P)]; exact Try.func46) rfl rfl rfl rfl rfl (by repeat' (first | exact Lo.s _ | exact zai | refine zad ?_ ?_ | refine zak ?_ | refine Lo.cells ?_ | refine Lo.agg _ ?_ | refine Lo.ref _ ?_ | refine Lo.tup _ ?_ | refine Lo.fn _ _ ?_ | refine Lo.sl _ ?_ | intro _)) (by repeat' (first | exact Lo.s _ | exact zai | refine zad ?_ ?_ | refine zak ?_ | refine Lo.cells ?_ | refine Lo.agg _ ?_ | refine Lo.ref _ ?_ | refine Lo.tup _ ?_ | refine Lo.fn _ _ ?_ | refine Lo.sl _ ?_ | intro _)) (by simp only [argF]; rfl) ?_
  repeat (first | refine zag ?_ | refine zap ?_ | refine zae ?_ | refine zar ?_ | refine zac ?_)
  refine zaf ?_
  refine zab rfl rfl (zaa rfl) (mv_s (.inr rfl) rfl) ?_
  refine zam ?_
  repeat (first | refine zag ?_ | refine zap ?_ | refine zae ?_ | refine zar ?_ | refine zac ?_)
  refine zaf ?_
  first | refine zab rfl rfl (zaa rfl) (za9 (.inl rfl) rfl) ?_ | refine zab rfl rfl (zaa rfl) (zbp (.inl rfl) rfl) ?_ | refine zab rfl rfl (zaa rfl) (mv_s (.inl rfl) rfl) ?_ | refine zab rfl rfl (zaa rfl) (zba (.inl rfl) rfl) ?_
  refine zab rfl rfl (zaa rfl) (mv_s (.inl rfl) rfl) ?_
  refine zab rfl rfl (zaa rfl) (za2 rfl rfl (hi) (zat rfl (zat rfl zbl))) ?_
  refine zab rfl rfl (zaa rfl) (does_geq rfl rfl rfl) ?_
  refine zab rfl rfl (zaa rfl) (mv_s (.inr rfl) rfl) ?_
  refine zam ?_
  repeat (first | refine zag ?_ | refine zap ?_ | refine zae ?_ | refine zar ?_ | refine zac ?_)
  (refine zbw ?_; repeat (first | refine ath_r ?_ | refine abl_r ?_))
  exact post1 (.inr rfl) rfl (congrArg eB ha)
/-- a row with 1 at the places that a function tells -/
def unitL (n : Nat) (f : Nat → Bool) : List Fr := (List.range n).map fun i => Fr.of (if f i = true then 1 else 0)
theorem unitL_len (n : Nat) (f : Nat → Bool) : (unitL n f).length = n := by simp [unitL]
theorem unitL_gti {n : Nat} {f : Nat → Bool} {k : Nat} (h : k < n) : gti (unitL n f) k = Fr.of (if f k = true then 1 else 0) := by
  have h1 : (unitL n f)[k]? = some (Fr.of (if f k = true then 1 else 0)) := by
    unfold unitL
    rw [List.getElem?_map, List.getElem?_range h]; rfl
  unfold gti
  rw [h1]; rfl
set_option maxHeartbeats 1000000 in
theorem unit_pf (n : Nat) (hn : n ≤ 12) (f : FuncId) (caps : List AV) (p : Nat → Bool) (hlc : Lo 0 (.fn f caps)) (hf : ∀ i, i < n → Pure P f ([eI i] ++ caps) (eB (p i))) : Pure P 44 [eI n, .fn f caps] (eL eF (unitL n p)) := by
  refine aw_fn (by rw [IsP.eq (P := P)]; exact Try.func44) rfl rfl rfl rfl rfl (zad (.s _) (zad hlc zai)) (by repeat' (first | exact Lo.s _ | exact zai | refine zad ?_ ?_ | refine zak ?_ | refine Lo.cells ?_ | refine Lo.agg _ ?_ | refine Lo.ref _ ?_ | refine Lo.tup _ ?_ | refine Lo.fn _ _ ?_ | refine Lo.sl _ ?_ | intro _)) (by simp only [argF]; rfl) ?_
  repeat (first | refine zag ?_ | refine zap ?_ | refine zae ?_ | refine zar ?_ | refine zac ?_)
  refine zaf ?_
  first | refine zab rfl rfl (zaa rfl) (za9 (.inr rfl) rfl) ?_ | refine zab rfl rfl (zaa rfl) (zbp (.inr rfl) rfl) ?_ | refine zab rfl rfl (zaa rfl) (mv_s (.inr rfl) rfl) ?_ | refine zab rfl rfl (zaa rfl) (zba (.inr rfl) rfl) ?_
  refine zam ?_
  repeat (first | refine zag ?_ | refine zap ?_ | refine zae ?_ | refine zar ?_ | refine zac ?_)
  refine zaf ?_
  refine zab rfl rfl (zaa rfl) (does_lit0 rfl rfl ts27 ti59) ?_
  first | refine zab rfl rfl (zaa rfl) (za9 (.inr rfl) rfl) ?_ | refine zab rfl rfl (zaa rfl) (zbp (.inr rfl) rfl) ?_ | refine zab rfl rfl (zaa rfl) (mv_s (.inr rfl) rfl) ?_ | refine zab rfl rfl (zaa rfl) (zba (.inr rfl) rfl) ?_
  refine zam ?_
  repeat (first | refine zag ?_ | refine zap ?_ | refine zae ?_ | refine zar ?_ | refine zac ?_)
  refine zaf ?_
  refine zab rfl rfl (zaa rfl) (mv_s (.inl rfl) rfl) ?_
  refine zab rfl rfl (zaa rfl) (mv_s (.inl rfl) rfl) ?_
  refine zam ?_
  repeat (first | refine zag ?_ | refine zap ?_ | refine zae ?_ | refine zar ?_ | refine zac ?_)
  refine aw_weak (wk_own (d := 5) 2 rfl (.inl rfl)) ?_
  refine aw_loops (S := Nat) (fun k => [(1, .fn f caps), (8, eI n), (9, eI k), (5, .own 0 2 k)]) (fun k => [.row 2 (((unitL n p).take k).map eF)]) (fun k => k ≤ n) (fun k => n - k) 0 (wk_st [0] (by decide) ⟨⟨_, rfl, .rowE (by repeat' (first | exact Lo.s _ | exact zai | exact zbf | refine zad ?_ ?_ | refine za5 ?_ ?_ | refine zak ?_ | refine zbg ?_ | refine Lo.cells ?_ | refine Lo.agg _ ?_ | refine Lo.sl _ ?_ | intro _)) rfl⟩, trivial⟩ ⟨.lo _ hlc, .lo _ (by repeat' (first | exact Lo.s _ | exact zai | refine zad ?_ ?_ | refine zak ?_ | refine Lo.cells ?_ | refine Lo.agg _ ?_ | refine Lo.ref _ ?_ | refine Lo.tup _ ?_ | refine Lo.fn _ _ ?_ | refine Lo.sl _ ?_ | intro _)), .lo _ (by repeat' (first | exact Lo.s _ | exact zai | refine zad ?_ ?_ | refine zak ?_ | refine Lo.cells ?_ | refine Lo.agg _ ?_ | refine Lo.ref _ ?_ | refine Lo.tup _ ?_ | refine Lo.fn _ _ ?_ | refine Lo.sl _ ?_ | intro _)), .own 0 0 2 _ _ rfl rfl, trivial⟩) (Nat.zero_le _) (fun k hk => ?_)
  have hcl := unitL_len n p
  repeat (first | refine zag ?_ | refine zap ?_ | refine zae ?_ | refine zar ?_ | refine zac ?_)
  all_goals refine zaf ?_
  all_goals (first | refine zbm rfl rfl (zaa rfl) (zbh rfl rfl rfl) (fun h10 => ?_) (fun h10 => ?_) | refine zbn rfl rfl (zaa rfl) (zbh rfl rfl rfl) (fun h10 => ?_) (fun h10 => ?_))
  all_goals refine zam ?_
  all_goals (repeat (first | refine zag ?_ | refine zap ?_ | refine zae ?_ | refine zar ?_ | refine zac ?_))
  all_goals (first | refine zbv rfl ?_ | refine zbr rfl ?_)
  all_goals (repeat (first | refine zag ?_ | refine zap ?_ | refine zae ?_ | refine zar ?_ | refine zac ?_))
  · have hlt : k < n := by omega
    have htk : (((unitL n p).take k).map eF).length = k := by simp; omega
    have hrow : ((unitL n p).take (k + 1)).map eF = ((unitL n p).take k).map eF ++ [eF (Fr.of (if p k = true then 1 else 0))] := by
      rw [take_snoc (by omega), List.map_append, unitL_gti hlt]; rfl
    have hp := hf k hlt
    generalize p k = z at hp hrow
    refine zaf ?_
    refine zab rfl rfl (zaa rfl) (mv_s (.inl rfl) rfl) ?_
    refine zab rfl rfl (zaa rfl) (mv_s (.inr rfl) rfl) ?_
    refine zam ?_
    repeat (first | refine zag ?_ | refine zap ?_ | refine zae ?_ | refine zar ?_ | refine zac ?_)
    cases z with
    | true =>
      refine zaf ?_
      first | refine zab rfl rfl (zaa rfl) (mv_fn (.inl rfl) rfl) ?_ | refine zab rfl rfl (zaa rfl) (mv_s (.inl rfl) rfl) ?_
      refine zab rfl rfl (zaa rfl) (mv_s (.inl rfl) rfl) ?_
      refine zab rfl rfl (zaa rfl) (za2 rfl rfl (hp) (zat rfl zbl)) ?_
      refine zam ?_
      repeat (first | refine zag ?_ | refine zap ?_ | refine zae ?_ | refine zar ?_ | refine zac ?_)
      refine zbv rfl ?_
      repeat (first | refine zag ?_ | refine zap ?_ | refine zae ?_ | refine zar ?_ | refine zac ?_)
      rw [if_pos rfl] at hrow
      refine zaf ?_
      first | refine zab rfl rfl (zaa rfl) (za9 (.inl rfl) rfl) ?_ | refine zab rfl rfl (zaa rfl) (zbp (.inl rfl) rfl) ?_ | refine zab rfl rfl (zaa rfl) (mv_s (.inl rfl) rfl) ?_ | refine zab rfl rfl (zaa rfl) (zba (.inl rfl) rfl) ?_
      refine zab rfl rfl (zaa rfl) (za2 rfl rfl ((whole_pf _)) (zat rfl zbl)) ?_
      first | refine zab rfl rfl (zaa rfl) (lit1_sF rfl ts27 ti59 rfl rfl rfl rfl) ?_ | refine zab rfl rfl (zaa rfl) (lit1_slF rfl ts27 ti59 rfl rfl rfl rfl (by repeat' (first | exact Lo.s _ | exact zai | refine zad ?_ ?_ | refine zak ?_ | refine Lo.cells ?_ | refine Lo.agg _ ?_ | refine Lo.ref _ ?_ | refine Lo.tup _ ?_ | refine Lo.fn _ _ ?_ | refine Lo.sl _ ?_ | intro _))) ?_ | refine zab rfl rfl (zaa rfl) (does_litAF rfl ts27 ti59 rfl rfl (by decide) (by decide) rfl rfl rfl (by repeat' (first | exact Lo.s _ | exact zai | refine zad ?_ ?_ | refine zak ?_ | refine Lo.cells ?_ | refine Lo.agg _ ?_ | refine Lo.ref _ ?_ | refine Lo.tup _ ?_ | refine Lo.fn _ _ ?_ | refine Lo.sl _ ?_ | intro _))) ?_
      first | refine zab rfl rfl (zaa rfl) (does_append rfl ts27 ti59 rfl (by decide) rfl rfl (by first | rfl | (simp; done) | (simp; omega)) rfl (by first | exact .own _ _ _ rfl rfl _ (by first | rfl | simp) | exact .emp | exact .nil | exact .sl _ (by first | simp; done | intro e he; simp at he; obtain ⟨_, _, rfl⟩ := he; rfl)) (by first | omega | (simp; omega) | (unfold maxLen; simp; omega)) (by first | omega | (simp; omega) | (unfold maxLen; simp; omega))) ?_ | refine zab rfl rfl (zaa rfl) (does_append0 rfl ts27 ti59 rfl (by decide) rfl (.inl rfl) rfl (by first | exact .own _ _ _ rfl rfl _ (by first | rfl | simp) | exact .emp | exact .nil | exact .sl _ (by first | simp; done | intro e he; simp at he; obtain ⟨_, _, rfl⟩ := he; rfl)) (by first | omega | (simp; omega) | (unfold maxLen; simp; omega)) (by first | omega | (simp; omega) | (unfold maxLen; simp; omega))) ?_ | refine zab rfl rfl (zaa rfl) (does_append0 rfl ts27 ti59 rfl (by decide) rfl (.inr rfl) rfl (by first | exact .own _ _ _ rfl rfl _ (by first | rfl | simp) | exact .emp | exact .nil | exact .sl _ (by first | simp; done | intro e he; simp at he; obtain ⟨_, _, rfl⟩ := he; rfl)) (by first | omega | (simp; omega) | (unfold maxLen; simp; omega)) (by first | omega | (simp; omega) | (unfold maxLen; simp; omega))) ?_
      first | refine zab rfl rfl (zaa rfl) (za9 (.inr rfl) rfl) ?_ | refine zab rfl rfl (zaa rfl) (zbp (.inr rfl) rfl) ?_ | refine zab rfl rfl (zaa rfl) (mv_s (.inr rfl) rfl) ?_ | refine zab rfl rfl (zaa rfl) (zba (.inr rfl) rfl) ?_
      refine zam ?_
      repeat (first | refine zag ?_ | refine zap ?_ | refine zae ?_ | refine zar ?_ | refine zac ?_)
      refine zaf ?_
      refine zab rfl rfl (zaa rfl) (does_add rfl rfl rfl (IntWalk.i64_in _ (by omega))) ?_
      refine zab rfl rfl (zaa rfl) (mv_s (.inl rfl) rfl) ?_
      refine zam ?_
      repeat (first | refine zag ?_ | refine zap ?_ | refine zae ?_ | refine zar ?_ | refine zac ?_)
      exact ⟨k + 1, by omega, by omega, wk_st [1] (by decide) ⟨⟨_, rfl, .rowE (by repeat' (first | exact Lo.s _ | exact zai | exact zbf | refine zad ?_ ?_ | refine za5 ?_ ?_ | refine zak ?_ | refine zbg ?_ | refine Lo.cells ?_ | refine Lo.agg _ ?_ | refine Lo.sl _ ?_ | intro _)) (Eq.trans (b := ((unitL n p).take k).map eF ++ [eF (Fr.of 1)]) rfl hrow.symm)⟩, trivial⟩ ⟨.lo _ hlc, .lo _ (by repeat' (first | exact Lo.s _ | exact zai | refine zad ?_ ?_ | refine zak ?_ | refine Lo.cells ?_ | refine Lo.agg _ ?_ | refine Lo.ref _ ?_ | refine Lo.tup _ ?_ | refine Lo.fn _ _ ?_ | refine Lo.sl _ ?_ | intro _)), .lo _ (by repeat' (first | exact Lo.s _ | exact zai | refine zad ?_ ?_ | refine zak ?_ | refine Lo.cells ?_ | refine Lo.agg _ ?_ | refine Lo.ref _ ?_ | refine Lo.tup _ ?_ | refine Lo.fn _ _ ?_ | refine Lo.sl _ ?_ | intro _)), .own 1 0 2 _ _ rfl (by simp; omega), trivial⟩⟩
    | false =>
      refine zaf ?_
      first | refine zab rfl rfl (zaa rfl) (mv_fn (.inl rfl) rfl) ?_ | refine zab rfl rfl (zaa rfl) (mv_s (.inl rfl) rfl) ?_
      refine zab rfl rfl (zaa rfl) (mv_s (.inl rfl) rfl) ?_
      refine zab rfl rfl (zaa rfl) (za2 rfl rfl (hp) (zat rfl zbl)) ?_
      refine zam ?_
      repeat (first | refine zag ?_ | refine zap ?_ | refine zae ?_ | refine zar ?_ | refine zac ?_)
      refine zbr rfl ?_
      repeat (first | refine zag ?_ | refine zap ?_ | refine zae ?_ | refine zar ?_ | refine zac ?_)
      rw [if_neg (by simp)] at hrow
      refine zaf ?_
      first | refine zab rfl rfl (zaa rfl) (za9 (.inl rfl) rfl) ?_ | refine zab rfl rfl (zaa rfl) (zbp (.inl rfl) rfl) ?_ | refine zab rfl rfl (zaa rfl) (mv_s (.inl rfl) rfl) ?_ | refine zab rfl rfl (zaa rfl) (zba (.inl rfl) rfl) ?_
      refine zab rfl rfl (zaa rfl) (za2 rfl rfl ((whole_pf _)) (zat rfl zbl)) ?_
      first | refine zab rfl rfl (zaa rfl) (lit1_sF rfl ts27 ti59 rfl rfl rfl rfl) ?_ | refine zab rfl rfl (zaa rfl) (lit1_slF rfl ts27 ti59 rfl rfl rfl rfl (by repeat' (first | exact Lo.s _ | exact zai | refine zad ?_ ?_ | refine zak ?_ | refine Lo.cells ?_ | refine Lo.agg _ ?_ | refine Lo.ref _ ?_ | refine Lo.tup _ ?_ | refine Lo.fn _ _ ?_ | refine Lo.sl _ ?_ | intro _))) ?_ | refine zab rfl rfl (zaa rfl) (does_litAF rfl ts27 ti59 rfl rfl (by decide) (by decide) rfl rfl rfl (by repeat' (first | exact Lo.s _ | exact zai | refine zad ?_ ?_ | refine zak ?_ | refine Lo.cells ?_ | refine Lo.agg _ ?_ | refine Lo.ref _ ?_ | refine Lo.tup _ ?_ | refine Lo.fn _ _ ?_ | refine Lo.sl _ ?_ | intro _))) ?_
      first | refine zab rfl rfl (zaa rfl) (does_append rfl ts27 ti59 rfl (by decide) rfl rfl (by first | rfl | (simp; done) | (simp; omega)) rfl (by first | exact .own _ _ _ rfl rfl _ (by first | rfl | simp) | exact .emp | exact .nil | exact .sl _ (by first | simp; done | intro e he; simp at he; obtain ⟨_, _, rfl⟩ := he; rfl)) (by first | omega | (simp; omega) | (unfold maxLen; simp; omega)) (by first | omega | (simp; omega) | (unfold maxLen; simp; omega))) ?_ | refine zab rfl rfl (zaa rfl) (does_append0 rfl ts27 ti59 rfl (by decide) rfl (.inl rfl) rfl (by first | exact .own _ _ _ rfl rfl _ (by first | rfl | simp) | exact .emp | exact .nil | exact .sl _ (by first | simp; done | intro e he; simp at he; obtain ⟨_, _, rfl⟩ := he; rfl)) (by first | omega | (simp; omega) | (unfold maxLen; simp; omega)) (by first | omega | (simp; omega) | (unfold maxLen; simp; omega))) ?_ | refine zab rfl rfl (zaa rfl) (does_append0 rfl ts27 ti59 rfl (by decide) rfl (.inr rfl) rfl (by first | exact .own _ _ _ rfl rfl _ (by first | rfl | simp) | exact .emp | exact .nil | exact .sl _ (by first | simp; done | intro e he; simp at he; obtain ⟨_, _, rfl⟩ := he; rfl)) (by first | omega | (simp; omega) | (unfold maxLen; simp; omega)) (by first | omega | (simp; omega) | (unfold maxLen; simp; omega))) ?_
      first | refine zab rfl rfl (zaa rfl) (za9 (.inr rfl) rfl) ?_ | refine zab rfl rfl (zaa rfl) (zbp (.inr rfl) rfl) ?_ | refine zab rfl rfl (zaa rfl) (mv_s (.inr rfl) rfl) ?_ | refine zab rfl rfl (zaa rfl) (zba (.inr rfl) rfl) ?_
      refine zam ?_
      repeat (first | refine zag ?_ | refine zap ?_ | refine zae ?_ | refine zar ?_ | refine zac ?_)
      refine zaf ?_
      refine zab rfl rfl (zaa rfl) (does_add rfl rfl rfl (IntWalk.i64_in _ (by omega))) ?_
      refine zab rfl rfl (zaa rfl) (mv_s (.inl rfl) rfl) ?_
      refine zam ?_
      repeat (first | refine zag ?_ | refine zap ?_ | refine zae ?_ | refine zar ?_ | refine zac ?_)
      exact ⟨k + 1, by omega, by omega, wk_st [1] (by decide) ⟨⟨_, rfl, .rowE (by repeat' (first | exact Lo.s _ | exact zai | exact zbf | refine zad ?_ ?_ | refine za5 ?_ ?_ | refine zak ?_ | refine zbg ?_ | refine Lo.cells ?_ | refine Lo.agg _ ?_ | refine Lo.sl _ ?_ | intro _)) (Eq.trans (b := ((unitL n p).take k).map eF ++ [eF (Fr.of 0)]) rfl hrow.symm)⟩, trivial⟩ ⟨.lo _ hlc, .lo _ (by repeat' (first | exact Lo.s _ | exact zai | refine zad ?_ ?_ | refine zak ?_ | refine Lo.cells ?_ | refine Lo.agg _ ?_ | refine Lo.ref _ ?_ | refine Lo.tup _ ?_ | refine Lo.fn _ _ ?_ | refine Lo.sl _ ?_ | intro _)), .lo _ (by repeat' (first | exact Lo.s _ | exact zai | refine zad ?_ ?_ | refine zak ?_ | refine Lo.cells ?_ | refine Lo.agg _ ?_ | refine Lo.ref _ ?_ | refine Lo.tup _ ?_ | refine Lo.fn _ _ ?_ | refine Lo.sl _ ?_ | intro _)), .own 1 0 2 _ _ rfl (by simp; omega), trivial⟩⟩
  · (refine aw_exit ?_; repeat (first | refine ath_x ?_ | refine abl_hit ?_ | refine abl_miss rfl ?_ | refine zar ?_ | refine zap ?_ | refine zag ?_ | refine zae ?_ | refine zac ?_))
    refine zaf ?_
    first | refine zab rfl rfl (zaa rfl) (za9 (.inl rfl) rfl) ?_ | refine zab rfl rfl (zaa rfl) (zbp (.inl rfl) rfl) ?_ | refine zab rfl rfl (zaa rfl) (mv_s (.inl rfl) rfl) ?_ | refine zab rfl rfl (zaa rfl) (zba (.inl rfl) rfl) ?_
    first | refine zab rfl rfl (zaa rfl) (za9 (.inr rfl) rfl) ?_ | refine zab rfl rfl (zaa rfl) (zbp (.inr rfl) rfl) ?_ | refine zab rfl rfl (zaa rfl) (mv_s (.inr rfl) rfl) ?_ | refine zab rfl rfl (zaa rfl) (zba (.inr rfl) rfl) ?_
    refine zam ?_
    repeat (first | refine zag ?_ | refine zap ?_ | refine zae ?_ | refine zar ?_ | refine zac ?_)
    (refine zbw ?_; repeat (first | refine ath_r ?_ | refine abl_r ?_))
    have e : (unitL n p).take k = unitL n p := List.take_of_length_le (by omega)
    refine post1f (.inr rfl) rfl ?_
    rw [e]
    exact .own _ _ _ _ _ rfl rfl (by simp; omega)
theorem prog2_pf (l : List Sft) (k i : Nat) (hi : i < l.length) : Pure P 45 [eI i, .ref [eL eSh l], .ref [eI k]] (eB (inB (gti l i).pd k)) := by
  have hc := containsI_pf (P := P) (gti l i).pd k
  refine aw_fn (by rw [IsP.eq (P := P)]; exact Try.func45) rfl rfl rfl rfl rfl (by repeat' (first | exact Lo.s _ | exact zai | refine zad ?_ ?_ | refine zak ?_ | refine Lo.cells ?_ | refine Lo.agg _ ?_ | refine Lo.ref _ ?_ | refine Lo.tup _ ?_ | refine Lo.fn _ _ ?_ | refine Lo.sl _ ?_ | intro _)) (by repeat' (first | exact Lo.s _ | exact zai | refine zad ?_ ?_ | refine zak ?_ | refine Lo.cells ?_ | refine Lo.agg _ ?_ | refine Lo.ref _ ?_ | refine Lo.tup _ ?_ | refine Lo.fn _ _ ?_ | refine Lo.sl _ ?_ | intro _)) (by simp only [argF]; rfl) ?_
  repeat (first | refine zag ?_ | refine zap ?_ | refine zae ?_ | refine zar ?_ | refine zac ?_)
  refine zaf ?_
  refine zab rfl rfl (zaa rfl) (mv_s (.inr rfl) rfl) ?_
  refine zam ?_
  repeat (first | refine zag ?_ | refine zap ?_ | refine zae ?_ | refine zar ?_ | refine zac ?_)
  all_goals refine aw_draw hmix ?_
  all_goals refine adraw_ex ?_
  all_goals (first | refine zaq rfl rfl (zaa rfl) (fun _ => (zan rfl ta23 rfl)) ?_ | refine ex_look rfl rfl (zaa rfl) (look_ptr rfl ta23 rfl rfl rfl rfl rfl) ?_)
  all_goals refine zaq rfl rfl (zaa rfl) (fun _ => (mv_s (.inl rfl) rfl)) ?_
  all_goals (first | refine zaq rfl rfl (zaa rfl) (fun _ => (zaz rfl ts23 ti39 rfl rfl rfl (ix_map (by omega)) rfl)) ?_ | refine zaq rfl rfl (zaa rfl) (fun _ => (zay rfl ts23 ti39 rfl rfl rfl (by omega))) ?_)
  all_goals (first | refine zaq rfl rfl (zaa rfl) (fun _ => (zao rfl tf39_0 (by decide) rfl)) ?_ | refine zaq rfl rfl (zaa rfl) (fun _ => (zal rfl tf39_0 (by decide) rfl)) ?_)
  all_goals (first | refine zaq rfl rfl (zaa rfl) (fun _ => (zan rfl ta22 rfl)) ?_ | refine ex_look rfl rfl (zaa rfl) (look_ptr rfl ta22 rfl rfl rfl rfl rfl) ?_)
  all_goals (first | refine zaq rfl rfl (zaa rfl) (fun _ => (zan rfl ta3 rfl)) ?_ | refine ex_look rfl rfl (zaa rfl) (look_ptr rfl ta3 rfl rfl rfl rfl rfl) ?_)
  all_goals refine zaq rfl rfl (zaa rfl) (fun _ => (za2 rfl rfl (hc) (zat rfl (zat rfl zbl)))) ?_
  all_goals refine zaq rfl rfl (zaa rfl) (fun _ => (mv_s (.inr rfl) rfl)) ?_
  all_goals refine ex_nil (by kernel_rfl) ?_
  all_goals (repeat (first | refine zag ?_ | refine zap ?_ | refine zae ?_ | refine zar ?_ | refine zac ?_))
  (refine zbw ?_; repeat (first | refine ath_r ?_ | refine abl_r ?_))
  exact post1 (.inr rfl) rfl rfl
theorem prog3_pf (k i : Nat) : Pure P 47 [eI i, .ref [eI k]] (eB (decide (i = k))) := by
  refine aw_fn (by rw [IsP.eq (P := P)]; exact Try.func47) rfl rfl rfl rfl rfl (by repeat' (first | exact Lo.s _ | exact zai | refine zad ?_ ?_ | refine zak ?_ | refine Lo.cells ?_ | refine Lo.agg _ ?_ | refine Lo.ref _ ?_ | refine Lo.tup _ ?_ | refine Lo.fn _ _ ?_ | refine Lo.sl _ ?_ | intro _)) (by repeat' (first | exact Lo.s _ | exact zai | refine zad ?_ ?_ | refine zak ?_ | refine Lo.cells ?_ | refine Lo.agg _ ?_ | refine Lo.ref _ ?_ | refine Lo.tup _ ?_ | refine Lo.fn _ _ ?_ | refine Lo.sl _ ?_ | intro _)) (by simp only [argF]; rfl) ?_
  repeat (first | refine zag ?_ | refine zap ?_ | refine zae ?_ | refine zar ?_ | refine zac ?_)
  refine zaf ?_
  refine zab rfl rfl (zaa rfl) (mv_s (.inr rfl) rfl) ?_
  refine zam ?_
  repeat (first | refine zag ?_ | refine zap ?_ | refine zae ?_ | refine zar ?_ | refine zac ?_)
  refine zaf ?_
  refine zab rfl rfl (zaa rfl) (mv_s (.inl rfl) rfl) ?_
  first | refine zab rfl rfl (zaa rfl) (zan rfl ta3 rfl) ?_ | refine zab rfl rfl (zaa rfl) (zas rfl ta3 rfl rfl rfl rfl rfl) ?_
  refine zab rfl rfl (zaa rfl) (does_eql rfl rfl rfl) ?_
  refine zab rfl rfl (zaa rfl) (mv_s (.inr rfl) rfl) ?_
  refine zam ?_
  repeat (first | refine zag ?_ | refine zap ?_ | refine zae ?_ | refine zar ?_ | refine zac ?_)
  (refine zbw ?_; repeat (first | refine ath_r ?_ | refine abl_r ?_))
  exact post1 (.inr rfl) rfl (congrArg eB (by by_cases h : i = k <;> simp [h]; omega))
theorem prog4_pf (k i : Nat) : Pure P 48 [eI i, .ref [eI k]] (eB (decide (i = k))) := by
  refine aw_fn (by rw [IsP.eq (P := P)]; exact Try.func48) rfl rfl rfl rfl rfl (by repeat' (first | exact Lo.s _ | exact zai | refine zad ?_ ?_ | refine zak ?_ | refine Lo.cells ?_ | refine Lo.agg _ ?_ | refine Lo.ref _ ?_ | refine Lo.tup _ ?_ | refine Lo.fn _ _ ?_ | refine Lo.sl _ ?_ | intro _)) (by repeat' (first | exact Lo.s _ | exact zai | refine zad ?_ ?_ | refine zak ?_ | refine Lo.cells ?_ | refine Lo.agg _ ?_ | refine Lo.ref _ ?_ | refine Lo.tup _ ?_ | refine Lo.fn _ _ ?_ | refine Lo.sl _ ?_ | intro _)) (by simp only [argF]; rfl) ?_
  repeat (first | refine zag ?_ | refine zap ?_ | refine zae ?_ | refine zar ?_ | refine zac ?_)
  refine zaf ?_
  refine zab rfl rfl (zaa rfl) (mv_s (.inr rfl) rfl) ?_
  refine zam ?_
  repeat (first | refine zag ?_ | refine zap ?_ | refine zae ?_ | refine zar ?_ | refine zac ?_)
  refine zaf ?_
  refine zab rfl rfl (zaa rfl) (mv_s (.inl rfl) rfl) ?_
  first | refine zab rfl rfl (zaa rfl) (zan rfl ta3 rfl) ?_ | refine zab rfl rfl (zaa rfl) (zas rfl ta3 rfl rfl rfl rfl rfl) ?_
  refine zab rfl rfl (zaa rfl) (does_eql rfl rfl rfl) ?_
  refine zab rfl rfl (zaa rfl) (mv_s (.inr rfl) rfl) ?_
  refine zam ?_
  repeat (first | refine zag ?_ | refine zap ?_ | refine zae ?_ | refine zar ?_ | refine zac ?_)
  (refine zbw ?_; repeat (first | refine ath_r ?_ | refine abl_r ?_))
  exact post1 (.inr rfl) rfl (congrArg eB (by by_cases h : i = k <;> simp [h]; omega))
/-! ## the closure that adds a row -/
theorem edraw_ex {N : Nat} {l : List Oper} {F : Frm} {σ : List Ob} {Q : Exit → Frm → List Ob → Prop} (h : EX P N l.toArray l [] l F σ (fun F' σ' => Q .normal F' σ')) : EDraw P N l F σ Q := by
  obtain ⟨F', σ', out, ks, sts, h1, h2, h3⟩ := h
  exact edraw_steps h1 (by simpa using h2) h3
/-- the program while it grows: the struct, and its four rows -/
def pgS (a b c d : Nat) (C : List Fr) (A : List (List Fr)) (R : List Int) (B : List Fr) : AV := .agg [.own a 2 (C.map eF).length, .own b 1 (A.map (eL eF)).length, .own c 1 (R.map eI).length, .own d 2 (B.map eF).length]
set_option maxHeartbeats 2000000 in
theorem prog1_call (n : Nat) (hn : n ≤ 12) (l : List Sft) (hl : l.length = n) (C : List Fr) (A : List (List Fr)) (R : List Int) (B : List Fr) (hA : A.length ≤ 60) (hR : R.length ≤ 60) (hB : B.length ≤ 60) (X Y : Ob) (f : FuncId) (caps : List AV) (p : Nat → Bool) (hlc : Lo 0 (.fn f caps)) (hf : ∀ i, i < n → Pure P f ([eI i] ++ caps) (eB (p i))) (rel v : Int) :
    CallE P 43 [.fn f caps, eI rel, eI v, .ptr 0 4 0 0, .ref [eL eSh l]] [.row 4 [pgS 1 2 3 4 C A R B], .row 2 (C.map eF), .row 1 (A.map (eL eF)), .row 1 (R.map eI), .row 2 (B.map eF), X, Y] (.tup [])
      [.row 4 [pgS 1 7 8 9 C (A ++ [unitL n p]) (R ++ [rel]) (B ++ [Fr.of v])], .row 2 (C.map eF), .dead, .dead, .dead, X, Y, .row 1 ((A ++ [unitL n p]).map (eL eF)), .row 1 ((R ++ [rel]).map eI), .row 2 ((B ++ [Fr.of v]).map eF)] := by
  subst hl
  have hu := unit_pf (P := P) l.length hn f caps p hlc hf
  generalize unitL l.length p = u at hu ⊢
  have e1 : (A ++ [u]).map (eL eF) = A.map (eL eF) ++ [eL eF u] := by simp
  have e2 : (R ++ [rel]).map eI = R.map eI ++ [eI rel] := by simp
  have e3 : (B ++ [Fr.of v]).map eF = B.map eF ++ [eF (Fr.of v)] := by simp
  have l1 : (A.map (eL eF) ++ [eL eF u]).length = (A.map (eL eF)).length + 1 := by simp
  have l2 : (R.map eI ++ [eI rel]).length = (R.map eI).length + 1 := by simp
  have l3 : (B.map eF ++ [eF (Fr.of v)]).length = (B.map eF).length + 1 := by simp
  unfold pgS
  rw [e1, e2, e3, l1, l2, l3]
  refine callE_fn (by rw [IsP.eq (P := P)]; exact Try.func43) rfl rfl (Nat.le_of_ble_eq_true rfl) ?_
  simp only [argF]
  refine ew_seq ?_
  all_goals refine ew_draw hmix ?_
  all_goals refine edraw_ex ?_
  all_goals (first | refine zaq rfl rfl (zaa rfl) (fun _ => (zao rfl tf49_1 (by decide) rfl)) ?_ | refine zaq rfl rfl (zaa rfl) (fun _ => (zal rfl tf49_1 (by decide) rfl)) ?_)
  all_goals (first | refine zaq rfl rfl (zaa rfl) (fun _ => (zan rfl ta47 rfl)) ?_ | refine ex_look rfl rfl (zaa rfl) (look_ptr rfl ta47 rfl rfl rfl rfl rfl) ?_)
  all_goals (first | refine zaq rfl rfl (zaa rfl) (fun _ => (zan rfl ta23 rfl)) ?_ | refine ex_look rfl rfl (zaa rfl) (look_ptr rfl ta23 rfl rfl rfl rfl rfl) ?_)
  all_goals (first | refine zaq rfl rfl (zaa rfl) (fun _ => (za3 rfl ts23 rfl)) ?_ | refine zaq rfl rfl (zaa rfl) (fun _ => (za8 rfl ts23 rfl)) ?_ | refine zaq rfl rfl (zaa rfl) (fun _ => (za0 rfl ts23 rfl)) ?_ | refine zaq rfl rfl (zaa rfl) (fun _ => (zbe rfl ts23 rfl)) ?_ | refine zaq rfl rfl (zaa rfl) (fun _ => (za1 rfl ts23 rfl)) ?_)
  all_goals (first | refine zaq rfl rfl (zaa rfl) (fun _ => (mv_fn (.inl rfl) rfl)) ?_ | refine zaq rfl rfl (zaa rfl) (fun _ => (mv_s (.inl rfl) rfl)) ?_)
  all_goals refine zaq rfl rfl (zaa rfl) (fun _ => (za2 rfl rfl (hu) (zat rfl (zat rfl zbl)))) ?_
  all_goals (first | refine zaq rfl rfl (zaa rfl) (fun _ => (lit1_sF rfl ts47 ti27 rfl rfl rfl rfl)) ?_ | refine zaq rfl rfl (zaa rfl) (fun _ => (lit1_slF rfl ts47 ti27 rfl rfl rfl rfl (by repeat' (first | exact Lo.s _ | exact zai | refine zad ?_ ?_ | refine zak ?_ | refine Lo.cells ?_ | refine Lo.agg _ ?_ | refine Lo.ref _ ?_ | refine Lo.tup _ ?_ | refine Lo.fn _ _ ?_ | refine Lo.sl _ ?_ | intro _)))) ?_ | refine zaq rfl rfl (zaa rfl) (fun _ => (does_litAF rfl ts47 ti27 rfl rfl (by decide) (by decide) rfl rfl rfl (by repeat' (first | exact Lo.s _ | exact zai | refine zad ?_ ?_ | refine zak ?_ | refine Lo.cells ?_ | refine Lo.agg _ ?_ | refine Lo.ref _ ?_ | refine Lo.tup _ ?_ | refine Lo.fn _ _ ?_ | refine Lo.sl _ ?_ | intro _)))) ?_)
  all_goals (first | refine ex_eff rfl rfl (zaa rfl) (does_append rfl ts47 ti27 rfl (by decide) rfl rfl (by first | rfl | (simp; done) | (simp; omega)) rfl (by first | exact .own _ _ _ rfl rfl _ (by first | rfl | simp) | exact .emp | exact .nil | exact .sl _ (by first | simp; done | intro e he; simp at he; obtain ⟨_, _, rfl⟩ := he; rfl)) (by first | omega | (simp; omega) | (unfold maxLen; simp; omega)) (by first | omega | (simp; omega) | (unfold maxLen; simp; omega))) (fun _ h => app2_other h) ?_ | refine ex_eff rfl rfl (zaa rfl) (does_append0 rfl ts47 ti27 rfl (by decide) rfl (.inl rfl) rfl (by first | exact .own _ _ _ rfl rfl _ (by first | rfl | simp) | exact .emp | exact .nil | exact .sl _ (by first | simp; done | intro e he; simp at he; obtain ⟨_, _, rfl⟩ := he; rfl)) (by first | omega | (simp; omega) | (unfold maxLen; simp; omega)) (by first | omega | (simp; omega) | (unfold maxLen; simp; omega))) (fun _ h => app_other h) ?_ | refine ex_eff rfl rfl (zaa rfl) (does_append0 rfl ts47 ti27 rfl (by decide) rfl (.inr rfl) rfl (by first | exact .own _ _ _ rfl rfl _ (by first | rfl | simp) | exact .emp | exact .nil | exact .sl _ (by first | simp; done | intro e he; simp at he; obtain ⟨_, _, rfl⟩ := he; rfl)) (by first | omega | (simp; omega) | (unfold maxLen; simp; omega)) (by first | omega | (simp; omega) | (unfold maxLen; simp; omega))) (fun _ h => app_other h) ?_)
  all_goals (first | refine zaq rfl rfl (zaa rfl) (fun _ => (zao rfl tf49_1 (by decide) rfl)) ?_ | refine zaq rfl rfl (zaa rfl) (fun _ => (zal rfl tf49_1 (by decide) rfl)) ?_)
  all_goals refine ex_eff0 rfl (zaa rfl) (zbd rfl ti47 rfl rfl rfl rfl rfl rfl (by decide) (by decide)) (fun _ h => set_other h) ?_
  all_goals refine ex_nil (by kernel_rfl) ?_
  all_goals (repeat (first | refine ew_seq ?_ | refine zap ?_ | refine ew_skip ?_ | refine zar ?_ | refine ew_block ?_))
  refine ew_region ?_
  first | refine eops_op rfl rfl (zaa rfl) (zao rfl tf49_2 (by decide) rfl) ?_ | refine eops_op rfl rfl (zaa rfl) (zal rfl tf49_2 (by decide) rfl) ?_
  first | refine eops_op rfl rfl (zaa rfl) (zan rfl ta22 rfl) ?_ | refine eops_op rfl rfl (zaa rfl) (zas rfl ta22 rfl rfl rfl rfl rfl) ?_
  refine eops_op rfl rfl (zaa rfl) (mv_s (.inl rfl) rfl) ?_
  first | refine eops_op rfl rfl (zaa rfl) (lit1_sF rfl ts22 ti3 rfl rfl rfl rfl) ?_ | refine eops_op rfl rfl (zaa rfl) (lit1_slF rfl ts22 ti3 rfl rfl rfl rfl (by repeat' (first | exact Lo.s _ | exact zai | refine zad ?_ ?_ | refine zak ?_ | refine Lo.cells ?_ | refine Lo.agg _ ?_ | refine Lo.ref _ ?_ | refine Lo.tup _ ?_ | refine Lo.fn _ _ ?_ | refine Lo.sl _ ?_ | intro _))) ?_ | refine eops_op rfl rfl (zaa rfl) (does_litAF rfl ts22 ti3 rfl rfl (by decide) (by decide) rfl rfl rfl (by repeat' (first | exact Lo.s _ | exact zai | refine zad ?_ ?_ | refine zak ?_ | refine Lo.cells ?_ | refine Lo.agg _ ?_ | refine Lo.ref _ ?_ | refine Lo.tup _ ?_ | refine Lo.fn _ _ ?_ | refine Lo.sl _ ?_ | intro _))) ?_
  first | refine eops_op rfl rfl (zaa rfl) (does_append rfl ts22 ti3 rfl (by decide) rfl rfl (by first | rfl | (simp; done) | (simp; omega)) rfl (by first | exact .own _ _ _ rfl rfl _ (by first | rfl | simp) | exact .emp | exact .nil | exact .sl _ (by first | simp; done | intro e he; simp at he; obtain ⟨_, _, rfl⟩ := he; rfl)) (by first | omega | (simp; omega) | (unfold maxLen; simp; omega)) (by first | omega | (simp; omega) | (unfold maxLen; simp; omega))) ?_ | refine eops_op rfl rfl (zaa rfl) (does_append0 rfl ts22 ti3 rfl (by decide) rfl (.inl rfl) rfl (by first | exact .own _ _ _ rfl rfl _ (by first | rfl | simp) | exact .emp | exact .nil | exact .sl _ (by first | simp; done | intro e he; simp at he; obtain ⟨_, _, rfl⟩ := he; rfl)) (by first | omega | (simp; omega) | (unfold maxLen; simp; omega)) (by first | omega | (simp; omega) | (unfold maxLen; simp; omega))) ?_ | refine eops_op rfl rfl (zaa rfl) (does_append0 rfl ts22 ti3 rfl (by decide) rfl (.inr rfl) rfl (by first | exact .own _ _ _ rfl rfl _ (by first | rfl | simp) | exact .emp | exact .nil | exact .sl _ (by first | simp; done | intro e he; simp at he; obtain ⟨_, _, rfl⟩ := he; rfl)) (by first | omega | (simp; omega) | (unfold maxLen; simp; omega)) (by first | omega | (simp; omega) | (unfold maxLen; simp; omega))) ?_
  first | refine eops_op rfl rfl (zaa rfl) (zao rfl tf49_2 (by decide) rfl) ?_ | refine eops_op rfl rfl (zaa rfl) (zal rfl tf49_2 (by decide) rfl) ?_
  refine eops_eff rfl (zaa rfl) (zbd rfl ti22 rfl rfl rfl rfl rfl rfl (by decide) (by decide)) ?_
  refine eops_nil ?_
  repeat (first | refine ew_seq ?_ | refine zap ?_ | refine ew_skip ?_ | refine zar ?_ | refine ew_block ?_)
  all_goals refine ew_draw hmix ?_
  all_goals refine edraw_ex ?_
  all_goals (first | refine zaq rfl rfl (zaa rfl) (fun _ => (zao rfl tf49_3 (by decide) rfl)) ?_ | refine zaq rfl rfl (zaa rfl) (fun _ => (zal rfl tf49_3 (by decide) rfl)) ?_)
  all_goals (first | refine zaq rfl rfl (zaa rfl) (fun _ => (zan rfl ta27 rfl)) ?_ | refine ex_look rfl rfl (zaa rfl) (look_ptr rfl ta27 rfl rfl rfl rfl rfl) ?_)
  all_goals refine zaq rfl rfl (zaa rfl) (fun _ => (mv_s (.inl rfl) rfl)) ?_
  all_goals refine zaq rfl rfl (zaa rfl) (fun _ => (za2 rfl rfl ((whole_pf _)) (zat rfl zbl))) ?_
  all_goals (first | refine zaq rfl rfl (zaa rfl) (fun _ => (lit1_sF rfl ts27 ti59 rfl rfl rfl rfl)) ?_ | refine zaq rfl rfl (zaa rfl) (fun _ => (lit1_slF rfl ts27 ti59 rfl rfl rfl rfl (by repeat' (first | exact Lo.s _ | exact zai | refine zad ?_ ?_ | refine zak ?_ | refine Lo.cells ?_ | refine Lo.agg _ ?_ | refine Lo.ref _ ?_ | refine Lo.tup _ ?_ | refine Lo.fn _ _ ?_ | refine Lo.sl _ ?_ | intro _)))) ?_ | refine zaq rfl rfl (zaa rfl) (fun _ => (does_litAF rfl ts27 ti59 rfl rfl (by decide) (by decide) rfl rfl rfl (by repeat' (first | exact Lo.s _ | exact zai | refine zad ?_ ?_ | refine zak ?_ | refine Lo.cells ?_ | refine Lo.agg _ ?_ | refine Lo.ref _ ?_ | refine Lo.tup _ ?_ | refine Lo.fn _ _ ?_ | refine Lo.sl _ ?_ | intro _)))) ?_)
  all_goals (first | refine ex_eff rfl rfl (zaa rfl) (does_append rfl ts27 ti59 rfl (by decide) rfl rfl (by first | rfl | (simp; done) | (simp; omega)) rfl (by first | exact .own _ _ _ rfl rfl _ (by first | rfl | simp) | exact .emp | exact .nil | exact .sl _ (by first | simp; done | intro e he; simp at he; obtain ⟨_, _, rfl⟩ := he; rfl)) (by first | omega | (simp; omega) | (unfold maxLen; simp; omega)) (by first | omega | (simp; omega) | (unfold maxLen; simp; omega))) (fun _ h => app2_other h) ?_ | refine ex_eff rfl rfl (zaa rfl) (does_append0 rfl ts27 ti59 rfl (by decide) rfl (.inl rfl) rfl (by first | exact .own _ _ _ rfl rfl _ (by first | rfl | simp) | exact .emp | exact .nil | exact .sl _ (by first | simp; done | intro e he; simp at he; obtain ⟨_, _, rfl⟩ := he; rfl)) (by first | omega | (simp; omega) | (unfold maxLen; simp; omega)) (by first | omega | (simp; omega) | (unfold maxLen; simp; omega))) (fun _ h => app_other h) ?_ | refine ex_eff rfl rfl (zaa rfl) (does_append0 rfl ts27 ti59 rfl (by decide) rfl (.inr rfl) rfl (by first | exact .own _ _ _ rfl rfl _ (by first | rfl | simp) | exact .emp | exact .nil | exact .sl _ (by first | simp; done | intro e he; simp at he; obtain ⟨_, _, rfl⟩ := he; rfl)) (by first | omega | (simp; omega) | (unfold maxLen; simp; omega)) (by first | omega | (simp; omega) | (unfold maxLen; simp; omega))) (fun _ h => app_other h) ?_)
  all_goals (first | refine zaq rfl rfl (zaa rfl) (fun _ => (zao rfl tf49_3 (by decide) rfl)) ?_ | refine zaq rfl rfl (zaa rfl) (fun _ => (zal rfl tf49_3 (by decide) rfl)) ?_)
  all_goals refine ex_eff0 rfl (zaa rfl) (zbd rfl ti27 rfl rfl rfl rfl rfl rfl (by decide) (by decide)) (fun _ h => set_other h) ?_
  all_goals refine ex_nil (by kernel_rfl) ?_
  all_goals (repeat (first | refine ew_seq ?_ | refine zap ?_ | refine ew_skip ?_ | refine zar ?_ | refine ew_block ?_))
  exact ⟨.inl rfl, rfl, _, .nil, rfl⟩
end Go.Proofs.Ytmoipmnhgdmkpaa.Aw
end
