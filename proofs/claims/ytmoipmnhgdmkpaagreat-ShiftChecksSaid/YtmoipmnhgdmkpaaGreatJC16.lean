/-
  Texts joined: ShM. Conditions: none.
-/
import Derived.Test.YtmoipmnhgdmkpaaGreatJC11
import Derived.Test.YtmoipmnhgdmkpaaGreatJC9
section
namespace Go.Proofs.YtmoipmnhgdmkpaaGreat.Aw
set_option linter.unusedSimpArgs false
set_option linter.unusedVariables false
set_option linter.unusedSectionVars false
open Go.RowKit Go.Proofs
variable {P : Program} [IsP P]

theorem equalSelf_pf (a : List Int) : Pure P 10 [eL eI a, eL eI a] (eB true) := by
  refine zc4 (by rw [IsP.eq (P := P)]; exact Tryz.func10) rfl rfl rfl rfl rfl (by repeat' (first | exact Lo.s _ | exact zaj | refine zae ?_ ?_ | refine zak ?_ | refine Lo.cells ?_ | refine Lo.agg _ ?_ | refine Lo.ref _ ?_ | refine Lo.tup _ ?_ | refine Lo.fn _ _ ?_ | refine Lo.sl _ ?_ | intro _)) (by repeat' (first | exact Lo.s _ | exact zaj | refine zae ?_ ?_ | refine zak ?_ | refine Lo.cells ?_ | refine Lo.agg _ ?_ | refine Lo.ref _ ?_ | refine Lo.tup _ ?_ | refine Lo.fn _ _ ?_ | refine Lo.sl _ ?_ | intro _)) (by simp only [argF]; rfl) ?_
  repeat (first | refine zag ?_ | refine zar ?_ | refine zad ?_ | refine zas ?_ | refine zac ?_)
  refine zc5 (d := 0) rfl (fun hm1 => ?_)
  unfold maxLen at hm1
  refine zaf ?_
  refine zab rfl rfl (zaa rfl) (mv_s (.inr rfl) rfl) ?_
  refine zan ?_
  repeat (first | refine zag ?_ | refine zar ?_ | refine zad ?_ | refine zas ?_ | refine zac ?_)
  all_goals refine zaf ?_
  all_goals (first | refine zab rfl rfl (zaa rfl) (za6 (.inl rfl) rfl) ?_ | refine zab rfl rfl (zaa rfl) (zbg (.inl rfl) rfl) ?_ | refine zab rfl rfl (zaa rfl) (mv_s (.inl rfl) rfl) ?_ | refine zab rfl rfl (zaa rfl) (za7 (.inl rfl) rfl) ?_)
  all_goals (first | refine zab rfl rfl (zaa rfl) (za4 rfl ts22 rfl) ?_ | refine zab rfl rfl (zaa rfl) (za8 rfl ts22 rfl) ?_ | refine zab rfl rfl (zaa rfl) (za2 rfl ts22 rfl) ?_ | refine zab rfl rfl (zaa rfl) (zbc rfl ts22 rfl) ?_ | refine zab rfl rfl (zaa rfl) (za3 rfl ts22 rfl) ?_)
  all_goals (first | refine zab rfl rfl (zaa rfl) (za6 (.inl rfl) rfl) ?_ | refine zab rfl rfl (zaa rfl) (zbg (.inl rfl) rfl) ?_ | refine zab rfl rfl (zaa rfl) (mv_s (.inl rfl) rfl) ?_ | refine zab rfl rfl (zaa rfl) (za7 (.inl rfl) rfl) ?_)
  all_goals (first | refine zab rfl rfl (zaa rfl) (za4 rfl ts22 rfl) ?_ | refine zab rfl rfl (zaa rfl) (za8 rfl ts22 rfl) ?_ | refine zab rfl rfl (zaa rfl) (za2 rfl ts22 rfl) ?_ | refine zab rfl rfl (zaa rfl) (zbc rfl ts22 rfl) ?_ | refine zab rfl rfl (zaa rfl) (za3 rfl ts22 rfl) ?_)
  all_goals (first | refine zbh rfl rfl (zaa rfl) (zbv rfl rfl rfl) (fun h10 => ?_) (fun h10 => ?_) | refine zbi rfl rfl (zaa rfl) (zbv rfl rfl rfl) (fun h10 => ?_) (fun h10 => ?_))
  all_goals refine zan ?_
  all_goals (repeat (first | refine zag ?_ | refine zar ?_ | refine zad ?_ | refine zas ?_ | refine zac ?_))
  all_goals (first | refine zbp rfl ?_ | refine zbm rfl ?_)
  all_goals (repeat (first | refine zag ?_ | refine zar ?_ | refine zad ?_ | refine zas ?_ | refine zac ?_))
  · exact absurd rfl h10
  refine zaf ?_
  first | refine zab rfl rfl (zaa rfl) (za6 (.inl rfl) rfl) ?_ | refine zab rfl rfl (zaa rfl) (zbg (.inl rfl) rfl) ?_ | refine zab rfl rfl (zaa rfl) (mv_s (.inl rfl) rfl) ?_ | refine zab rfl rfl (zaa rfl) (za7 (.inl rfl) rfl) ?_
  first | refine zab rfl rfl (zaa rfl) (za4 rfl ts22 rfl) ?_ | refine zab rfl rfl (zaa rfl) (za8 rfl ts22 rfl) ?_ | refine zab rfl rfl (zaa rfl) (za2 rfl ts22 rfl) ?_ | refine zab rfl rfl (zaa rfl) (zbc rfl ts22 rfl) ?_ | refine zab rfl rfl (zaa rfl) (za3 rfl ts22 rfl) ?_
  refine zab rfl rfl (zaa rfl) (mv_s (.inl rfl) rfl) ?_
  refine zan ?_
  repeat (first | refine zag ?_ | refine zar ?_ | refine zad ?_ | refine zas ?_ | refine zac ?_)
  refine zcc (S := Nat) (fun k => [(0, eL eI a), (1, eL eI a), (12, eI a.length), (13, eI k)]) (fun _ => []) (fun k => k ≤ a.length) (fun k => a.length - k) 0 (zck [] (by decide) trivial ⟨.lo _ (by repeat' (first | exact Lo.s _ | exact zaj | refine zae ?_ ?_ | refine zak ?_ | refine Lo.cells ?_ | refine Lo.agg _ ?_ | refine Lo.ref _ ?_ | refine Lo.tup _ ?_ | refine Lo.fn _ _ ?_ | refine Lo.sl _ ?_ | intro _)), .lo _ (by repeat' (first | exact Lo.s _ | exact zaj | refine zae ?_ ?_ | refine zak ?_ | refine Lo.cells ?_ | refine Lo.agg _ ?_ | refine Lo.ref _ ?_ | refine Lo.tup _ ?_ | refine Lo.fn _ _ ?_ | refine Lo.sl _ ?_ | intro _)), .lo _ (by repeat' (first | exact Lo.s _ | exact zaj | refine zae ?_ ?_ | refine zak ?_ | refine Lo.cells ?_ | refine Lo.agg _ ?_ | refine Lo.ref _ ?_ | refine Lo.tup _ ?_ | refine Lo.fn _ _ ?_ | refine Lo.sl _ ?_ | intro _)), .lo _ (by repeat' (first | exact Lo.s _ | exact zaj | refine zae ?_ ?_ | refine zak ?_ | refine Lo.cells ?_ | refine Lo.agg _ ?_ | refine Lo.ref _ ?_ | refine Lo.tup _ ?_ | refine Lo.fn _ _ ?_ | refine Lo.sl _ ?_ | intro _)), trivial⟩) (Nat.zero_le _) (fun k hk => ?_)
  repeat (first | refine zag ?_ | refine zar ?_ | refine zad ?_ | refine zas ?_ | refine zac ?_)
  all_goals refine zaf ?_
  all_goals (first | refine zbh rfl rfl (zaa rfl) (zbb rfl rfl rfl) (fun h14 => ?_) (fun h14 => ?_) | refine zbi rfl rfl (zaa rfl) (zbb rfl rfl rfl) (fun h14 => ?_) (fun h14 => ?_))
  all_goals refine zan ?_
  all_goals (repeat (first | refine zag ?_ | refine zar ?_ | refine zad ?_ | refine zas ?_ | refine zac ?_))
  all_goals (first | refine zbp rfl ?_ | refine zbm rfl ?_)
  all_goals (repeat (first | refine zag ?_ | refine zar ?_ | refine zad ?_ | refine zas ?_ | refine zac ?_))
  · have hlt : k < a.length := by omega
    refine zaf ?_
    refine zab rfl rfl (zaa rfl) (mv_s (.inl rfl) rfl) ?_
    refine zab rfl rfl (zaa rfl) (mv_s (.inr rfl) rfl) ?_
    refine zan ?_
    repeat (first | refine zag ?_ | refine zar ?_ | refine zad ?_ | refine zas ?_ | refine zac ?_)
    all_goals refine zch hmix ?_
    all_goals refine zco (by kernel_rfl) ?_
    all_goals (first | refine zat rfl rfl (zaa rfl) (za6 (.inl rfl) rfl) ?_ | refine zat rfl rfl (zaa rfl) (zbg (.inl rfl) rfl) ?_ | refine zat rfl rfl (zaa rfl) (mv_s (.inl rfl) rfl) ?_ | refine zat rfl rfl (zaa rfl) (za7 (.inl rfl) rfl) ?_)
    all_goals refine zat rfl rfl (zaa rfl) (mv_s (.inl rfl) rfl) ?_
    all_goals (first | refine zat rfl rfl (zaa rfl) (za1 rfl ts22 ti3 rfl rfl rfl (zb5 (by omega)) rfl) ?_ | refine zat rfl rfl (zaa rfl) (zay rfl ts22 ti3 rfl rfl rfl (by omega)) ?_)
    all_goals (first | refine zat rfl rfl (zaa rfl) (zam rfl ta3 rfl) ?_ | refine zat rfl rfl (zaa rfl) (zap rfl ta3 rfl rfl rfl rfl rfl) ?_)
    all_goals (first | refine zat rfl rfl (zaa rfl) (za6 (.inl rfl) rfl) ?_ | refine zat rfl rfl (zaa rfl) (zbg (.inl rfl) rfl) ?_ | refine zat rfl rfl (zaa rfl) (mv_s (.inl rfl) rfl) ?_ | refine zat rfl rfl (zaa rfl) (za7 (.inl rfl) rfl) ?_)
    all_goals refine zat rfl rfl (zaa rfl) (mv_s (.inl rfl) rfl) ?_
    all_goals (first | refine zat rfl rfl (zaa rfl) (za1 rfl ts22 ti3 rfl rfl rfl (zb5 (by omega)) rfl) ?_ | refine zat rfl rfl (zaa rfl) (zay rfl ts22 ti3 rfl rfl rfl (by omega)) ?_)
    all_goals (first | refine zat rfl rfl (zaa rfl) (zam rfl ta3 rfl) ?_ | refine zat rfl rfl (zaa rfl) (zap rfl ta3 rfl rfl rfl rfl rfl) ?_)
    all_goals (first | refine zdg rfl rfl (zaa rfl) (zbv rfl rfl rfl) (fun h24 => ?_) (fun h24 => ?_) | refine zdh rfl rfl (zaa rfl) (zbv rfl rfl rfl) (fun h24 => ?_) (fun h24 => ?_))
    all_goals refine qx_nil ?_
    all_goals (repeat (first | refine zag ?_ | refine zar ?_ | refine zad ?_ | refine zas ?_ | refine zac ?_))
    all_goals (first | refine zbp rfl ?_ | refine zbm rfl ?_)
    all_goals (repeat (first | refine zag ?_ | refine zar ?_ | refine zad ?_ | refine zas ?_ | refine zac ?_))
    · exact absurd rfl h24
    · skip
      refine zaf ?_
      refine zab rfl rfl (zaa rfl) (zb2 rfl rfl rfl (IntWalk.i64_in _ (by omega))) ?_
      refine zab rfl rfl (zaa rfl) (mv_s (.inl rfl) rfl) ?_
      refine zan ?_
      repeat (first | refine zag ?_ | refine zar ?_ | refine zad ?_ | refine zas ?_ | refine zac ?_)
      exact ⟨k + 1, by omega, by omega, zck [] (by decide) trivial ⟨.lo _ (by repeat' (first | exact Lo.s _ | exact zaj | refine zae ?_ ?_ | refine zak ?_ | refine Lo.cells ?_ | refine Lo.agg _ ?_ | refine Lo.ref _ ?_ | refine Lo.tup _ ?_ | refine Lo.fn _ _ ?_ | refine Lo.sl _ ?_ | intro _)), .lo _ (by repeat' (first | exact Lo.s _ | exact zaj | refine zae ?_ ?_ | refine zak ?_ | refine Lo.cells ?_ | refine Lo.agg _ ?_ | refine Lo.ref _ ?_ | refine Lo.tup _ ?_ | refine Lo.fn _ _ ?_ | refine Lo.sl _ ?_ | intro _)), .lo _ (by repeat' (first | exact Lo.s _ | exact zaj | refine zae ?_ ?_ | refine zak ?_ | refine Lo.cells ?_ | refine Lo.agg _ ?_ | refine Lo.ref _ ?_ | refine Lo.tup _ ?_ | refine Lo.fn _ _ ?_ | refine Lo.sl _ ?_ | intro _)), .lo _ (by repeat' (first | exact Lo.s _ | exact zaj | refine zae ?_ ?_ | refine zak ?_ | refine Lo.cells ?_ | refine Lo.agg _ ?_ | refine Lo.ref _ ?_ | refine Lo.tup _ ?_ | refine Lo.fn _ _ ?_ | refine Lo.sl _ ?_ | intro _)), trivial⟩⟩
  · (refine zcl ?_; repeat (first | refine ath_x ?_ | refine zci ?_ | refine zcb rfl ?_ | refine zas ?_ | refine zar ?_ | refine zag ?_ | refine zad ?_ | refine zac ?_))
    refine zaf ?_
    refine zab rfl rfl (zaa rfl) (mv_s (.inr rfl) rfl) ?_
    refine zan ?_
    repeat (first | refine zag ?_ | refine zar ?_ | refine zad ?_ | refine zas ?_ | refine zac ?_)
    (refine zbs ?_; repeat (first | refine zb8 ?_ | refine zb9 ?_))
    exact zcm (.inr rfl) rfl rfl
def exD : List Int := [1, 2, 1]
def exL : List Sft := [⟨[0, 1], 3, 2⟩, ⟨[1, 2], 4, 2⟩]
def exY1 : List Fr := [⟨0, 1⟩, ⟨3, 1⟩, ⟨1, 1⟩]
def exY2 : List Fr := [⟨3, 1⟩, ⟨0, 1⟩, ⟨4, 1⟩]
def exR : AV := .tup [ePl ⟨[1, 1], 7⟩, .agg [eI 0, eI 0, .sl [], eL eF exY1], eI 0]
theorem chk1 : chkE exD exL ⟨[1, 1], 7⟩ (.mk 0 0 [] exY1) = true := by kernel_rfl
theorem chk2 : chkE exD exL ⟨[1, 1], 7⟩ (.mk 0 0 [] exY2) = true := by kernel_rfl
theorem chk_ex (y : List Fr) (h : chkE exD exL ⟨[1, 1], 7⟩ (.mk 0 0 [] y) = true) : Pure P 7 [eL eI exD, eL eSh exL, ePl ⟨[1, 1], 7⟩, .agg [eI 0, eI 0, .sl [], eL eF y]] (eB true) := by
  have := check_pf (P := P) exD exL ⟨[1, 1], 7⟩ (.mk 0 0 [] y)
  rw [h, eBr_mk] at this
  exact this
set_option maxHeartbeats 2000000 in
theorem awake_of (hbest : Pure P 9 [eL eI exD, eL eSh exL, eI 100] exR) : Pure P 4 [] (eB true) := by
  have hc1 := chk_ex (P := P) exY1 chk1
  have hc2 := chk_ex (P := P) exY2 chk2
  replace hbest : Pure P 9 [eL eI exD, eL eSh exL, eI 100] (.tup [ePl ⟨[1, 1], 7⟩, .agg [eI 0, eI 0, .sl [], eL eF exY1], eI 0]) := hbest
  refine zc4 (by rw [IsP.eq (P := P)]; exact Tryz.func4) rfl rfl rfl rfl rfl (by repeat' (first | exact Lo.s _ | exact zaj | refine zae ?_ ?_ | refine zak ?_ | refine Lo.cells ?_ | refine Lo.agg _ ?_ | refine Lo.ref _ ?_ | refine Lo.tup _ ?_ | refine Lo.fn _ _ ?_ | refine Lo.sl _ ?_ | intro _)) (by repeat' (first | exact Lo.s _ | exact zaj | refine zae ?_ ?_ | refine zak ?_ | refine Lo.cells ?_ | refine Lo.agg _ ?_ | refine Lo.ref _ ?_ | refine Lo.tup _ ?_ | refine Lo.fn _ _ ?_ | refine Lo.sl _ ?_ | intro _)) (by simp only [argF]; rfl) ?_
  repeat (first | refine zag ?_ | refine zar ?_ | refine zad ?_ | refine zas ?_ | refine zac ?_)
  refine zaf ?_
  refine zab rfl rfl (zaa rfl) (mv_s (.inr rfl) rfl) ?_
  refine zan ?_
  repeat (first | refine zag ?_ | refine zar ?_ | refine zad ?_ | refine zas ?_ | refine zac ?_)
  refine zaf ?_
  refine zab rfl rfl (zaa rfl) (does_lit rfl ts22 ti3 rfl rfl (by decide) (by decide) (by decide) rfl rfl) ?_
  refine zbq (zcd (id := 0) rfl) (zbq (wk_sl (d := 7) rfl rfl (by first | rfl | (simp; done) | (simp; omega))) ?_)
  first | refine zab rfl rfl (zaa rfl) (za6 (.inr rfl) rfl) ?_ | refine zab rfl rfl (zaa rfl) (zbg (.inr rfl) rfl) ?_ | refine zab rfl rfl (zaa rfl) (mv_s (.inr rfl) rfl) ?_ | refine zab rfl rfl (zaa rfl) (za7 (.inr rfl) rfl) ?_
  refine zan ?_
  repeat (first | refine zag ?_ | refine zar ?_ | refine zad ?_ | refine zas ?_ | refine zac ?_)
  refine zaf ?_
  refine zab rfl rfl (zaa rfl) (does_lit rfl ts22 ti3 rfl rfl (by decide) (by decide) (by decide) rfl rfl) ?_
  refine zbq (zcd (id := 1) rfl) (zbq (wk_sl (d := 8) rfl rfl (by first | rfl | (simp; done) | (simp; omega))) ?_)
  refine zab rfl rfl (zaa rfl) (zb7 rfl ti36 tp36 rfl rfl) ?_
  refine zab rfl rfl (zaa rfl) (does_lit rfl ts22 ti3 rfl rfl (by decide) (by decide) (by decide) rfl rfl) ?_
  refine zbq (zcd (id := 2) rfl) (zbq (wk_sl (d := 10) rfl rfl (by first | rfl | (simp; done) | (simp; omega))) ?_)
  refine zab rfl rfl (zaa rfl) (zb7 rfl ti36 tp36 rfl rfl) ?_
  refine zab rfl rfl (zaa rfl) (does_lit rfl ts23 ti36 rfl rfl (by decide) (by decide) (by decide) rfl rfl) ?_
  refine zbq (zcd (id := 3) rfl) (zbq (wk_sl (d := 12) rfl rfl (by first | rfl | (simp; done) | (simp; omega))) ?_)
  first | refine zab rfl rfl (zaa rfl) (za6 (.inr rfl) rfl) ?_ | refine zab rfl rfl (zaa rfl) (zbg (.inr rfl) rfl) ?_ | refine zab rfl rfl (zaa rfl) (mv_s (.inr rfl) rfl) ?_ | refine zab rfl rfl (zaa rfl) (za7 (.inr rfl) rfl) ?_
  refine zan ?_
  repeat (first | refine zag ?_ | refine zar ?_ | refine zad ?_ | refine zas ?_ | refine zac ?_)
  refine zca (F' := [(1, eL eI exD), (2, eL eSh exL)]) (σ' := []) (zck [] (by decide) trivial ⟨.lo _ (show Lo 0 (eL eI exD) from zak fun _ => .s _), .lo _ (show Lo 0 (eL eSh exL) from zak lo_Sh), trivial⟩) ?_
  refine zaf ?_
  first | refine zab rfl rfl (zaa rfl) (za6 (.inl rfl) rfl) ?_ | refine zab rfl rfl (zaa rfl) (zbg (.inl rfl) rfl) ?_ | refine zab rfl rfl (zaa rfl) (mv_s (.inl rfl) rfl) ?_ | refine zab rfl rfl (zaa rfl) (za7 (.inl rfl) rfl) ?_
  first | refine zab rfl rfl (zaa rfl) (za6 (.inl rfl) rfl) ?_ | refine zab rfl rfl (zaa rfl) (zbg (.inl rfl) rfl) ?_ | refine zab rfl rfl (zaa rfl) (mv_s (.inl rfl) rfl) ?_ | refine zab rfl rfl (zaa rfl) (za7 (.inl rfl) rfl) ?_
  refine zab rfl rfl (zaa rfl) (za5 rfl rfl (hbest) (zau rfl (zau rfl (zau rfl zbj)))) ?_
  first | refine zab rfl rfl (zaa rfl) (mv_tup (.inl rfl) rfl) ?_ | refine zab rfl rfl (zaa rfl) (mv_s (.inl rfl) rfl) ?_
  refine zab rfl rfl (zaa rfl) (zbf rfl rfl rfl) ?_
  refine zab rfl rfl (zaa rfl) (zbf rfl rfl rfl) ?_
  refine zab rfl rfl (zaa rfl) (zbf rfl rfl rfl) ?_
  refine zab rfl rfl (zaa rfl) (zbr rfl ti25 rfl rfl) ?_
  refine zab rfl rfl (zaa rfl) (zbr rfl ti29 rfl rfl) ?_
  refine zb0 rfl (zaa rfl) (zbd rfl ti25 rfl rfl rfl rfl rfl rfl (by decide) (by decide)) ?_
  refine zb0 rfl (zaa rfl) (zbd rfl ti29 rfl rfl rfl rfl rfl rfl (by decide) (by decide)) ?_
  refine zab rfl rfl (zaa rfl) (mv_s (.inr rfl) rfl) ?_
  refine zan ?_
  repeat (first | refine zag ?_ | refine zar ?_ | refine zad ?_ | refine zas ?_ | refine zac ?_)
  refine zca (zcd (id := 0) rfl) ?_
  refine zca (zcy (d := 3) rfl rfl rfl) ?_
  refine zca (zcd (id := 1) rfl) ?_
  refine zca (zcy (d := 4) rfl rfl rfl) ?_
  refine zaf ?_
  refine zab rfl rfl (zaa rfl) (zb7 rfl ti41 tp41 rfl rfl) ?_
  refine zab rfl rfl (zaa rfl) (zb7 rfl ti41 tp41 rfl rfl) ?_
  refine zab rfl rfl (zaa rfl) (zb7 rfl ti41 tp41 rfl rfl) ?_
  refine zab rfl rfl (zaa rfl) (does_lit rfl ts27 ti41 rfl rfl (by decide) (by decide) (by decide) rfl rfl) ?_
  refine zbq (zcd (id := 2) rfl) (zbq (wk_sl (d := 23) rfl rfl (by first | rfl | (simp; done) | (simp; omega))) ?_)
  first | refine zab rfl rfl (zaa rfl) (za6 (.inr rfl) rfl) ?_ | refine zab rfl rfl (zaa rfl) (zbg (.inr rfl) rfl) ?_ | refine zab rfl rfl (zaa rfl) (mv_s (.inr rfl) rfl) ?_ | refine zab rfl rfl (zaa rfl) (za7 (.inr rfl) rfl) ?_
  refine zan ?_
  repeat (first | refine zag ?_ | refine zar ?_ | refine zad ?_ | refine zas ?_ | refine zac ?_)
  refine zca (F' := [(1, eL eI exD), (2, eL eSh exL), (3, .ref (ePl ⟨[1, 1], 7⟩).cells), (4, .ref [eI 0, eI 0, .sl [], eL eF exY1]), (5, eI 0), (6, eL eF exY2)]) (σ' := []) (zck [] (by decide) trivial ⟨.lo _ (show Lo 0 (eL eI exD) from zak fun _ => .s _), .lo _ (show Lo 0 (eL eSh exL) from zak lo_Sh), .lo _ (by repeat' (first | exact Lo.s _ | exact zaj | refine zae ?_ ?_ | refine zak ?_ | refine Lo.cells ?_ | refine Lo.agg _ ?_ | refine Lo.ref _ ?_ | refine Lo.tup _ ?_ | refine Lo.fn _ _ ?_ | refine Lo.sl _ ?_ | intro _)), .lo _ (show Lo 0 (.ref [eI 0, eI 0, .sl [], eL eF exY1]) from .ref _ (zae (.s _) (zae (.s _) (zae (.sl _ (by simp)) (zae (lo_Fs _) zaj))))), .lo _ (.s _), .lo _ (show Lo 0 (eL eF exY2) from lo_Fs _), trivial⟩) ?_
  refine zaf ?_
  refine zab rfl rfl (zaa rfl) (mv_s (.inl rfl) rfl) ?_
  refine zab rfl rfl (zaa rfl) (dec_t rfl (zcr rfl rfl rfl)) ?_
  refine zab rfl rfl (zaa rfl) (mv_s (.inl rfl) rfl) ?_
  first | refine zab rfl rfl (zah rfl rfl rfl) (zal rfl tf25_0 (by decide) rfl) ?_ | refine zab rfl rfl (zah rfl rfl rfl) (zai rfl tf25_0 (by decide) rfl) ?_ | refine zaq rfl rfl (zb6 rfl rfl rfl) ?_ | refine zaq rfl rfl (zav rfl rfl rfl) ?_
  first | refine zab rfl rfl (zah rfl rfl rfl) (zam rfl ta22 rfl) ?_ | refine zab rfl rfl (zah rfl rfl rfl) (zap rfl ta22 rfl rfl rfl rfl rfl) ?_ | refine zaq rfl rfl (zb6 rfl rfl rfl) ?_ | refine zaq rfl rfl (zav rfl rfl rfl) ?_
  first | refine zab rfl rfl (zah rfl rfl rfl) (does_lit rfl ts22 ti3 rfl rfl (by decide) (by decide) (by decide) rfl rfl) ?_ | refine zaq rfl rfl (zb6 rfl rfl rfl) ?_ | refine zaq rfl rfl (zav rfl rfl rfl) ?_
  refine zbq (zcd (id := 0) rfl) (zbq (wk_sl (d := 29) rfl rfl (by first | rfl | (simp; done) | (simp; omega))) ?_)
  first | refine zab rfl rfl (zah rfl rfl rfl) (za5 rfl rfl ((equalSelf_pf [1, 1])) (zau rfl (zau rfl zbj))) ?_ | refine zaq rfl rfl (zb6 rfl rfl rfl) ?_ | refine zaq rfl rfl (zav rfl rfl rfl) ?_
  first | refine zab rfl rfl (zaa rfl) (zbx rfl rfl rfl) ?_ | refine zab rfl rfl (zaa rfl) (zby rfl rfl rfl) ?_ | refine zab rfl rfl (zaa rfl) (zbk rfl rfl rfl) ?_ | refine zab rfl rfl (zaa rfl) (zbl rfl rfl rfl) ?_
  refine zab rfl rfl (zaa rfl) (mv_s (.inl rfl) rfl) ?_
  first | refine zab rfl rfl (zah rfl rfl rfl) (zal rfl tf25_1 (by decide) rfl) ?_ | refine zab rfl rfl (zah rfl rfl rfl) (zai rfl tf25_1 (by decide) rfl) ?_ | refine zaq rfl rfl (zb6 rfl rfl rfl) ?_ | refine zaq rfl rfl (zav rfl rfl rfl) ?_
  first | refine zab rfl rfl (zah rfl rfl rfl) (zam rfl ta3 rfl) ?_ | refine zab rfl rfl (zah rfl rfl rfl) (zap rfl ta3 rfl rfl rfl rfl rfl) ?_ | refine zaq rfl rfl (zb6 rfl rfl rfl) ?_ | refine zaq rfl rfl (zav rfl rfl rfl) ?_
  first | refine zab rfl rfl (zah rfl rfl rfl) (dec_t rfl (zcr rfl rfl rfl)) ?_ | refine zaq rfl rfl (zb6 rfl rfl rfl) ?_ | refine zaq rfl rfl (zav rfl rfl rfl) ?_
  first | refine zab rfl rfl (zaa rfl) (zbx rfl rfl rfl) ?_ | refine zab rfl rfl (zaa rfl) (zby rfl rfl rfl) ?_ | refine zab rfl rfl (zaa rfl) (zbk rfl rfl rfl) ?_ | refine zab rfl rfl (zaa rfl) (zbl rfl rfl rfl) ?_
  refine zab rfl rfl (zaa rfl) (mv_s (.inl rfl) rfl) ?_
  first | refine zab rfl rfl (zah rfl rfl rfl) (za6 (.inl rfl) rfl) ?_ | refine zab rfl rfl (zah rfl rfl rfl) (zbg (.inl rfl) rfl) ?_ | refine zab rfl rfl (zah rfl rfl rfl) (mv_s (.inl rfl) rfl) ?_ | refine zab rfl rfl (zah rfl rfl rfl) (za7 (.inl rfl) rfl) ?_ | refine zaq rfl rfl (zb6 rfl rfl rfl) ?_ | refine zaq rfl rfl (zav rfl rfl rfl) ?_
  first | refine zab rfl rfl (zah rfl rfl rfl) (za6 (.inl rfl) rfl) ?_ | refine zab rfl rfl (zah rfl rfl rfl) (zbg (.inl rfl) rfl) ?_ | refine zab rfl rfl (zah rfl rfl rfl) (mv_s (.inl rfl) rfl) ?_ | refine zab rfl rfl (zah rfl rfl rfl) (za7 (.inl rfl) rfl) ?_ | refine zaq rfl rfl (zb6 rfl rfl rfl) ?_ | refine zaq rfl rfl (zav rfl rfl rfl) ?_
  first | refine zab rfl rfl (zah rfl rfl rfl) (za0 rfl ta25 ti25 rfl rfl) ?_ | refine zab rfl rfl (zah rfl rfl rfl) (za9 rfl ta25 ti25 rfl rfl rfl rfl rfl) ?_ | refine zab rfl rfl (zah rfl rfl rfl) (zaz rfl ta25 ti25 rfl (Nat.le_of_ble_eq_true rfl)) ?_ | refine zab rfl rfl (zah rfl rfl rfl) (zba rfl ta25 ti25 rfl rfl rfl rfl (Nat.le_of_ble_eq_true rfl)) ?_ | refine zaq rfl rfl (zb6 rfl rfl rfl) ?_ | refine zaq rfl rfl (zav rfl rfl rfl) ?_
  first | refine zab rfl rfl (zah rfl rfl rfl) (za0 rfl ta29 ti29 rfl rfl) ?_ | refine zab rfl rfl (zah rfl rfl rfl) (za9 rfl ta29 ti29 rfl rfl rfl rfl rfl) ?_ | refine zab rfl rfl (zah rfl rfl rfl) (zaz rfl ta29 ti29 rfl (Nat.le_of_ble_eq_true rfl)) ?_ | refine zab rfl rfl (zah rfl rfl rfl) (zba rfl ta29 ti29 rfl rfl rfl rfl (Nat.le_of_ble_eq_true rfl)) ?_ | refine zaq rfl rfl (zb6 rfl rfl rfl) ?_ | refine zaq rfl rfl (zav rfl rfl rfl) ?_
  first | refine zab rfl rfl (zah rfl rfl rfl) (za5 rfl rfl (hc1) (zau rfl (zau rfl (zau rfl (zau rfl zbj))))) ?_ | refine zaq rfl rfl (zb6 rfl rfl rfl) ?_ | refine zaq rfl rfl (zav rfl rfl rfl) ?_
  first | refine zab rfl rfl (zaa rfl) (zbx rfl rfl rfl) ?_ | refine zab rfl rfl (zaa rfl) (zby rfl rfl rfl) ?_ | refine zab rfl rfl (zaa rfl) (zbk rfl rfl rfl) ?_ | refine zab rfl rfl (zaa rfl) (zbl rfl rfl rfl) ?_
  refine zab rfl rfl (zaa rfl) (mv_s (.inl rfl) rfl) ?_
  first | refine zab rfl rfl (zah rfl rfl rfl) (za6 (.inl rfl) rfl) ?_ | refine zab rfl rfl (zah rfl rfl rfl) (zbg (.inl rfl) rfl) ?_ | refine zab rfl rfl (zah rfl rfl rfl) (mv_s (.inl rfl) rfl) ?_ | refine zab rfl rfl (zah rfl rfl rfl) (za7 (.inl rfl) rfl) ?_ | refine zaq rfl rfl (zb6 rfl rfl rfl) ?_ | refine zaq rfl rfl (zav rfl rfl rfl) ?_
  first | refine zab rfl rfl (zah rfl rfl rfl) (za6 (.inl rfl) rfl) ?_ | refine zab rfl rfl (zah rfl rfl rfl) (zbg (.inl rfl) rfl) ?_ | refine zab rfl rfl (zah rfl rfl rfl) (mv_s (.inl rfl) rfl) ?_ | refine zab rfl rfl (zah rfl rfl rfl) (za7 (.inl rfl) rfl) ?_ | refine zaq rfl rfl (zb6 rfl rfl rfl) ?_ | refine zaq rfl rfl (zav rfl rfl rfl) ?_
  first | refine zab rfl rfl (zah rfl rfl rfl) (za0 rfl ta25 ti25 rfl rfl) ?_ | refine zab rfl rfl (zah rfl rfl rfl) (za9 rfl ta25 ti25 rfl rfl rfl rfl rfl) ?_ | refine zab rfl rfl (zah rfl rfl rfl) (zaz rfl ta25 ti25 rfl (Nat.le_of_ble_eq_true rfl)) ?_ | refine zab rfl rfl (zah rfl rfl rfl) (zba rfl ta25 ti25 rfl rfl rfl rfl (Nat.le_of_ble_eq_true rfl)) ?_ | refine zaq rfl rfl (zb6 rfl rfl rfl) ?_ | refine zaq rfl rfl (zav rfl rfl rfl) ?_
  first | refine zab rfl rfl (zah rfl rfl rfl) (za6 (.inl rfl) rfl) ?_ | refine zab rfl rfl (zah rfl rfl rfl) (zbg (.inl rfl) rfl) ?_ | refine zab rfl rfl (zah rfl rfl rfl) (mv_s (.inl rfl) rfl) ?_ | refine zab rfl rfl (zah rfl rfl rfl) (za7 (.inl rfl) rfl) ?_ | refine zaq rfl rfl (zb6 rfl rfl rfl) ?_ | refine zaq rfl rfl (zav rfl rfl rfl) ?_
  first | refine zab rfl rfl (zah rfl rfl rfl) (zb7 rfl ti29 tp29 rfl rfl) ?_ | refine zaq rfl rfl (zb6 rfl rfl rfl) ?_ | refine zaq rfl rfl (zav rfl rfl rfl) ?_
  first | refine zab rfl rfl (zah rfl rfl rfl) (does_callb rfl rfl hc2 (zdm.cons (.refl _) (zdm.cons (.refl _) (zdm.cons (.refl _) (zdm.cons (.agg _ _ rfl (zdm.cons (.refl _) (zdm.cons (.refl _) (zdm.cons .nil (zdm.cons (.refl _) zdm.nil)))).2) zdm.nil)))) (by repeat' (first | exact Flat.s _ | exact flat_nil | refine flat_cons ?_ ?_ | refine Flat.agg ?_ | refine Flat.tup ?_))) ?_ | refine zaq rfl rfl (zb6 rfl rfl rfl) ?_ | refine zaq rfl rfl (zav rfl rfl rfl) ?_
  first | refine zab rfl rfl (zaa rfl) (zbx rfl rfl rfl) ?_ | refine zab rfl rfl (zaa rfl) (zby rfl rfl rfl) ?_ | refine zab rfl rfl (zaa rfl) (zbk rfl rfl rfl) ?_ | refine zab rfl rfl (zaa rfl) (zbl rfl rfl rfl) ?_
  refine zab rfl rfl (zaa rfl) (mv_s (.inr rfl) rfl) ?_
  refine zan ?_
  repeat (first | refine zag ?_ | refine zar ?_ | refine zad ?_ | refine zas ?_ | refine zac ?_)
  (refine zbs ?_; repeat (first | refine zb8 ?_ | refine zb9 ?_))
  exact zcm (.inr rfl) rfl rfl
end Go.Proofs.YtmoipmnhgdmkpaaGreat.Aw
end
