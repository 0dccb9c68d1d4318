/-
  Texts joined: ShM. Conditions: none.
-/
import Derived.Test.YtmoipmnhgdmkpaaJQ9
import Derived.Test.YtmoipmnhgdmkpaaJQ7
section
namespace Go.Proofs.Ytmoipmnhgdmkpaa.Aw
set_option linter.unusedSimpArgs false
set_option linter.unusedVariables false
set_option linter.unusedSectionVars false
open Go.RowKit Go.Proofs
variable {P : Program} [IsP P]

theorem equalSelf_pf (a : List Int) : Pure P 19 [eL eI a, eL eI a] (eB true) := by
  refine aw_fn (by rw [IsP.eq (P := P)]; exact Try.func19) rfl rfl rfl rfl rfl (by repeat' (first | exact Lo.s _ | exact zai | refine zad ?_ ?_ | refine zak ?_ | refine Lo.cells ?_ | refine Lo.agg _ ?_ | refine Lo.ref _ ?_ | refine Lo.tup _ ?_ | refine Lo.fn _ _ ?_ | refine Lo.sl _ ?_ | intro _)) (by repeat' (first | exact Lo.s _ | exact zai | refine zad ?_ ?_ | refine zak ?_ | refine Lo.cells ?_ | refine Lo.agg _ ?_ | refine Lo.ref _ ?_ | refine Lo.tup _ ?_ | refine Lo.fn _ _ ?_ | refine Lo.sl _ ?_ | intro _)) (by simp only [argF]; rfl) ?_
  repeat (first | refine zag ?_ | refine zap ?_ | refine zae ?_ | refine zar ?_ | refine zac ?_)
  refine aw_bdm (d := 0) rfl (fun hm1 => ?_)
  unfold maxLen at hm1
  refine zaf ?_
  refine zab rfl rfl (zaa rfl) (mv_s (.inr rfl) rfl) ?_
  refine zam ?_
  repeat (first | refine zag ?_ | refine zap ?_ | refine zae ?_ | refine zar ?_ | refine zac ?_)
  all_goals refine zaf ?_
  all_goals (first | refine zab rfl rfl (zaa rfl) (za9 (.inl rfl) rfl) ?_ | refine zab rfl rfl (zaa rfl) (zbp (.inl rfl) rfl) ?_ | refine zab rfl rfl (zaa rfl) (mv_s (.inl rfl) rfl) ?_ | refine zab rfl rfl (zaa rfl) (zba (.inl rfl) rfl) ?_)
  all_goals (first | refine zab rfl rfl (zaa rfl) (za3 rfl ts22 rfl) ?_ | refine zab rfl rfl (zaa rfl) (za8 rfl ts22 rfl) ?_ | refine zab rfl rfl (zaa rfl) (za0 rfl ts22 rfl) ?_ | refine zab rfl rfl (zaa rfl) (zbe rfl ts22 rfl) ?_ | refine zab rfl rfl (zaa rfl) (za1 rfl ts22 rfl) ?_)
  all_goals (first | refine zab rfl rfl (zaa rfl) (za9 (.inl rfl) rfl) ?_ | refine zab rfl rfl (zaa rfl) (zbp (.inl rfl) rfl) ?_ | refine zab rfl rfl (zaa rfl) (mv_s (.inl rfl) rfl) ?_ | refine zab rfl rfl (zaa rfl) (zba (.inl rfl) rfl) ?_)
  all_goals (first | refine zab rfl rfl (zaa rfl) (za3 rfl ts22 rfl) ?_ | refine zab rfl rfl (zaa rfl) (za8 rfl ts22 rfl) ?_ | refine zab rfl rfl (zaa rfl) (za0 rfl ts22 rfl) ?_ | refine zab rfl rfl (zaa rfl) (zbe rfl ts22 rfl) ?_ | refine zab rfl rfl (zaa rfl) (za1 rfl ts22 rfl) ?_)
  all_goals (first | refine zbm rfl rfl (zaa rfl) (does_neq rfl rfl rfl) (fun h10 => ?_) (fun h10 => ?_) | refine zbn rfl rfl (zaa rfl) (does_neq rfl rfl rfl) (fun h10 => ?_) (fun h10 => ?_))
  all_goals refine zam ?_
  all_goals (repeat (first | refine zag ?_ | refine zap ?_ | refine zae ?_ | refine zar ?_ | refine zac ?_))
  all_goals (first | refine zbv rfl ?_ | refine zbr rfl ?_)
  all_goals (repeat (first | refine zag ?_ | refine zap ?_ | refine zae ?_ | refine zar ?_ | refine zac ?_))
  · exact absurd rfl h10
  refine zaf ?_
  first | refine zab rfl rfl (zaa rfl) (za9 (.inl rfl) rfl) ?_ | refine zab rfl rfl (zaa rfl) (zbp (.inl rfl) rfl) ?_ | refine zab rfl rfl (zaa rfl) (mv_s (.inl rfl) rfl) ?_ | refine zab rfl rfl (zaa rfl) (zba (.inl rfl) rfl) ?_
  first | refine zab rfl rfl (zaa rfl) (za3 rfl ts22 rfl) ?_ | refine zab rfl rfl (zaa rfl) (za8 rfl ts22 rfl) ?_ | refine zab rfl rfl (zaa rfl) (za0 rfl ts22 rfl) ?_ | refine zab rfl rfl (zaa rfl) (zbe rfl ts22 rfl) ?_ | refine zab rfl rfl (zaa rfl) (za1 rfl ts22 rfl) ?_
  refine zab rfl rfl (zaa rfl) (mv_s (.inl rfl) rfl) ?_
  refine zam ?_
  repeat (first | refine zag ?_ | refine zap ?_ | refine zae ?_ | refine zar ?_ | refine zac ?_)
  refine aw_loops (S := Nat) (fun k => [(0, eL eI a), (1, eL eI a), (12, eI a.length), (13, eI k)]) (fun _ => []) (fun k => k ≤ a.length) (fun k => a.length - k) 0 (wk_st [] (by decide) trivial ⟨.lo _ (by repeat' (first | exact Lo.s _ | exact zai | refine zad ?_ ?_ | refine zak ?_ | refine Lo.cells ?_ | refine Lo.agg _ ?_ | refine Lo.ref _ ?_ | refine Lo.tup _ ?_ | refine Lo.fn _ _ ?_ | refine Lo.sl _ ?_ | intro _)), .lo _ (by repeat' (first | exact Lo.s _ | exact zai | refine zad ?_ ?_ | refine zak ?_ | refine Lo.cells ?_ | refine Lo.agg _ ?_ | refine Lo.ref _ ?_ | refine Lo.tup _ ?_ | refine Lo.fn _ _ ?_ | refine Lo.sl _ ?_ | intro _)), .lo _ (by repeat' (first | exact Lo.s _ | exact zai | refine zad ?_ ?_ | refine zak ?_ | refine Lo.cells ?_ | refine Lo.agg _ ?_ | refine Lo.ref _ ?_ | refine Lo.tup _ ?_ | refine Lo.fn _ _ ?_ | refine Lo.sl _ ?_ | intro _)), .lo _ (by repeat' (first | exact Lo.s _ | exact zai | refine zad ?_ ?_ | refine zak ?_ | refine Lo.cells ?_ | refine Lo.agg _ ?_ | refine Lo.ref _ ?_ | refine Lo.tup _ ?_ | refine Lo.fn _ _ ?_ | refine Lo.sl _ ?_ | intro _)), trivial⟩) (Nat.zero_le _) (fun k hk => ?_)
  repeat (first | refine zag ?_ | refine zap ?_ | refine zae ?_ | refine zar ?_ | refine zac ?_)
  all_goals refine zaf ?_
  all_goals (first | refine zbm rfl rfl (zaa rfl) (zbh rfl rfl rfl) (fun h14 => ?_) (fun h14 => ?_) | refine zbn rfl rfl (zaa rfl) (zbh rfl rfl rfl) (fun h14 => ?_) (fun h14 => ?_))
  all_goals refine zam ?_
  all_goals (repeat (first | refine zag ?_ | refine zap ?_ | refine zae ?_ | refine zar ?_ | refine zac ?_))
  all_goals (first | refine zbv rfl ?_ | refine zbr rfl ?_)
  all_goals (repeat (first | refine zag ?_ | refine zap ?_ | refine zae ?_ | refine zar ?_ | refine zac ?_))
  · have hlt : k < a.length := by omega
    refine zaf ?_
    refine zab rfl rfl (zaa rfl) (mv_s (.inl rfl) rfl) ?_
    refine zab rfl rfl (zaa rfl) (mv_s (.inr rfl) rfl) ?_
    refine zam ?_
    repeat (first | refine zag ?_ | refine zap ?_ | refine zae ?_ | refine zar ?_ | refine zac ?_)
    all_goals refine aw_draw hmix ?_
    all_goals refine adraw_quiet (by kernel_rfl) ?_
    all_goals (first | refine za4 rfl rfl (zaa rfl) (za9 (.inl rfl) rfl) ?_ | refine za4 rfl rfl (zaa rfl) (zbp (.inl rfl) rfl) ?_ | refine za4 rfl rfl (zaa rfl) (mv_s (.inl rfl) rfl) ?_ | refine za4 rfl rfl (zaa rfl) (zba (.inl rfl) rfl) ?_)
    all_goals refine za4 rfl rfl (zaa rfl) (mv_s (.inl rfl) rfl) ?_
    all_goals (first | refine za4 rfl rfl (zaa rfl) (zaz rfl ts22 ti3 rfl rfl rfl (ix_map (by omega)) rfl) ?_ | refine za4 rfl rfl (zaa rfl) (zay rfl ts22 ti3 rfl rfl rfl (by omega)) ?_)
    all_goals (first | refine za4 rfl rfl (zaa rfl) (zan rfl ta3 rfl) ?_ | refine za4 rfl rfl (zaa rfl) (zas rfl ta3 rfl rfl rfl rfl rfl) ?_)
    all_goals (first | refine za4 rfl rfl (zaa rfl) (za9 (.inl rfl) rfl) ?_ | refine za4 rfl rfl (zaa rfl) (zbp (.inl rfl) rfl) ?_ | refine za4 rfl rfl (zaa rfl) (mv_s (.inl rfl) rfl) ?_ | refine za4 rfl rfl (zaa rfl) (zba (.inl rfl) rfl) ?_)
    all_goals refine za4 rfl rfl (zaa rfl) (mv_s (.inl rfl) rfl) ?_
    all_goals (first | refine za4 rfl rfl (zaa rfl) (zaz rfl ts22 ti3 rfl rfl rfl (ix_map (by omega)) rfl) ?_ | refine za4 rfl rfl (zaa rfl) (zay rfl ts22 ti3 rfl rfl rfl (by omega)) ?_)
    all_goals (first | refine za4 rfl rfl (zaa rfl) (zan rfl ta3 rfl) ?_ | refine za4 rfl rfl (zaa rfl) (zas rfl ta3 rfl rfl rfl rfl rfl) ?_)
    all_goals (first | refine qx_opP rfl rfl (zaa rfl) (does_neq rfl rfl rfl) (fun h24 => ?_) (fun h24 => ?_) | refine qx_opB rfl rfl (zaa rfl) (does_neq rfl rfl rfl) (fun h24 => ?_) (fun h24 => ?_))
    all_goals refine qx_nil ?_
    all_goals (repeat (first | refine zag ?_ | refine zap ?_ | refine zae ?_ | refine zar ?_ | refine zac ?_))
    all_goals (first | refine zbv rfl ?_ | refine zbr rfl ?_)
    all_goals (repeat (first | refine zag ?_ | refine zap ?_ | refine zae ?_ | refine zar ?_ | refine zac ?_))
    · exact absurd rfl h24
    · skip
      refine zaf ?_
      refine zab rfl rfl (zaa rfl) (does_add rfl rfl rfl (IntWalk.i64_in _ (by omega))) ?_
      refine zab rfl rfl (zaa rfl) (mv_s (.inl rfl) rfl) ?_
      refine zam ?_
      repeat (first | refine zag ?_ | refine zap ?_ | refine zae ?_ | refine zar ?_ | refine zac ?_)
      exact ⟨k + 1, by omega, by omega, wk_st [] (by decide) trivial ⟨.lo _ (by repeat' (first | exact Lo.s _ | exact zai | refine zad ?_ ?_ | refine zak ?_ | refine Lo.cells ?_ | refine Lo.agg _ ?_ | refine Lo.ref _ ?_ | refine Lo.tup _ ?_ | refine Lo.fn _ _ ?_ | refine Lo.sl _ ?_ | intro _)), .lo _ (by repeat' (first | exact Lo.s _ | exact zai | refine zad ?_ ?_ | refine zak ?_ | refine Lo.cells ?_ | refine Lo.agg _ ?_ | refine Lo.ref _ ?_ | refine Lo.tup _ ?_ | refine Lo.fn _ _ ?_ | refine Lo.sl _ ?_ | intro _)), .lo _ (by repeat' (first | exact Lo.s _ | exact zai | refine zad ?_ ?_ | refine zak ?_ | refine Lo.cells ?_ | refine Lo.agg _ ?_ | refine Lo.ref _ ?_ | refine Lo.tup _ ?_ | refine Lo.fn _ _ ?_ | refine Lo.sl _ ?_ | intro _)), .lo _ (by repeat' (first | exact Lo.s _ | exact zai | refine zad ?_ ?_ | refine zak ?_ | refine Lo.cells ?_ | refine Lo.agg _ ?_ | refine Lo.ref _ ?_ | refine Lo.tup _ ?_ | refine Lo.fn _ _ ?_ | refine Lo.sl _ ?_ | intro _)), trivial⟩⟩
  · (refine aw_exit ?_; repeat (first | refine ath_x ?_ | refine abl_hit ?_ | refine abl_miss rfl ?_ | refine zar ?_ | refine zap ?_ | refine zag ?_ | refine zae ?_ | refine zac ?_))
    refine zaf ?_
    refine zab rfl rfl (zaa rfl) (mv_s (.inr rfl) rfl) ?_
    refine zam ?_
    repeat (first | refine zag ?_ | refine zap ?_ | refine zae ?_ | refine zar ?_ | refine zac ?_)
    (refine zbw ?_; repeat (first | refine ath_r ?_ | refine abl_r ?_))
    exact post1 (.inr rfl) rfl rfl
def exD : List Int := [1, 2, 1]
def exL : List Sft := [⟨[0, 1], 3, 2⟩, ⟨[1, 2], 4, 2⟩]
def exY1 : List Fr := [⟨0, 1⟩, ⟨3, 1⟩, ⟨1, 1⟩]
def exY2 : List Fr := [⟨3, 1⟩, ⟨0, 1⟩, ⟨4, 1⟩]
def exR : AV := .tup [ePl ⟨[1, 1], 7⟩, .agg [eI 0, eI 0, .sl [], eL eF exY1], eI 0]
theorem chk1 : chkE exD exL ⟨[1, 1], 7⟩ (.mk 0 0 [] exY1) = true := by kernel_rfl
theorem chk2 : chkE exD exL ⟨[1, 1], 7⟩ (.mk 0 0 [] exY2) = true := by kernel_rfl
theorem chk_ex (y : List Fr) (h : chkE exD exL ⟨[1, 1], 7⟩ (.mk 0 0 [] y) = true) : Pure P 8 [eL eI exD, eL eSh exL, ePl ⟨[1, 1], 7⟩, .agg [eI 0, eI 0, .sl [], eL eF y]] (eB true) := by
  have := check_pf (P := P) exD exL ⟨[1, 1], 7⟩ (.mk 0 0 [] y)
  rw [h, eBr_mk] at this
  exact this
set_option maxHeartbeats 2000000 in
theorem awake_of (hbest : Pure P 18 [eL eI exD, eL eSh exL, eI 100] exR) : Pure P 5 [] (eB true) := by
  have hc1 := chk_ex (P := P) exY1 chk1
  have hc2 := chk_ex (P := P) exY2 chk2
  replace hbest : Pure P 18 [eL eI exD, eL eSh exL, eI 100] (.tup [ePl ⟨[1, 1], 7⟩, .agg [eI 0, eI 0, .sl [], eL eF exY1], eI 0]) := hbest
  refine aw_fn (by rw [IsP.eq (P := P)]; exact Try.func5) rfl rfl rfl rfl rfl (by repeat' (first | exact Lo.s _ | exact zai | refine zad ?_ ?_ | refine zak ?_ | refine Lo.cells ?_ | refine Lo.agg _ ?_ | refine Lo.ref _ ?_ | refine Lo.tup _ ?_ | refine Lo.fn _ _ ?_ | refine Lo.sl _ ?_ | intro _)) (by repeat' (first | exact Lo.s _ | exact zai | refine zad ?_ ?_ | refine zak ?_ | refine Lo.cells ?_ | refine Lo.agg _ ?_ | refine Lo.ref _ ?_ | refine Lo.tup _ ?_ | refine Lo.fn _ _ ?_ | refine Lo.sl _ ?_ | intro _)) (by simp only [argF]; rfl) ?_
  repeat (first | refine zag ?_ | refine zap ?_ | refine zae ?_ | refine zar ?_ | refine zac ?_)
  refine zaf ?_
  refine zab rfl rfl (zaa rfl) (mv_s (.inr rfl) rfl) ?_
  refine zam ?_
  repeat (first | refine zag ?_ | refine zap ?_ | refine zae ?_ | refine zar ?_ | refine zac ?_)
  refine zaf ?_
  refine zab rfl rfl (zaa rfl) (does_lit rfl ts22 ti3 rfl rfl (by decide) (by decide) (by decide) rfl rfl) ?_
  refine zbo (wk_froz (id := 0) rfl) (zbo (wk_sl (d := 7) rfl rfl (by first | rfl | (simp; done) | (simp; omega))) ?_)
  first | refine zab rfl rfl (zaa rfl) (za9 (.inr rfl) rfl) ?_ | refine zab rfl rfl (zaa rfl) (zbp (.inr rfl) rfl) ?_ | refine zab rfl rfl (zaa rfl) (mv_s (.inr rfl) rfl) ?_ | refine zab rfl rfl (zaa rfl) (zba (.inr rfl) rfl) ?_
  refine zam ?_
  repeat (first | refine zag ?_ | refine zap ?_ | refine zae ?_ | refine zar ?_ | refine zac ?_)
  refine zaf ?_
  refine zab rfl rfl (zaa rfl) (does_lit rfl ts22 ti3 rfl rfl (by decide) (by decide) (by decide) rfl rfl) ?_
  refine zbo (wk_froz (id := 1) rfl) (zbo (wk_sl (d := 8) rfl rfl (by first | rfl | (simp; done) | (simp; omega))) ?_)
  refine zab rfl rfl (zaa rfl) (does_build rfl ti39 tp39 rfl rfl) ?_
  refine zab rfl rfl (zaa rfl) (does_lit rfl ts22 ti3 rfl rfl (by decide) (by decide) (by decide) rfl rfl) ?_
  refine zbo (wk_froz (id := 2) rfl) (zbo (wk_sl (d := 10) rfl rfl (by first | rfl | (simp; done) | (simp; omega))) ?_)
  refine zab rfl rfl (zaa rfl) (does_build rfl ti39 tp39 rfl rfl) ?_
  refine zab rfl rfl (zaa rfl) (does_lit rfl ts23 ti39 rfl rfl (by decide) (by decide) (by decide) rfl rfl) ?_
  refine zbo (wk_froz (id := 3) rfl) (zbo (wk_sl (d := 12) rfl rfl (by first | rfl | (simp; done) | (simp; omega))) ?_)
  first | refine zab rfl rfl (zaa rfl) (za9 (.inr rfl) rfl) ?_ | refine zab rfl rfl (zaa rfl) (zbp (.inr rfl) rfl) ?_ | refine zab rfl rfl (zaa rfl) (mv_s (.inr rfl) rfl) ?_ | refine zab rfl rfl (zaa rfl) (zba (.inr rfl) rfl) ?_
  refine zam ?_
  repeat (first | refine zag ?_ | refine zap ?_ | refine zae ?_ | refine zar ?_ | refine zac ?_)
  refine aw_weak (F' := [(1, eL eI exD), (2, eL eSh exL)]) (σ' := []) (wk_st [] (by decide) trivial ⟨.lo _ (show Lo 0 (eL eI exD) from zak fun _ => .s _), .lo _ (show Lo 0 (eL eSh exL) from zak lo_Sh), trivial⟩) ?_
  refine zaf ?_
  first | refine zab rfl rfl (zaa rfl) (za9 (.inl rfl) rfl) ?_ | refine zab rfl rfl (zaa rfl) (zbp (.inl rfl) rfl) ?_ | refine zab rfl rfl (zaa rfl) (mv_s (.inl rfl) rfl) ?_ | refine zab rfl rfl (zaa rfl) (zba (.inl rfl) rfl) ?_
  first | refine zab rfl rfl (zaa rfl) (za9 (.inl rfl) rfl) ?_ | refine zab rfl rfl (zaa rfl) (zbp (.inl rfl) rfl) ?_ | refine zab rfl rfl (zaa rfl) (mv_s (.inl rfl) rfl) ?_ | refine zab rfl rfl (zaa rfl) (zba (.inl rfl) rfl) ?_
  refine zab rfl rfl (zaa rfl) (za2 rfl rfl (hbest) (zat rfl (zat rfl (zat rfl zbl)))) ?_
  first | refine zab rfl rfl (zaa rfl) (mv_tup (.inl rfl) rfl) ?_ | refine zab rfl rfl (zaa rfl) (mv_s (.inl rfl) rfl) ?_
  refine zab rfl rfl (zaa rfl) (zbb rfl rfl rfl) ?_
  refine zab rfl rfl (zaa rfl) (zbb rfl rfl rfl) ?_
  refine zab rfl rfl (zaa rfl) (zbb rfl rfl rfl) ?_
  refine zab rfl rfl (zaa rfl) (zbt rfl ti25 rfl rfl) ?_
  refine zab rfl rfl (zaa rfl) (zbt rfl ti29 rfl rfl) ?_
  refine ops_eff rfl (zaa rfl) (zbd rfl ti25 rfl rfl rfl rfl rfl rfl (by decide) (by decide)) ?_
  refine ops_eff rfl (zaa rfl) (zbd rfl ti29 rfl rfl rfl rfl rfl rfl (by decide) (by decide)) ?_
  refine zab rfl rfl (zaa rfl) (mv_s (.inr rfl) rfl) ?_
  refine zam ?_
  repeat (first | refine zag ?_ | refine zap ?_ | refine zae ?_ | refine zar ?_ | refine zac ?_)
  refine aw_weak (wk_froz (id := 0) rfl) ?_
  refine aw_weak (wk_ref (d := 3) rfl rfl rfl) ?_
  refine aw_weak (wk_froz (id := 1) rfl) ?_
  refine aw_weak (wk_ref (d := 4) rfl rfl rfl) ?_
  refine zaf ?_
  refine zab rfl rfl (zaa rfl) (does_build rfl ti59 tp59 rfl rfl) ?_
  refine zab rfl rfl (zaa rfl) (does_build rfl ti59 tp59 rfl rfl) ?_
  refine zab rfl rfl (zaa rfl) (does_build rfl ti59 tp59 rfl rfl) ?_
  refine zab rfl rfl (zaa rfl) (does_lit rfl ts27 ti59 rfl rfl (by decide) (by decide) (by decide) rfl rfl) ?_
  refine zbo (wk_froz (id := 2) rfl) (zbo (wk_sl (d := 23) rfl rfl (by first | rfl | (simp; done) | (simp; omega))) ?_)
  first | refine zab rfl rfl (zaa rfl) (za9 (.inr rfl) rfl) ?_ | refine zab rfl rfl (zaa rfl) (zbp (.inr rfl) rfl) ?_ | refine zab rfl rfl (zaa rfl) (mv_s (.inr rfl) rfl) ?_ | refine zab rfl rfl (zaa rfl) (zba (.inr rfl) rfl) ?_
  refine zam ?_
  repeat (first | refine zag ?_ | refine zap ?_ | refine zae ?_ | refine zar ?_ | refine zac ?_)
  refine aw_weak (F' := [(1, eL eI exD), (2, eL eSh exL), (3, .ref (ePl ⟨[1, 1], 7⟩).cells), (4, .ref [eI 0, eI 0, .sl [], eL eF exY1]), (5, eI 0), (6, eL eF exY2)]) (σ' := []) (wk_st [] (by decide) trivial ⟨.lo _ (show Lo 0 (eL eI exD) from zak fun _ => .s _), .lo _ (show Lo 0 (eL eSh exL) from zak lo_Sh), .lo _ (by repeat' (first | exact Lo.s _ | exact zai | refine zad ?_ ?_ | refine zak ?_ | refine Lo.cells ?_ | refine Lo.agg _ ?_ | refine Lo.ref _ ?_ | refine Lo.tup _ ?_ | refine Lo.fn _ _ ?_ | refine Lo.sl _ ?_ | intro _)), .lo _ (show Lo 0 (.ref [eI 0, eI 0, .sl [], eL eF exY1]) from .ref _ (zad (.s _) (zad (.s _) (zad (.sl _ (by simp)) (zad (lo_Fs _) zai))))), .lo _ (.s _), .lo _ (show Lo 0 (eL eF exY2) from lo_Fs _), trivial⟩) ?_
  refine zaf ?_
  refine zab rfl rfl (zaa rfl) (mv_s (.inl rfl) rfl) ?_
  refine zab rfl rfl (zaa rfl) (dec_t rfl (does_eql rfl rfl rfl)) ?_
  refine zab rfl rfl (zaa rfl) (mv_s (.inl rfl) rfl) ?_
  first | refine zab rfl rfl (zah rfl rfl rfl) (zao rfl tf25_0 (by decide) rfl) ?_ | refine zab rfl rfl (zah rfl rfl rfl) (zal rfl tf25_0 (by decide) rfl) ?_ | refine zaj rfl rfl (runs_nt rfl rfl rfl) ?_ | refine zaj rfl rfl (zau rfl rfl rfl) ?_
  first | refine zab rfl rfl (zah rfl rfl rfl) (zan rfl ta22 rfl) ?_ | refine zab rfl rfl (zah rfl rfl rfl) (zas rfl ta22 rfl rfl rfl rfl rfl) ?_ | refine zaj rfl rfl (runs_nt rfl rfl rfl) ?_ | refine zaj rfl rfl (zau rfl rfl rfl) ?_
  first | refine zab rfl rfl (zah rfl rfl rfl) (does_lit rfl ts22 ti3 rfl rfl (by decide) (by decide) (by decide) rfl rfl) ?_ | refine zaj rfl rfl (runs_nt rfl rfl rfl) ?_ | refine zaj rfl rfl (zau rfl rfl rfl) ?_
  refine zbo (wk_froz (id := 0) rfl) (zbo (wk_sl (d := 29) rfl rfl (by first | rfl | (simp; done) | (simp; omega))) ?_)
  first | refine zab rfl rfl (zah rfl rfl rfl) (za2 rfl rfl ((equalSelf_pf [1, 1])) (zat rfl (zat rfl zbl))) ?_ | refine zaj rfl rfl (runs_nt rfl rfl rfl) ?_ | refine zaj rfl rfl (zau rfl rfl rfl) ?_
  first | refine zab rfl rfl (zaa rfl) (pickT_s rfl rfl rfl) ?_ | refine zab rfl rfl (zaa rfl) (pickF_s rfl rfl rfl) ?_ | refine zab rfl rfl (zaa rfl) (zbi rfl rfl rfl) ?_ | refine zab rfl rfl (zaa rfl) (zbj rfl rfl rfl) ?_
  refine zab rfl rfl (zaa rfl) (mv_s (.inl rfl) rfl) ?_
  first | refine zab rfl rfl (zah rfl rfl rfl) (zao rfl tf25_1 (by decide) rfl) ?_ | refine zab rfl rfl (zah rfl rfl rfl) (zal rfl tf25_1 (by decide) rfl) ?_ | refine zaj rfl rfl (runs_nt rfl rfl rfl) ?_ | refine zaj rfl rfl (zau rfl rfl rfl) ?_
  first | refine zab rfl rfl (zah rfl rfl rfl) (zan rfl ta3 rfl) ?_ | refine zab rfl rfl (zah rfl rfl rfl) (zas rfl ta3 rfl rfl rfl rfl rfl) ?_ | refine zaj rfl rfl (runs_nt rfl rfl rfl) ?_ | refine zaj rfl rfl (zau rfl rfl rfl) ?_
  first | refine zab rfl rfl (zah rfl rfl rfl) (dec_t rfl (does_eql rfl rfl rfl)) ?_ | refine zaj rfl rfl (runs_nt rfl rfl rfl) ?_ | refine zaj rfl rfl (zau rfl rfl rfl) ?_
  first | refine zab rfl rfl (zaa rfl) (pickT_s rfl rfl rfl) ?_ | refine zab rfl rfl (zaa rfl) (pickF_s rfl rfl rfl) ?_ | refine zab rfl rfl (zaa rfl) (zbi rfl rfl rfl) ?_ | refine zab rfl rfl (zaa rfl) (zbj rfl rfl rfl) ?_
  refine zab rfl rfl (zaa rfl) (mv_s (.inl rfl) rfl) ?_
  first | refine zab rfl rfl (zah rfl rfl rfl) (za9 (.inl rfl) rfl) ?_ | refine zab rfl rfl (zah rfl rfl rfl) (zbp (.inl rfl) rfl) ?_ | refine zab rfl rfl (zah rfl rfl rfl) (mv_s (.inl rfl) rfl) ?_ | refine zab rfl rfl (zah rfl rfl rfl) (zba (.inl rfl) rfl) ?_ | refine zaj rfl rfl (runs_nt rfl rfl rfl) ?_ | refine zaj rfl rfl (zau rfl rfl rfl) ?_
  first | refine zab rfl rfl (zah rfl rfl rfl) (za9 (.inl rfl) rfl) ?_ | refine zab rfl rfl (zah rfl rfl rfl) (zbp (.inl rfl) rfl) ?_ | refine zab rfl rfl (zah rfl rfl rfl) (mv_s (.inl rfl) rfl) ?_ | refine zab rfl rfl (zah rfl rfl rfl) (zba (.inl rfl) rfl) ?_ | refine zaj rfl rfl (runs_nt rfl rfl rfl) ?_ | refine zaj rfl rfl (zau rfl rfl rfl) ?_
  first | refine zab rfl rfl (zah rfl rfl rfl) (zax rfl ta25 ti25 rfl rfl) ?_ | refine zab rfl rfl (zah rfl rfl rfl) (za6 rfl ta25 ti25 rfl rfl rfl rfl rfl) ?_ | refine zab rfl rfl (zah rfl rfl rfl) (zav rfl ta25 ti25 rfl (Nat.le_of_ble_eq_true rfl)) ?_ | refine zab rfl rfl (zah rfl rfl rfl) (za7 rfl ta25 ti25 rfl rfl rfl rfl (Nat.le_of_ble_eq_true rfl)) ?_ | refine zaj rfl rfl (runs_nt rfl rfl rfl) ?_ | refine zaj rfl rfl (zau rfl rfl rfl) ?_
  first | refine zab rfl rfl (zah rfl rfl rfl) (zax rfl ta29 ti29 rfl rfl) ?_ | refine zab rfl rfl (zah rfl rfl rfl) (za6 rfl ta29 ti29 rfl rfl rfl rfl rfl) ?_ | refine zab rfl rfl (zah rfl rfl rfl) (zav rfl ta29 ti29 rfl (Nat.le_of_ble_eq_true rfl)) ?_ | refine zab rfl rfl (zah rfl rfl rfl) (za7 rfl ta29 ti29 rfl rfl rfl rfl (Nat.le_of_ble_eq_true rfl)) ?_ | refine zaj rfl rfl (runs_nt rfl rfl rfl) ?_ | refine zaj rfl rfl (zau rfl rfl rfl) ?_
  first | refine zab rfl rfl (zah rfl rfl rfl) (za2 rfl rfl (hc1) (zat rfl (zat rfl (zat rfl (zat rfl zbl))))) ?_ | refine zaj rfl rfl (runs_nt rfl rfl rfl) ?_ | refine zaj rfl rfl (zau rfl rfl rfl) ?_
  first | refine zab rfl rfl (zaa rfl) (pickT_s rfl rfl rfl) ?_ | refine zab rfl rfl (zaa rfl) (pickF_s rfl rfl rfl) ?_ | refine zab rfl rfl (zaa rfl) (zbi rfl rfl rfl) ?_ | refine zab rfl rfl (zaa rfl) (zbj rfl rfl rfl) ?_
  refine zab rfl rfl (zaa rfl) (mv_s (.inl rfl) rfl) ?_
  first | refine zab rfl rfl (zah rfl rfl rfl) (za9 (.inl rfl) rfl) ?_ | refine zab rfl rfl (zah rfl rfl rfl) (zbp (.inl rfl) rfl) ?_ | refine zab rfl rfl (zah rfl rfl rfl) (mv_s (.inl rfl) rfl) ?_ | refine zab rfl rfl (zah rfl rfl rfl) (zba (.inl rfl) rfl) ?_ | refine zaj rfl rfl (runs_nt rfl rfl rfl) ?_ | refine zaj rfl rfl (zau rfl rfl rfl) ?_
  first | refine zab rfl rfl (zah rfl rfl rfl) (za9 (.inl rfl) rfl) ?_ | refine zab rfl rfl (zah rfl rfl rfl) (zbp (.inl rfl) rfl) ?_ | refine zab rfl rfl (zah rfl rfl rfl) (mv_s (.inl rfl) rfl) ?_ | refine zab rfl rfl (zah rfl rfl rfl) (zba (.inl rfl) rfl) ?_ | refine zaj rfl rfl (runs_nt rfl rfl rfl) ?_ | refine zaj rfl rfl (zau rfl rfl rfl) ?_
  first | refine zab rfl rfl (zah rfl rfl rfl) (zax rfl ta25 ti25 rfl rfl) ?_ | refine zab rfl rfl (zah rfl rfl rfl) (za6 rfl ta25 ti25 rfl rfl rfl rfl rfl) ?_ | refine zab rfl rfl (zah rfl rfl rfl) (zav rfl ta25 ti25 rfl (Nat.le_of_ble_eq_true rfl)) ?_ | refine zab rfl rfl (zah rfl rfl rfl) (za7 rfl ta25 ti25 rfl rfl rfl rfl (Nat.le_of_ble_eq_true rfl)) ?_ | refine zaj rfl rfl (runs_nt rfl rfl rfl) ?_ | refine zaj rfl rfl (zau rfl rfl rfl) ?_
  first | refine zab rfl rfl (zah rfl rfl rfl) (za9 (.inl rfl) rfl) ?_ | refine zab rfl rfl (zah rfl rfl rfl) (zbp (.inl rfl) rfl) ?_ | refine zab rfl rfl (zah rfl rfl rfl) (mv_s (.inl rfl) rfl) ?_ | refine zab rfl rfl (zah rfl rfl rfl) (zba (.inl rfl) rfl) ?_ | refine zaj rfl rfl (runs_nt rfl rfl rfl) ?_ | refine zaj rfl rfl (zau rfl rfl rfl) ?_
  first | refine zab rfl rfl (zah rfl rfl rfl) (does_build rfl ti29 tp29 rfl rfl) ?_ | refine zaj rfl rfl (runs_nt rfl rfl rfl) ?_ | refine zaj rfl rfl (zau rfl rfl rfl) ?_
  first | refine zab rfl rfl (zah rfl rfl rfl) (does_callb rfl rfl hc2 (FiniL.cons (.refl _) (FiniL.cons (.refl _) (FiniL.cons (.refl _) (FiniL.cons (.agg _ _ rfl (FiniL.cons (.refl _) (FiniL.cons (.refl _) (FiniL.cons .nil (FiniL.cons (.refl _) FiniL.nil)))).2) FiniL.nil)))) (by repeat' (first | exact Flat.s _ | exact flat_nil | refine flat_cons ?_ ?_ | refine Flat.agg ?_ | refine Flat.tup ?_))) ?_ | refine zaj rfl rfl (runs_nt rfl rfl rfl) ?_ | refine zaj rfl rfl (zau rfl rfl rfl) ?_
  first | refine zab rfl rfl (zaa rfl) (pickT_s rfl rfl rfl) ?_ | refine zab rfl rfl (zaa rfl) (pickF_s rfl rfl rfl) ?_ | refine zab rfl rfl (zaa rfl) (zbi rfl rfl rfl) ?_ | refine zab rfl rfl (zaa rfl) (zbj rfl rfl rfl) ?_
  refine zab rfl rfl (zaa rfl) (mv_s (.inr rfl) rfl) ?_
  refine zam ?_
  repeat (first | refine zag ?_ | refine zap ?_ | refine zae ?_ | refine zar ?_ | refine zac ?_)
  (refine zbw ?_; repeat (first | refine ath_r ?_ | refine abl_r ?_))
  exact post1 (.inr rfl) rfl rfl
end Go.Proofs.Ytmoipmnhgdmkpaa.Aw
end
