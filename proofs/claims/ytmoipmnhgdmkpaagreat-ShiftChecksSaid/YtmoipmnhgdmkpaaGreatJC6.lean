/-
  Texts joined: ShB. Conditions: none.
-/
import Derived.Test.YtmoipmnhgdmkpaaGreatJC5
section
namespace Go.Proofs.YtmoipmnhgdmkpaaGreat.Aw
set_option linter.unusedSimpArgs false
set_option linter.unusedVariables false
set_option linter.unusedSectionVars false
open Go.RowKit Go.Proofs
variable {P : Program} [IsP P]

set_option maxHeartbeats 1000000 in
theorem qValid_pf54 (d : List Int) (l : List Sft) : Pure P 19 [eL eI d, eL eSh l] (eB (zde d l)) := by
  refine zc4 (by rw [IsP.eq (P := P)]; exact Tryz.func19) rfl rfl rfl rfl rfl (by repeat' (first | exact Lo.s _ | exact zaj | refine zae ?_ ?_ | refine zak ?_ | refine Lo.cells ?_ | refine Lo.agg _ ?_ | refine Lo.ref _ ?_ | refine Lo.tup _ ?_ | refine Lo.fn _ _ ?_ | refine Lo.sl _ ?_ | intro _)) (by repeat' (first | exact Lo.s _ | exact zaj | refine zae ?_ ?_ | refine zak ?_ | refine Lo.cells ?_ | refine Lo.agg _ ?_ | refine Lo.ref _ ?_ | refine Lo.tup _ ?_ | refine Lo.fn _ _ ?_ | refine Lo.sl _ ?_ | intro _)) (by simp only [argF]; rfl) ?_
  repeat (first | refine zag ?_ | refine zar ?_ | refine zad ?_ | refine zas ?_ | refine zac ?_)
  refine zc5 (d := 0) rfl (fun hm1 => ?_)
  refine zc5 (d := 1) rfl (fun hm2 => ?_)
  unfold maxLen at hm1 hm2
  refine zaf ?_
  refine zab rfl rfl (zaa rfl) (mv_s (.inr rfl) rfl) ?_
  refine zan ?_
  repeat (first | refine zag ?_ | refine zar ?_ | refine zad ?_ | refine zas ?_ | refine zac ?_)
  all_goals refine zaf ?_
  all_goals (first | refine zab rfl rfl (zaa rfl) (za6 (.inl rfl) rfl) ?_ | refine zab rfl rfl (zaa rfl) (zbg (.inl rfl) rfl) ?_ | refine zab rfl rfl (zaa rfl) (mv_s (.inl rfl) rfl) ?_ | refine zab rfl rfl (zaa rfl) (za7 (.inl rfl) rfl) ?_)
  all_goals (first | refine zab rfl rfl (zaa rfl) (za4 rfl ts22 rfl) ?_ | refine zab rfl rfl (zaa rfl) (za8 rfl ts22 rfl) ?_ | refine zab rfl rfl (zaa rfl) (za2 rfl ts22 rfl) ?_ | refine zab rfl rfl (zaa rfl) (zbc rfl ts22 rfl) ?_ | refine zab rfl rfl (zaa rfl) (za3 rfl ts22 rfl) ?_)
  all_goals (first | refine zbh rfl rfl (zaa rfl) (zbb rfl rfl rfl) (fun h11 => ?_) (fun h11 => ?_) | refine zbi rfl rfl (zaa rfl) (zbb rfl rfl rfl) (fun h11 => ?_) (fun h11 => ?_))
  all_goals refine zab rfl rfl (zaa rfl) (mv_s (.inl rfl) rfl) ?_
  all_goals (first | refine zab rfl rfl (zah rfl rfl rfl) (za6 (.inl rfl) rfl) ?_ | refine zab rfl rfl (zah rfl rfl rfl) (zbg (.inl rfl) rfl) ?_ | refine zab rfl rfl (zah rfl rfl rfl) (mv_s (.inl rfl) rfl) ?_ | refine zab rfl rfl (zah rfl rfl rfl) (za7 (.inl rfl) rfl) ?_ | refine zaq rfl rfl (zax rfl rfl rfl) ?_ | refine zaq rfl rfl (zav rfl rfl rfl) ?_)
  all_goals (first | refine zab rfl rfl (zah rfl rfl rfl) (za4 rfl ts22 rfl) ?_ | refine zab rfl rfl (zah rfl rfl rfl) (za8 rfl ts22 rfl) ?_ | refine zab rfl rfl (zah rfl rfl rfl) (za2 rfl ts22 rfl) ?_ | refine zab rfl rfl (zah rfl rfl rfl) (zbc rfl ts22 rfl) ?_ | refine zab rfl rfl (zah rfl rfl rfl) (za3 rfl ts22 rfl) ?_ | refine zaq rfl rfl (zax rfl rfl rfl) ?_ | refine zaq rfl rfl (zav rfl rfl rfl) ?_)
  all_goals (first | refine zbh rfl rfl (zah rfl rfl rfl) (zbw rfl rfl rfl) (fun h15 => ?_) (fun h15 => ?_) | refine zbi rfl rfl (zah rfl rfl rfl) (zbw rfl rfl rfl) (fun h15 => ?_) (fun h15 => ?_) | refine zaq rfl rfl (zax rfl rfl rfl) ?_ | refine zaq rfl rfl (zav rfl rfl rfl) ?_)
  all_goals (first | refine zab rfl rfl (zaa rfl) (zbx rfl rfl rfl) ?_ | refine zab rfl rfl (zaa rfl) (zby rfl rfl rfl) ?_ | refine zab rfl rfl (zaa rfl) (zbk rfl rfl rfl) ?_ | refine zab rfl rfl (zaa rfl) (zbl rfl rfl rfl) ?_)
  all_goals refine zab rfl rfl (zaa rfl) (mv_s (.inl rfl) rfl) ?_
  all_goals (first | refine zab rfl rfl (zah rfl rfl rfl) (za6 (.inl rfl) rfl) ?_ | refine zab rfl rfl (zah rfl rfl rfl) (zbg (.inl rfl) rfl) ?_ | refine zab rfl rfl (zah rfl rfl rfl) (mv_s (.inl rfl) rfl) ?_ | refine zab rfl rfl (zah rfl rfl rfl) (za7 (.inl rfl) rfl) ?_ | refine zaq rfl rfl (zax rfl rfl rfl) ?_ | refine zaq rfl rfl (zav rfl rfl rfl) ?_)
  all_goals (first | refine zab rfl rfl (zah rfl rfl rfl) (za4 rfl ts23 rfl) ?_ | refine zab rfl rfl (zah rfl rfl rfl) (za8 rfl ts23 rfl) ?_ | refine zab rfl rfl (zah rfl rfl rfl) (za2 rfl ts23 rfl) ?_ | refine zab rfl rfl (zah rfl rfl rfl) (zbc rfl ts23 rfl) ?_ | refine zab rfl rfl (zah rfl rfl rfl) (za3 rfl ts23 rfl) ?_ | refine zaq rfl rfl (zax rfl rfl rfl) ?_ | refine zaq rfl rfl (zav rfl rfl rfl) ?_)
  all_goals (first | refine zbh rfl rfl (zah rfl rfl rfl) (zbw rfl rfl rfl) (fun h20 => ?_) (fun h20 => ?_) | refine zbi rfl rfl (zah rfl rfl rfl) (zbw rfl rfl rfl) (fun h20 => ?_) (fun h20 => ?_) | refine zaq rfl rfl (zax rfl rfl rfl) ?_ | refine zaq rfl rfl (zav rfl rfl rfl) ?_)
  all_goals (first | refine zab rfl rfl (zaa rfl) (zbx rfl rfl rfl) ?_ | refine zab rfl rfl (zaa rfl) (zby rfl rfl rfl) ?_ | refine zab rfl rfl (zaa rfl) (zbk rfl rfl rfl) ?_ | refine zab rfl rfl (zaa rfl) (zbl rfl rfl rfl) ?_)
  all_goals refine zan ?_
  all_goals (repeat (first | refine zag ?_ | refine zar ?_ | refine zad ?_ | refine zas ?_ | refine zac ?_))
  all_goals (first | refine zbp rfl ?_ | refine zbm rfl ?_)
  all_goals (repeat (first | refine zag ?_ | refine zar ?_ | refine zad ?_ | refine zas ?_ | refine zac ?_))
  all_goals first
    | skip
      refine zaf ?_
      refine zab rfl rfl (zaa rfl) (mv_s (.inr rfl) rfl) ?_
      refine zan ?_
      repeat (first | refine zag ?_ | refine zar ?_ | refine zad ?_ | refine zas ?_ | refine zac ?_)
      (refine zbs ?_; repeat (first | refine zb8 ?_ | refine zb9 ?_))
      exact zcm (.inr rfl) rfl (congrArg eB (headV_f (by omega)).symm)
    | skip
  refine zaf ?_
  refine zab rfl rfl (zaa rfl) (mv_s (.inr rfl) rfl) ?_
  refine zan ?_
  repeat (first | refine zag ?_ | refine zar ?_ | refine zad ?_ | refine zas ?_ | refine zac ?_)
  refine zcc (S := Nat) (fun k => [(0, eL eI d), (1, eL eSh l), (5, eI k)]) (fun _ => []) (fun k => k ≤ d.length ∧ ∀ j, j < k → needB (gti d j) = true) (fun k => d.length - k) 0 (zck [] (by decide) trivial ⟨.lo _ (by repeat' (first | exact Lo.s _ | exact zaj | refine zae ?_ ?_ | refine zak ?_ | refine Lo.cells ?_ | refine Lo.agg _ ?_ | refine Lo.ref _ ?_ | refine Lo.tup _ ?_ | refine Lo.fn _ _ ?_ | refine Lo.sl _ ?_ | intro _)), .lo _ (by repeat' (first | exact Lo.s _ | exact zaj | refine zae ?_ ?_ | refine zak ?_ | refine Lo.cells ?_ | refine Lo.agg _ ?_ | refine Lo.ref _ ?_ | refine Lo.tup _ ?_ | refine Lo.fn _ _ ?_ | refine Lo.sl _ ?_ | intro _)), .lo _ (by repeat' (first | exact Lo.s _ | exact zaj | refine zae ?_ ?_ | refine zak ?_ | refine Lo.cells ?_ | refine Lo.agg _ ?_ | refine Lo.ref _ ?_ | refine Lo.tup _ ?_ | refine Lo.fn _ _ ?_ | refine Lo.sl _ ?_ | intro _)), trivial⟩) ⟨by omega, fun j hj => by omega⟩ (fun k hk => ?_)
  obtain ⟨hk, hall⟩ := hk
  repeat (first | refine zag ?_ | refine zar ?_ | refine zad ?_ | refine zas ?_ | refine zac ?_)
  all_goals refine zaf ?_
  all_goals refine zab rfl rfl (zaa rfl) (mv_s (.inl rfl) rfl) ?_
  all_goals (first | refine zab rfl rfl (zaa rfl) (za6 (.inl rfl) rfl) ?_ | refine zab rfl rfl (zaa rfl) (zbg (.inl rfl) rfl) ?_ | refine zab rfl rfl (zaa rfl) (mv_s (.inl rfl) rfl) ?_ | refine zab rfl rfl (zaa rfl) (za7 (.inl rfl) rfl) ?_)
  all_goals (first | refine zab rfl rfl (zaa rfl) (za4 rfl ts22 rfl) ?_ | refine zab rfl rfl (zaa rfl) (za8 rfl ts22 rfl) ?_ | refine zab rfl rfl (zaa rfl) (za2 rfl ts22 rfl) ?_ | refine zab rfl rfl (zaa rfl) (zbc rfl ts22 rfl) ?_ | refine zab rfl rfl (zaa rfl) (za3 rfl ts22 rfl) ?_)
  all_goals (first | refine zbh rfl rfl (zaa rfl) (zbb rfl rfl rfl) (fun h25 => ?_) (fun h25 => ?_) | refine zbi rfl rfl (zaa rfl) (zbb rfl rfl rfl) (fun h25 => ?_) (fun h25 => ?_))
  all_goals refine zan ?_
  all_goals (repeat (first | refine zag ?_ | refine zar ?_ | refine zad ?_ | refine zas ?_ | refine zac ?_))
  all_goals (first | refine zbp rfl ?_ | refine zbm rfl ?_)
  all_goals (repeat (first | refine zag ?_ | refine zar ?_ | refine zad ?_ | refine zas ?_ | refine zac ?_))
  · have hlt : k < d.length := by omega
    all_goals refine zaf ?_
    all_goals (first | refine zab rfl rfl (zaa rfl) (za6 (.inl rfl) rfl) ?_ | refine zab rfl rfl (zaa rfl) (zbg (.inl rfl) rfl) ?_ | refine zab rfl rfl (zaa rfl) (mv_s (.inl rfl) rfl) ?_ | refine zab rfl rfl (zaa rfl) (za7 (.inl rfl) rfl) ?_)
    all_goals refine zab rfl rfl (zaa rfl) (mv_s (.inl rfl) rfl) ?_
    all_goals (first | refine zab rfl rfl (zaa rfl) (za1 rfl ts22 ti3 rfl rfl rfl (zb5 (by omega)) rfl) ?_ | refine zab rfl rfl (zaa rfl) (zay rfl ts22 ti3 rfl rfl rfl (by omega)) ?_)
    all_goals (first | refine zab rfl rfl (zaa rfl) (zam rfl ta3 rfl) ?_ | refine zab rfl rfl (zaa rfl) (zap rfl ta3 rfl rfl rfl rfl rfl) ?_)
    all_goals (first | refine zbh rfl rfl (zaa rfl) (zbb rfl rfl rfl) (fun h32 => ?_) (fun h32 => ?_) | refine zbi rfl rfl (zaa rfl) (zbb rfl rfl rfl) (fun h32 => ?_) (fun h32 => ?_))
    all_goals refine zab rfl rfl (zaa rfl) (mv_s (.inl rfl) rfl) ?_
    all_goals (first | refine zab rfl rfl (zah rfl rfl rfl) (za6 (.inl rfl) rfl) ?_ | refine zab rfl rfl (zah rfl rfl rfl) (zbg (.inl rfl) rfl) ?_ | refine zab rfl rfl (zah rfl rfl rfl) (mv_s (.inl rfl) rfl) ?_ | refine zab rfl rfl (zah rfl rfl rfl) (za7 (.inl rfl) rfl) ?_ | refine zaq rfl rfl (zax rfl rfl rfl) ?_ | refine zaq rfl rfl (zav rfl rfl rfl) ?_)
    all_goals (first | refine zab rfl rfl (zah rfl rfl rfl) (mv_s (.inl rfl) rfl) ?_ | refine zaq rfl rfl (zax rfl rfl rfl) ?_ | refine zaq rfl rfl (zav rfl rfl rfl) ?_)
    all_goals (first | refine zab rfl rfl (zah rfl rfl rfl) (za1 rfl ts22 ti3 rfl rfl rfl (zb5 (by omega)) rfl) ?_ | refine zab rfl rfl (zah rfl rfl rfl) (zay rfl ts22 ti3 rfl rfl rfl (by omega)) ?_ | refine zaq rfl rfl (zax rfl rfl rfl) ?_ | refine zaq rfl rfl (zav rfl rfl rfl) ?_)
    all_goals (first | refine zab rfl rfl (zah rfl rfl rfl) (zam rfl ta3 rfl) ?_ | refine zab rfl rfl (zah rfl rfl rfl) (zap rfl ta3 rfl rfl rfl rfl rfl) ?_ | refine zaq rfl rfl (zax rfl rfl rfl) ?_ | refine zaq rfl rfl (zav rfl rfl rfl) ?_)
    all_goals (first | refine zbh rfl rfl (zah rfl rfl rfl) (zbw rfl rfl rfl) (fun h38 => ?_) (fun h38 => ?_) | refine zbi rfl rfl (zah rfl rfl rfl) (zbw rfl rfl rfl) (fun h38 => ?_) (fun h38 => ?_) | refine zaq rfl rfl (zax rfl rfl rfl) ?_ | refine zaq rfl rfl (zav rfl rfl rfl) ?_)
    all_goals (first | refine zab rfl rfl (zaa rfl) (zbx rfl rfl rfl) ?_ | refine zab rfl rfl (zaa rfl) (zby rfl rfl rfl) ?_ | refine zab rfl rfl (zaa rfl) (zbk rfl rfl rfl) ?_ | refine zab rfl rfl (zaa rfl) (zbl rfl rfl rfl) ?_)
    all_goals refine zan ?_
    all_goals (repeat (first | refine zag ?_ | refine zar ?_ | refine zad ?_ | refine zas ?_ | refine zac ?_))
    all_goals (first | refine zbp rfl ?_ | refine zbm rfl ?_)
    all_goals (repeat (first | refine zag ?_ | refine zar ?_ | refine zad ?_ | refine zas ?_ | refine zac ?_))
    all_goals first
      | skip
        refine zaf ?_
        refine zab rfl rfl (zaa rfl) (mv_s (.inr rfl) rfl) ?_
        refine zan ?_
        repeat (first | refine zag ?_ | refine zar ?_ | refine zad ?_ | refine zas ?_ | refine zac ?_)
        (refine zbs ?_; repeat (first | refine zb8 ?_ | refine zb9 ?_))
        exact zcm (.inr rfl) rfl (congrArg eB (headV_f2 (all_f hlt (decide_eq_false (by omega)))).symm)
      | skip
        refine zaf ?_
        refine zab rfl rfl (zaa rfl) (mv_s (.inl rfl) rfl) ?_
        refine zab rfl rfl (zaa rfl) (zb2 rfl rfl rfl (IntWalk.i64_in _ (by omega))) ?_
        refine zab rfl rfl (zaa rfl) (mv_s (.inr rfl) rfl) ?_
        refine zan ?_
        repeat (first | refine zag ?_ | refine zar ?_ | refine zad ?_ | refine zas ?_ | refine zac ?_)
        refine ⟨k + 1, ⟨by omega, fun i hi => ?_⟩, by omega, zck [] (by decide) trivial ⟨.lo _ (by repeat' (first | exact Lo.s _ | exact zaj | refine zae ?_ ?_ | refine zak ?_ | refine Lo.cells ?_ | refine Lo.agg _ ?_ | refine Lo.ref _ ?_ | refine Lo.tup _ ?_ | refine Lo.fn _ _ ?_ | refine Lo.sl _ ?_ | intro _)), .lo _ (by repeat' (first | exact Lo.s _ | exact zaj | refine zae ?_ ?_ | refine zak ?_ | refine Lo.cells ?_ | refine Lo.agg _ ?_ | refine Lo.ref _ ?_ | refine Lo.tup _ ?_ | refine Lo.fn _ _ ?_ | refine Lo.sl _ ?_ | intro _)), .lo _ (by repeat' (first | exact Lo.s _ | exact zaj | refine zae ?_ ?_ | refine zak ?_ | refine Lo.cells ?_ | refine Lo.agg _ ?_ | refine Lo.ref _ ?_ | refine Lo.tup _ ?_ | refine Lo.fn _ _ ?_ | refine Lo.sl _ ?_ | intro _)), trivial⟩⟩
        by_cases e : i = k
        · subst e; exact decide_eq_true (by omega)
        · exact hall i (by omega)
  (refine zcl ?_; repeat (first | refine ath_x ?_ | refine zci ?_ | refine zcb rfl ?_ | refine zas ?_ | refine zar ?_ | refine zag ?_ | refine zad ?_ | refine zac ?_))
  have hh : headV d l = true := headV_t (by omega) (all_t (fun j hj => hall j (by omega)))
  clear hall
  refine zaf ?_
  refine zab rfl rfl (zaa rfl) (mv_s (.inr rfl) rfl) ?_
  refine zan ?_
  repeat (first | refine zag ?_ | refine zar ?_ | refine zad ?_ | refine zas ?_ | refine zac ?_)
  refine zcc (S := Nat) (fun k => [(0, eL eI d), (1, eL eSh l), (6, eI k)]) (fun _ => []) (fun k => k ≤ l.length ∧ ∀ j, j < k → sftB d.length (gti l j) = true) (fun k => l.length - k) 0 (zck [] (by decide) trivial ⟨.lo _ (by repeat' (first | exact Lo.s _ | exact zaj | refine zae ?_ ?_ | refine zak ?_ | refine Lo.cells ?_ | refine Lo.agg _ ?_ | refine Lo.ref _ ?_ | refine Lo.tup _ ?_ | refine Lo.fn _ _ ?_ | refine Lo.sl _ ?_ | intro _)), .lo _ (by repeat' (first | exact Lo.s _ | exact zaj | refine zae ?_ ?_ | refine zak ?_ | refine Lo.cells ?_ | refine Lo.agg _ ?_ | refine Lo.ref _ ?_ | refine Lo.tup _ ?_ | refine Lo.fn _ _ ?_ | refine Lo.sl _ ?_ | intro _)), .lo _ (by repeat' (first | exact Lo.s _ | exact zaj | refine zae ?_ ?_ | refine zak ?_ | refine Lo.cells ?_ | refine Lo.agg _ ?_ | refine Lo.ref _ ?_ | refine Lo.tup _ ?_ | refine Lo.fn _ _ ?_ | refine Lo.sl _ ?_ | intro _)), trivial⟩) ⟨by omega, fun j hj => by omega⟩ (fun k hk => ?_)
  obtain ⟨hk, hall⟩ := hk
  repeat (first | refine zag ?_ | refine zar ?_ | refine zad ?_ | refine zas ?_ | refine zac ?_)
  all_goals refine zaf ?_
  all_goals refine zab rfl rfl (zaa rfl) (mv_s (.inl rfl) rfl) ?_
  all_goals (first | refine zab rfl rfl (zaa rfl) (za6 (.inl rfl) rfl) ?_ | refine zab rfl rfl (zaa rfl) (zbg (.inl rfl) rfl) ?_ | refine zab rfl rfl (zaa rfl) (mv_s (.inl rfl) rfl) ?_ | refine zab rfl rfl (zaa rfl) (za7 (.inl rfl) rfl) ?_)
  all_goals (first | refine zab rfl rfl (zaa rfl) (za4 rfl ts23 rfl) ?_ | refine zab rfl rfl (zaa rfl) (za8 rfl ts23 rfl) ?_ | refine zab rfl rfl (zaa rfl) (za2 rfl ts23 rfl) ?_ | refine zab rfl rfl (zaa rfl) (zbc rfl ts23 rfl) ?_ | refine zab rfl rfl (zaa rfl) (za3 rfl ts23 rfl) ?_)
  all_goals (first | refine zbh rfl rfl (zaa rfl) (zbb rfl rfl rfl) (fun h43 => ?_) (fun h43 => ?_) | refine zbi rfl rfl (zaa rfl) (zbb rfl rfl rfl) (fun h43 => ?_) (fun h43 => ?_))
  all_goals refine zan ?_
  all_goals (repeat (first | refine zag ?_ | refine zar ?_ | refine zad ?_ | refine zas ?_ | refine zac ?_))
  all_goals (first | refine zbp rfl ?_ | refine zbm rfl ?_)
  all_goals (repeat (first | refine zag ?_ | refine zar ?_ | refine zad ?_ | refine zas ?_ | refine zac ?_))
  · have hlt : k < l.length := by omega
    obtain ⟨s, hs⟩ : ∃ s, gti l k = s := ⟨_, rfl⟩
    have hix : (l.map eSh)[k]? = some (eSh s) := by rw [← hs]; exact zb5 hlt
    refine zaf ?_
    first | refine zab rfl rfl (zaa rfl) (za6 (.inl rfl) rfl) ?_ | refine zab rfl rfl (zaa rfl) (zbg (.inl rfl) rfl) ?_ | refine zab rfl rfl (zaa rfl) (mv_s (.inl rfl) rfl) ?_ | refine zab rfl rfl (zaa rfl) (za7 (.inl rfl) rfl) ?_
    refine zab rfl rfl (zaa rfl) (mv_s (.inl rfl) rfl) ?_
    first | refine zab rfl rfl (zaa rfl) (za1 rfl ts23 ti36 rfl rfl rfl hix rfl) ?_ | refine zab rfl rfl (zaa rfl) (zay rfl ts23 ti36 rfl rfl rfl hix) ?_
    first | refine zab rfl rfl (zaa rfl) (za0 rfl ta36 ti36 rfl rfl) ?_ | refine zab rfl rfl (zaa rfl) (za9 rfl ta36 ti36 rfl rfl rfl rfl rfl) ?_ | refine zab rfl rfl (zaa rfl) (zaz rfl ta36 ti36 rfl (Nat.le_of_ble_eq_true rfl)) ?_ | refine zab rfl rfl (zaa rfl) (zba rfl ta36 ti36 rfl rfl rfl rfl (Nat.le_of_ble_eq_true rfl)) ?_
    refine zab rfl rfl (zaa rfl) (zbr rfl ti36 rfl rfl) ?_
    refine zb0 rfl (zaa rfl) (zbd rfl ti36 rfl rfl rfl rfl rfl rfl (by decide) (by decide)) ?_
    refine zan ?_
    repeat (first | refine zag ?_ | refine zar ?_ | refine zad ?_ | refine zas ?_ | refine zac ?_)
    refine zca (zcd (id := 0) rfl) ?_
    refine zca (zcy (d := 7) rfl rfl rfl) ?_
    all_goals refine zaf ?_
    all_goals (first | refine zab rfl rfl (zaa rfl) (zal rfl zc0 (by decide) rfl) ?_ | refine zab rfl rfl (zaa rfl) (zai rfl zc0 (by decide) rfl) ?_)
    all_goals (first | refine zab rfl rfl (zaa rfl) (zam rfl ta22 rfl) ?_ | refine zab rfl rfl (zaa rfl) (zap rfl ta22 rfl rfl rfl rfl rfl) ?_)
    all_goals (first | refine zab rfl rfl (zaa rfl) (za4 rfl ts22 rfl) ?_ | refine zab rfl rfl (zaa rfl) (za8 rfl ts22 rfl) ?_ | refine zab rfl rfl (zaa rfl) (za2 rfl ts22 rfl) ?_ | refine zab rfl rfl (zaa rfl) (zbc rfl ts22 rfl) ?_ | refine zab rfl rfl (zaa rfl) (za3 rfl ts22 rfl) ?_)
    all_goals (first | refine zbh rfl rfl (zaa rfl) (zcr rfl rfl rfl) (fun h53 => ?_) (fun h53 => ?_) | refine zbi rfl rfl (zaa rfl) (zcr rfl rfl rfl) (fun h53 => ?_) (fun h53 => ?_))
    all_goals refine zab rfl rfl (zaa rfl) (mv_s (.inl rfl) rfl) ?_
    all_goals (first | refine zab rfl rfl (zah rfl rfl rfl) (zal rfl tf36_1 (by decide) rfl) ?_ | refine zab rfl rfl (zah rfl rfl rfl) (zai rfl tf36_1 (by decide) rfl) ?_ | refine zaq rfl rfl (zax rfl rfl rfl) ?_ | refine zaq rfl rfl (zav rfl rfl rfl) ?_)
    all_goals (first | refine zab rfl rfl (zah rfl rfl rfl) (zam rfl ta3 rfl) ?_ | refine zab rfl rfl (zah rfl rfl rfl) (zap rfl ta3 rfl rfl rfl rfl rfl) ?_ | refine zaq rfl rfl (zax rfl rfl rfl) ?_ | refine zaq rfl rfl (zav rfl rfl rfl) ?_)
    all_goals (first | refine zbh rfl rfl (zah rfl rfl rfl) (zbb rfl rfl rfl) (fun h57 => ?_) (fun h57 => ?_) | refine zbi rfl rfl (zah rfl rfl rfl) (zbb rfl rfl rfl) (fun h57 => ?_) (fun h57 => ?_) | refine zaq rfl rfl (zax rfl rfl rfl) ?_ | refine zaq rfl rfl (zav rfl rfl rfl) ?_)
    all_goals (first | refine zab rfl rfl (zaa rfl) (zbx rfl rfl rfl) ?_ | refine zab rfl rfl (zaa rfl) (zby rfl rfl rfl) ?_ | refine zab rfl rfl (zaa rfl) (zbk rfl rfl rfl) ?_ | refine zab rfl rfl (zaa rfl) (zbl rfl rfl rfl) ?_)
    all_goals refine zab rfl rfl (zaa rfl) (mv_s (.inl rfl) rfl) ?_
    all_goals (first | refine zab rfl rfl (zah rfl rfl rfl) (zal rfl tf36_1 (by decide) rfl) ?_ | refine zab rfl rfl (zah rfl rfl rfl) (zai rfl tf36_1 (by decide) rfl) ?_ | refine zaq rfl rfl (zax rfl rfl rfl) ?_ | refine zaq rfl rfl (zav rfl rfl rfl) ?_)
    all_goals (first | refine zab rfl rfl (zah rfl rfl rfl) (zam rfl ta3 rfl) ?_ | refine zab rfl rfl (zah rfl rfl rfl) (zap rfl ta3 rfl rfl rfl rfl rfl) ?_ | refine zaq rfl rfl (zax rfl rfl rfl) ?_ | refine zaq rfl rfl (zav rfl rfl rfl) ?_)
    all_goals (first | refine zbh rfl rfl (zah rfl rfl rfl) (zbw rfl rfl rfl) (fun h62 => ?_) (fun h62 => ?_) | refine zbi rfl rfl (zah rfl rfl rfl) (zbw rfl rfl rfl) (fun h62 => ?_) (fun h62 => ?_) | refine zaq rfl rfl (zax rfl rfl rfl) ?_ | refine zaq rfl rfl (zav rfl rfl rfl) ?_)
    all_goals (first | refine zab rfl rfl (zaa rfl) (zbx rfl rfl rfl) ?_ | refine zab rfl rfl (zaa rfl) (zby rfl rfl rfl) ?_ | refine zab rfl rfl (zaa rfl) (zbk rfl rfl rfl) ?_ | refine zab rfl rfl (zaa rfl) (zbl rfl rfl rfl) ?_)
    all_goals refine zab rfl rfl (zaa rfl) (mv_s (.inl rfl) rfl) ?_
    all_goals (first | refine zab rfl rfl (zah rfl rfl rfl) (zal rfl tf36_2 (by decide) rfl) ?_ | refine zab rfl rfl (zah rfl rfl rfl) (zai rfl tf36_2 (by decide) rfl) ?_ | refine zaq rfl rfl (zax rfl rfl rfl) ?_ | refine zaq rfl rfl (zav rfl rfl rfl) ?_)
    all_goals (first | refine zab rfl rfl (zah rfl rfl rfl) (zam rfl ta3 rfl) ?_ | refine zab rfl rfl (zah rfl rfl rfl) (zap rfl ta3 rfl rfl rfl rfl rfl) ?_ | refine zaq rfl rfl (zax rfl rfl rfl) ?_ | refine zaq rfl rfl (zav rfl rfl rfl) ?_)
    all_goals (first | refine zbh rfl rfl (zah rfl rfl rfl) (zbb rfl rfl rfl) (fun h67 => ?_) (fun h67 => ?_) | refine zbi rfl rfl (zah rfl rfl rfl) (zbb rfl rfl rfl) (fun h67 => ?_) (fun h67 => ?_) | refine zaq rfl rfl (zax rfl rfl rfl) ?_ | refine zaq rfl rfl (zav rfl rfl rfl) ?_)
    all_goals (first | refine zab rfl rfl (zaa rfl) (zbx rfl rfl rfl) ?_ | refine zab rfl rfl (zaa rfl) (zby rfl rfl rfl) ?_ | refine zab rfl rfl (zaa rfl) (zbk rfl rfl rfl) ?_ | refine zab rfl rfl (zaa rfl) (zbl rfl rfl rfl) ?_)
    all_goals refine zab rfl rfl (zaa rfl) (mv_s (.inl rfl) rfl) ?_
    all_goals (first | refine zab rfl rfl (zah rfl rfl rfl) (zal rfl tf36_2 (by decide) rfl) ?_ | refine zab rfl rfl (zah rfl rfl rfl) (zai rfl tf36_2 (by decide) rfl) ?_ | refine zaq rfl rfl (zax rfl rfl rfl) ?_ | refine zaq rfl rfl (zav rfl rfl rfl) ?_)
    all_goals (first | refine zab rfl rfl (zah rfl rfl rfl) (zam rfl ta3 rfl) ?_ | refine zab rfl rfl (zah rfl rfl rfl) (zap rfl ta3 rfl rfl rfl rfl rfl) ?_ | refine zaq rfl rfl (zax rfl rfl rfl) ?_ | refine zaq rfl rfl (zav rfl rfl rfl) ?_)
    all_goals (first | refine zbh rfl rfl (zah rfl rfl rfl) (zbw rfl rfl rfl) (fun h72 => ?_) (fun h72 => ?_) | refine zbi rfl rfl (zah rfl rfl rfl) (zbw rfl rfl rfl) (fun h72 => ?_) (fun h72 => ?_) | refine zaq rfl rfl (zax rfl rfl rfl) ?_ | refine zaq rfl rfl (zav rfl rfl rfl) ?_)
    all_goals (first | refine zab rfl rfl (zaa rfl) (zbx rfl rfl rfl) ?_ | refine zab rfl rfl (zaa rfl) (zby rfl rfl rfl) ?_ | refine zab rfl rfl (zaa rfl) (zbk rfl rfl rfl) ?_ | refine zab rfl rfl (zaa rfl) (zbl rfl rfl rfl) ?_)
    all_goals refine zan ?_
    all_goals (repeat (first | refine zag ?_ | refine zar ?_ | refine zad ?_ | refine zas ?_ | refine zac ?_))
    all_goals (first | refine zbp rfl ?_ | refine zbm rfl ?_)
    all_goals (repeat (first | refine zag ?_ | refine zar ?_ | refine zad ?_ | refine zas ?_ | refine zac ?_))
    all_goals first
      | skip
        refine zaf ?_
        refine zab rfl rfl (zaa rfl) (mv_s (.inr rfl) rfl) ?_
        refine zan ?_
        repeat (first | refine zag ?_ | refine zar ?_ | refine zad ?_ | refine zas ?_ | refine zac ?_)
        (refine zbs ?_; repeat (first | refine zb8 ?_ | refine zb9 ?_))
        exact zcm (.inr rfl) rfl (congrArg eB (validS_f hlt (by rw [hs]; exact sftB_h (decide_eq_false (by omega)))).symm)
      | skip
    have hhs : headS s = true := decide_eq_true (by omega)
    refine zaf ?_
    refine zab rfl rfl (zaa rfl) (mv_s (.inr rfl) rfl) ?_
    refine zan ?_
    repeat (first | refine zag ?_ | refine zar ?_ | refine zad ?_ | refine zas ?_ | refine zac ?_)
    refine zcc (S := Nat) (fun j => [(0, eL eI d), (1, eL eSh l), (6, eI k), (7, .ref (eSh s).cells), (8, eI j)]) (fun _ => []) (fun j => j ≤ s.pd.length ∧ ∀ i, i < j → perB d.length s.pd i = true) (fun j => s.pd.length - j) 0 (zck [] (by decide) trivial ⟨.lo _ (by repeat' (first | exact Lo.s _ | exact zaj | refine zae ?_ ?_ | refine zak ?_ | refine Lo.cells ?_ | refine Lo.agg _ ?_ | refine Lo.ref _ ?_ | refine Lo.tup _ ?_ | refine Lo.fn _ _ ?_ | refine Lo.sl _ ?_ | intro _)), .lo _ (by repeat' (first | exact Lo.s _ | exact zaj | refine zae ?_ ?_ | refine zak ?_ | refine Lo.cells ?_ | refine Lo.agg _ ?_ | refine Lo.ref _ ?_ | refine Lo.tup _ ?_ | refine Lo.fn _ _ ?_ | refine Lo.sl _ ?_ | intro _)), .lo _ (by repeat' (first | exact Lo.s _ | exact zaj | refine zae ?_ ?_ | refine zak ?_ | refine Lo.cells ?_ | refine Lo.agg _ ?_ | refine Lo.ref _ ?_ | refine Lo.tup _ ?_ | refine Lo.fn _ _ ?_ | refine Lo.sl _ ?_ | intro _)), .lo _ (by repeat' (first | exact Lo.s _ | exact zaj | refine zae ?_ ?_ | refine zak ?_ | refine Lo.cells ?_ | refine Lo.agg _ ?_ | refine Lo.ref _ ?_ | refine Lo.tup _ ?_ | refine Lo.fn _ _ ?_ | refine Lo.sl _ ?_ | intro _)), .lo _ (by repeat' (first | exact Lo.s _ | exact zaj | refine zae ?_ ?_ | refine zak ?_ | refine Lo.cells ?_ | refine Lo.agg _ ?_ | refine Lo.ref _ ?_ | refine Lo.tup _ ?_ | refine Lo.fn _ _ ?_ | refine Lo.sl _ ?_ | intro _)), trivial⟩) ⟨by omega, fun j hj => by omega⟩ (fun j hj => ?_)
    obtain ⟨hj, hper⟩ := hj
    repeat (first | refine zag ?_ | refine zar ?_ | refine zad ?_ | refine zas ?_ | refine zac ?_)
    refine zaf ?_
    refine zab rfl rfl (zaa rfl) (mv_s (.inl rfl) rfl) ?_
    first | refine zab rfl rfl (zaa rfl) (zal rfl zc0 (by decide) rfl) ?_ | refine zab rfl rfl (zaa rfl) (zai rfl zc0 (by decide) rfl) ?_
    first | refine zab rfl rfl (zaa rfl) (zam rfl ta22 rfl) ?_ | refine zab rfl rfl (zaa rfl) (zap rfl ta22 rfl rfl rfl rfl rfl) ?_
    first | refine zab rfl rfl (zaa rfl) (za4 rfl ts22 rfl) ?_ | refine zab rfl rfl (zaa rfl) (za8 rfl ts22 rfl) ?_ | refine zab rfl rfl (zaa rfl) (za2 rfl ts22 rfl) ?_ | refine zab rfl rfl (zaa rfl) (zbc rfl ts22 rfl) ?_ | refine zab rfl rfl (zaa rfl) (za3 rfl ts22 rfl) ?_
    refine zab rfl rfl (zaa rfl) (zbb rfl rfl rfl) ?_
    refine zan ?_
    repeat (first | refine zag ?_ | refine zar ?_ | refine zad ?_ | refine zas ?_ | refine zac ?_)
    refine zc5 (d := 76) rfl (fun hm3 => ?_)
    unfold maxLen at hm3
    refine aw_if rfl (fun h => ?_) (fun h => ?_)
    · repeat (first | refine zag ?_ | refine zar ?_ | refine zad ?_ | refine zas ?_ | refine zac ?_)
      have hlt2 : j < s.pd.length := by omega
      all_goals refine zch hmix ?_
      all_goals refine zco (by kernel_rfl) ?_
      all_goals (first | refine zat rfl rfl (zaa rfl) (zal rfl zc0 (by decide) rfl) ?_ | refine zat rfl rfl (zaa rfl) (zai rfl zc0 (by decide) rfl) ?_)
      all_goals (first | refine zat rfl rfl (zaa rfl) (zam rfl ta22 rfl) ?_ | refine zat rfl rfl (zaa rfl) (zap rfl ta22 rfl rfl rfl rfl rfl) ?_)
      all_goals refine zat rfl rfl (zaa rfl) (mv_s (.inl rfl) rfl) ?_
      all_goals (first | refine zat rfl rfl (zaa rfl) (za1 rfl ts22 ti3 rfl rfl rfl (zb5 (by omega)) rfl) ?_ | refine zat rfl rfl (zaa rfl) (zay rfl ts22 ti3 rfl rfl rfl (by omega)) ?_)
      all_goals (first | refine zat rfl rfl (zaa rfl) (zam rfl ta3 rfl) ?_ | refine zat rfl rfl (zaa rfl) (zap rfl ta3 rfl rfl rfl rfl rfl) ?_)
      all_goals (first | refine zdg rfl rfl (zaa rfl) (zbb rfl rfl rfl) (fun h86 => ?_) (fun h86 => ?_) | refine zdh rfl rfl (zaa rfl) (zbb rfl rfl rfl) (fun h86 => ?_) (fun h86 => ?_))
      all_goals refine zat rfl rfl (zaa rfl) (mv_s (.inl rfl) rfl) ?_
      all_goals (first | refine zat rfl rfl (zah rfl rfl rfl) (zal rfl zc0 (by decide) rfl) ?_ | refine zat rfl rfl (zah rfl rfl rfl) (zai rfl zc0 (by decide) rfl) ?_ | refine zaw rfl rfl (zax rfl rfl rfl) ?_ | refine zaw rfl rfl (zav rfl rfl rfl) ?_)
      all_goals (first | refine zat rfl rfl (zah rfl rfl rfl) (zam rfl ta22 rfl) ?_ | refine zat rfl rfl (zah rfl rfl rfl) (zap rfl ta22 rfl rfl rfl rfl rfl) ?_ | refine zaw rfl rfl (zax rfl rfl rfl) ?_ | refine zaw rfl rfl (zav rfl rfl rfl) ?_)
      all_goals (first | refine zat rfl rfl (zah rfl rfl rfl) (mv_s (.inl rfl) rfl) ?_ | refine zaw rfl rfl (zax rfl rfl rfl) ?_ | refine zaw rfl rfl (zav rfl rfl rfl) ?_)
      all_goals (first | refine zat rfl rfl (zah rfl rfl rfl) (za1 rfl ts22 ti3 rfl rfl rfl (zb5 (by omega)) rfl) ?_ | refine zat rfl rfl (zah rfl rfl rfl) (zay rfl ts22 ti3 rfl rfl rfl (by omega)) ?_ | refine zaw rfl rfl (zax rfl rfl rfl) ?_ | refine zaw rfl rfl (zav rfl rfl rfl) ?_)
      all_goals (first | refine zat rfl rfl (zah rfl rfl rfl) (zam rfl ta3 rfl) ?_ | refine zat rfl rfl (zah rfl rfl rfl) (zap rfl ta3 rfl rfl rfl rfl rfl) ?_ | refine zaw rfl rfl (zax rfl rfl rfl) ?_ | refine zaw rfl rfl (zav rfl rfl rfl) ?_)
      all_goals (first | refine zat rfl rfl (zah rfl rfl rfl) (za6 (.inl rfl) rfl) ?_ | refine zat rfl rfl (zah rfl rfl rfl) (zbg (.inl rfl) rfl) ?_ | refine zat rfl rfl (zah rfl rfl rfl) (mv_s (.inl rfl) rfl) ?_ | refine zat rfl rfl (zah rfl rfl rfl) (za7 (.inl rfl) rfl) ?_ | refine zaw rfl rfl (zax rfl rfl rfl) ?_ | refine zaw rfl rfl (zav rfl rfl rfl) ?_)
      all_goals (first | refine zat rfl rfl (zah rfl rfl rfl) (za4 rfl ts22 rfl) ?_ | refine zat rfl rfl (zah rfl rfl rfl) (za8 rfl ts22 rfl) ?_ | refine zat rfl rfl (zah rfl rfl rfl) (za2 rfl ts22 rfl) ?_ | refine zat rfl rfl (zah rfl rfl rfl) (zbc rfl ts22 rfl) ?_ | refine zat rfl rfl (zah rfl rfl rfl) (za3 rfl ts22 rfl) ?_ | refine zaw rfl rfl (zax rfl rfl rfl) ?_ | refine zaw rfl rfl (zav rfl rfl rfl) ?_)
      all_goals (first | refine zdg rfl rfl (zah rfl rfl rfl) (zcp rfl rfl rfl) (fun h95 => ?_) (fun h95 => ?_) | refine zdh rfl rfl (zah rfl rfl rfl) (zcp rfl rfl rfl) (fun h95 => ?_) (fun h95 => ?_) | refine zaw rfl rfl (zax rfl rfl rfl) ?_ | refine zaw rfl rfl (zav rfl rfl rfl) ?_)
      all_goals (first | refine zat rfl rfl (zaa rfl) (zbx rfl rfl rfl) ?_ | refine zat rfl rfl (zaa rfl) (zby rfl rfl rfl) ?_ | refine zat rfl rfl (zaa rfl) (zbk rfl rfl rfl) ?_ | refine zat rfl rfl (zaa rfl) (zbl rfl rfl rfl) ?_)
      all_goals refine zat rfl rfl (zaa rfl) (mv_s (.inl rfl) rfl) ?_
      all_goals (first | refine zat rfl rfl (zah rfl rfl rfl) (mv_s (.inl rfl) rfl) ?_ | refine zaw rfl rfl (zax rfl rfl rfl) ?_ | refine zaw rfl rfl (zav rfl rfl rfl) ?_)
      all_goals (first | refine zdg rfl rfl (zah rfl rfl rfl) (zbw rfl rfl rfl) (fun h99 => ?_) (fun h99 => ?_) | refine zdh rfl rfl (zah rfl rfl rfl) (zbw rfl rfl rfl) (fun h99 => ?_) (fun h99 => ?_) | refine zaw rfl rfl (zax rfl rfl rfl) ?_ | refine zaw rfl rfl (zav rfl rfl rfl) ?_)
      all_goals (first | refine zat rfl rfl (zah rfl rfl rfl) (mv_s (.inl rfl) rfl) ?_ | refine zaw rfl rfl (zax rfl rfl rfl) ?_ | refine zaw rfl rfl (zav rfl rfl rfl) ?_)
      all_goals (first | refine zat rfl rfl (zah rfl rfl rfl) (zal rfl zc0 (by decide) rfl) ?_ | refine zat rfl rfl (zah rfl rfl rfl) (zai rfl zc0 (by decide) rfl) ?_ | refine zaw rfl rfl (zb6 rfl rfl rfl) ?_ | refine zaw rfl rfl (zav rfl rfl rfl) ?_)
      all_goals (first | refine zat rfl rfl (zah rfl rfl rfl) (zam rfl ta22 rfl) ?_ | refine zat rfl rfl (zah rfl rfl rfl) (zap rfl ta22 rfl rfl rfl rfl rfl) ?_ | refine zaw rfl rfl (zb6 rfl rfl rfl) ?_ | refine zaw rfl rfl (zav rfl rfl rfl) ?_)
      all_goals (first | refine zat rfl rfl (zah rfl rfl rfl) (mv_s (.inl rfl) rfl) ?_ | refine zaw rfl rfl (zb6 rfl rfl rfl) ?_ | refine zaw rfl rfl (zav rfl rfl rfl) ?_)
      all_goals (first | refine zat rfl rfl (zah rfl rfl rfl) (does_sub rfl rfl rfl (IntWalk.i64_in _ (by omega))) ?_ | refine zaw rfl rfl (zb6 rfl rfl rfl) ?_ | refine zaw rfl rfl (zav rfl rfl rfl) ?_)
      all_goals (first | refine zat rfl rfl (zah rfl rfl rfl) (za1 rfl ts22 ti3 rfl rfl (by omega) (zb5 (k := j - 1) (by omega)) rfl) ?_ | refine zat rfl rfl (zah rfl rfl rfl) (zay rfl ts22 ti3 rfl rfl (by omega) (zb5 (k := j - 1) (by omega))) ?_ | refine zaw rfl rfl (zb6 rfl rfl rfl) ?_ | refine zaw rfl rfl (zav rfl rfl rfl) ?_)
      all_goals (first | refine zat rfl rfl (zah rfl rfl rfl) (zam rfl ta3 rfl) ?_ | refine zat rfl rfl (zah rfl rfl rfl) (zap rfl ta3 rfl rfl rfl rfl rfl) ?_ | refine zaw rfl rfl (zb6 rfl rfl rfl) ?_ | refine zaw rfl rfl (zav rfl rfl rfl) ?_)
      all_goals (first | refine zat rfl rfl (zah rfl rfl rfl) (zal rfl zc0 (by decide) rfl) ?_ | refine zat rfl rfl (zah rfl rfl rfl) (zai rfl zc0 (by decide) rfl) ?_ | refine zaw rfl rfl (zb6 rfl rfl rfl) ?_ | refine zaw rfl rfl (zav rfl rfl rfl) ?_)
      all_goals (first | refine zat rfl rfl (zah rfl rfl rfl) (zam rfl ta22 rfl) ?_ | refine zat rfl rfl (zah rfl rfl rfl) (zap rfl ta22 rfl rfl rfl rfl rfl) ?_ | refine zaw rfl rfl (zb6 rfl rfl rfl) ?_ | refine zaw rfl rfl (zav rfl rfl rfl) ?_)
      all_goals (first | refine zat rfl rfl (zah rfl rfl rfl) (mv_s (.inl rfl) rfl) ?_ | refine zaw rfl rfl (zb6 rfl rfl rfl) ?_ | refine zaw rfl rfl (zav rfl rfl rfl) ?_)
      all_goals (first | refine zat rfl rfl (zah rfl rfl rfl) (za1 rfl ts22 ti3 rfl rfl rfl (zb5 (by omega)) rfl) ?_ | refine zat rfl rfl (zah rfl rfl rfl) (zay rfl ts22 ti3 rfl rfl rfl (by omega)) ?_ | refine zaw rfl rfl (zb6 rfl rfl rfl) ?_ | refine zaw rfl rfl (zav rfl rfl rfl) ?_)
      all_goals (first | refine zat rfl rfl (zah rfl rfl rfl) (zam rfl ta3 rfl) ?_ | refine zat rfl rfl (zah rfl rfl rfl) (zap rfl ta3 rfl rfl rfl rfl rfl) ?_ | refine zaw rfl rfl (zb6 rfl rfl rfl) ?_ | refine zaw rfl rfl (zav rfl rfl rfl) ?_)
      all_goals (first | refine zdg rfl rfl (zah rfl rfl rfl) (zcp rfl rfl rfl) (fun h112 => ?_) (fun h112 => ?_) | refine zdh rfl rfl (zah rfl rfl rfl) (zcp rfl rfl rfl) (fun h112 => ?_) (fun h112 => ?_) | refine zaw rfl rfl (zb6 rfl rfl rfl) ?_ | refine zaw rfl rfl (zav rfl rfl rfl) ?_)
      all_goals (first | refine zat rfl rfl (zah rfl rfl rfl) (zbx rfl rfl rfl) ?_ | refine zat rfl rfl (zah rfl rfl rfl) (zby rfl rfl rfl) ?_ | refine zat rfl rfl (zah rfl rfl rfl) (zbk rfl rfl rfl) ?_ | refine zat rfl rfl (zah rfl rfl rfl) (zbl rfl rfl rfl) ?_ | refine zaw rfl rfl (zax rfl rfl rfl) ?_ | refine zaw rfl rfl (zav rfl rfl rfl) ?_)
      all_goals (first | refine zat rfl rfl (zaa rfl) (zbx rfl rfl rfl) ?_ | refine zat rfl rfl (zaa rfl) (zby rfl rfl rfl) ?_ | refine zat rfl rfl (zaa rfl) (zbk rfl rfl rfl) ?_ | refine zat rfl rfl (zaa rfl) (zbl rfl rfl rfl) ?_)
      all_goals refine qx_nil ?_
      all_goals (repeat (first | refine zag ?_ | refine zar ?_ | refine zad ?_ | refine zas ?_ | refine zac ?_))
      all_goals (first | refine zbp rfl ?_ | refine zbm rfl ?_)
      all_goals (repeat (first | refine zag ?_ | refine zar ?_ | refine zad ?_ | refine zas ?_ | refine zac ?_))
      all_goals first
        | skip
          refine zaf ?_
          refine zab rfl rfl (zaa rfl) (mv_s (.inr rfl) rfl) ?_
          refine zan ?_
          repeat (first | refine zag ?_ | refine zar ?_ | refine zad ?_ | refine zas ?_ | refine zac ?_)
          (refine zbs ?_; repeat (first | refine zb8 ?_ | refine zb9 ?_))
          exact zcm (.inr rfl) rfl (congrArg eB (validS_f hlt (by rw [hs]; exact sftB_f hlt2 (decide_eq_false (by omega)))).symm)
        | skip
          refine zaf ?_
          refine zab rfl rfl (zaa rfl) (mv_s (.inl rfl) rfl) ?_
          refine zab rfl rfl (zaa rfl) (zb2 rfl rfl rfl (IntWalk.i64_in _ (by omega))) ?_
          refine zab rfl rfl (zaa rfl) (mv_s (.inr rfl) rfl) ?_
          refine zan ?_
          repeat (first | refine zag ?_ | refine zar ?_ | refine zad ?_ | refine zas ?_ | refine zac ?_)
          refine ⟨j + 1, ⟨by omega, fun i hi => ?_⟩, by omega, zck [] (by decide) trivial ⟨.lo _ (by repeat' (first | exact Lo.s _ | exact zaj | refine zae ?_ ?_ | refine zak ?_ | refine Lo.cells ?_ | refine Lo.agg _ ?_ | refine Lo.ref _ ?_ | refine Lo.tup _ ?_ | refine Lo.fn _ _ ?_ | refine Lo.sl _ ?_ | intro _)), .lo _ (by repeat' (first | exact Lo.s _ | exact zaj | refine zae ?_ ?_ | refine zak ?_ | refine Lo.cells ?_ | refine Lo.agg _ ?_ | refine Lo.ref _ ?_ | refine Lo.tup _ ?_ | refine Lo.fn _ _ ?_ | refine Lo.sl _ ?_ | intro _)), .lo _ (by repeat' (first | exact Lo.s _ | exact zaj | refine zae ?_ ?_ | refine zak ?_ | refine Lo.cells ?_ | refine Lo.agg _ ?_ | refine Lo.ref _ ?_ | refine Lo.tup _ ?_ | refine Lo.fn _ _ ?_ | refine Lo.sl _ ?_ | intro _)), .lo _ (by repeat' (first | exact Lo.s _ | exact zaj | refine zae ?_ ?_ | refine zak ?_ | refine Lo.cells ?_ | refine Lo.agg _ ?_ | refine Lo.ref _ ?_ | refine Lo.tup _ ?_ | refine Lo.fn _ _ ?_ | refine Lo.sl _ ?_ | intro _)), .lo _ (by repeat' (first | exact Lo.s _ | exact zaj | refine zae ?_ ?_ | refine zak ?_ | refine Lo.cells ?_ | refine Lo.agg _ ?_ | refine Lo.ref _ ?_ | refine Lo.tup _ ?_ | refine Lo.fn _ _ ?_ | refine Lo.sl _ ?_ | intro _)), trivial⟩⟩
          by_cases e : i = j
          · subst e; exact decide_eq_true (by omega)
          · exact hper i (by omega)
    · repeat (first | refine zag ?_ | refine zar ?_ | refine zad ?_ | refine zas ?_ | refine zac ?_)
      (refine zcl ?_; repeat (first | refine ath_x ?_ | refine zci ?_ | refine zcb rfl ?_ | refine zas ?_ | refine zar ?_ | refine zag ?_ | refine zad ?_ | refine zac ?_))
      refine zaf ?_
      refine zab rfl rfl (zaa rfl) (mv_s (.inl rfl) rfl) ?_
      refine zab rfl rfl (zaa rfl) (zb2 rfl rfl rfl (IntWalk.i64_in _ (by omega))) ?_
      refine zab rfl rfl (zaa rfl) (mv_s (.inr rfl) rfl) ?_
      refine zan ?_
      repeat (first | refine zag ?_ | refine zar ?_ | refine zad ?_ | refine zas ?_ | refine zac ?_)
      refine ⟨k + 1, ⟨by omega, fun i hi => ?_⟩, by omega, zck [] (by decide) trivial ⟨.lo _ (by repeat' (first | exact Lo.s _ | exact zaj | refine zae ?_ ?_ | refine zak ?_ | refine Lo.cells ?_ | refine Lo.agg _ ?_ | refine Lo.ref _ ?_ | refine Lo.tup _ ?_ | refine Lo.fn _ _ ?_ | refine Lo.sl _ ?_ | intro _)), .lo _ (by repeat' (first | exact Lo.s _ | exact zaj | refine zae ?_ ?_ | refine zak ?_ | refine Lo.cells ?_ | refine Lo.agg _ ?_ | refine Lo.ref _ ?_ | refine Lo.tup _ ?_ | refine Lo.fn _ _ ?_ | refine Lo.sl _ ?_ | intro _)), .lo _ (by repeat' (first | exact Lo.s _ | exact zaj | refine zae ?_ ?_ | refine zak ?_ | refine Lo.cells ?_ | refine Lo.agg _ ?_ | refine Lo.ref _ ?_ | refine Lo.tup _ ?_ | refine Lo.fn _ _ ?_ | refine Lo.sl _ ?_ | intro _)), trivial⟩⟩
      by_cases e : i = k
      · subst e; rw [hs]; exact sftB_t hhs (fun i hi => hper i (by omega))
      · exact hall i (by omega)
  · (refine zcl ?_; repeat (first | refine ath_x ?_ | refine zci ?_ | refine zcb rfl ?_ | refine zas ?_ | refine zar ?_ | refine zag ?_ | refine zad ?_ | refine zac ?_))
    refine zaf ?_
    refine zab rfl rfl (zaa rfl) (mv_s (.inr rfl) rfl) ?_
    refine zan ?_
    repeat (first | refine zag ?_ | refine zar ?_ | refine zad ?_ | refine zas ?_ | refine zac ?_)
    (refine zbs ?_; repeat (first | refine zb8 ?_ | refine zb9 ?_))
    exact zcm (.inr rfl) rfl (congrArg eB (validS_t hh (fun j hj => hall j (by omega))).symm)

/-- counts for shifts -/
def cntB (l : List Sft) (c : List Int) : Bool := decide (c.length = l.length) && (List.range c.length).all fun k => decide (0 ≤ gti c k ∧ gti c k ≤ (gti l k).most)
theorem cntB_l {l : List Sft} {c : List Int} (h : c.length ≠ l.length) : cntB l c = false := by unfold cntB; rw [decide_eq_false h]; rfl
theorem cntB_f {l : List Sft} {c : List Int} {k : Nat} (hk : k < c.length) (h : ¬ (0 ≤ gti c k ∧ gti c k ≤ (gti l k).most)) : cntB l c = false := by
  unfold cntB; rw [rg_f hk (decide_eq_false h), Bool.and_false]
theorem cntB_t {l : List Sft} {c : List Int} (h : c.length = l.length) (h2 : ∀ k, k < c.length → 0 ≤ gti c k ∧ gti c k ≤ (gti l k).most) : cntB l c = true := by
  unfold cntB; rw [decide_eq_true h, rg_t (fun j hj => decide_eq_true (h2 j hj))]; rfl
theorem cntB_iff {l : List Sft} {c : List Int} (h : cntB l c = true) : c.length = l.length ∧ ∀ k, k < l.length → 0 ≤ gti c k ∧ gti c k ≤ (gti l k).most := by
  unfold cntB at h
  rw [Bool.and_eq_true, decide_eq_true_eq] at h
  refine ⟨h.1, fun k hk => ?_⟩
  have := List.all_eq_true.1 h.2 k (by rw [List.mem_range]; omega)
  rwa [decide_eq_true_eq] at this
set_option maxHeartbeats 1000000 in
theorem counts_pf (l : List Sft) (c : List Int) : Pure P 14 [eL eSh l, eL eI c] (eB (cntB l c)) := by
  refine zc4 (by rw [IsP.eq (P := P)]; exact Tryz.func14) rfl rfl rfl rfl rfl (by repeat' (first | exact Lo.s _ | exact zaj | refine zae ?_ ?_ | refine zak ?_ | refine Lo.cells ?_ | refine Lo.agg _ ?_ | refine Lo.ref _ ?_ | refine Lo.tup _ ?_ | refine Lo.fn _ _ ?_ | refine Lo.sl _ ?_ | intro _)) (by repeat' (first | exact Lo.s _ | exact zaj | refine zae ?_ ?_ | refine zak ?_ | refine Lo.cells ?_ | refine Lo.agg _ ?_ | refine Lo.ref _ ?_ | refine Lo.tup _ ?_ | refine Lo.fn _ _ ?_ | refine Lo.sl _ ?_ | intro _)) (by simp only [argF]; rfl) ?_
  repeat (first | refine zag ?_ | refine zar ?_ | refine zad ?_ | refine zas ?_ | refine zac ?_)
  refine zc5 (d := 1) rfl (fun hm1 => ?_)
  unfold maxLen at hm1
  refine zaf ?_
  refine zab rfl rfl (zaa rfl) (mv_s (.inr rfl) rfl) ?_
  refine zan ?_
  repeat (first | refine zag ?_ | refine zar ?_ | refine zad ?_ | refine zas ?_ | refine zac ?_)
  all_goals refine zaf ?_
  all_goals (first | refine zab rfl rfl (zaa rfl) (za6 (.inl rfl) rfl) ?_ | refine zab rfl rfl (zaa rfl) (zbg (.inl rfl) rfl) ?_ | refine zab rfl rfl (zaa rfl) (mv_s (.inl rfl) rfl) ?_ | refine zab rfl rfl (zaa rfl) (za7 (.inl rfl) rfl) ?_)
  all_goals (first | refine zab rfl rfl (zaa rfl) (za4 rfl ts22 rfl) ?_ | refine zab rfl rfl (zaa rfl) (za8 rfl ts22 rfl) ?_ | refine zab rfl rfl (zaa rfl) (za2 rfl ts22 rfl) ?_ | refine zab rfl rfl (zaa rfl) (zbc rfl ts22 rfl) ?_ | refine zab rfl rfl (zaa rfl) (za3 rfl ts22 rfl) ?_)
  all_goals (first | refine zab rfl rfl (zaa rfl) (za6 (.inl rfl) rfl) ?_ | refine zab rfl rfl (zaa rfl) (zbg (.inl rfl) rfl) ?_ | refine zab rfl rfl (zaa rfl) (mv_s (.inl rfl) rfl) ?_ | refine zab rfl rfl (zaa rfl) (za7 (.inl rfl) rfl) ?_)
  all_goals (first | refine zab rfl rfl (zaa rfl) (za4 rfl ts23 rfl) ?_ | refine zab rfl rfl (zaa rfl) (za8 rfl ts23 rfl) ?_ | refine zab rfl rfl (zaa rfl) (za2 rfl ts23 rfl) ?_ | refine zab rfl rfl (zaa rfl) (zbc rfl ts23 rfl) ?_ | refine zab rfl rfl (zaa rfl) (za3 rfl ts23 rfl) ?_)
  all_goals (first | refine zbh rfl rfl (zaa rfl) (zbv rfl rfl rfl) (fun h11 => ?_) (fun h11 => ?_) | refine zbi rfl rfl (zaa rfl) (zbv rfl rfl rfl) (fun h11 => ?_) (fun h11 => ?_))
  all_goals refine zan ?_
  all_goals (repeat (first | refine zag ?_ | refine zar ?_ | refine zad ?_ | refine zas ?_ | refine zac ?_))
  all_goals (first | refine zbp rfl ?_ | refine zbm rfl ?_)
  all_goals (repeat (first | refine zag ?_ | refine zar ?_ | refine zad ?_ | refine zas ?_ | refine zac ?_))
  · skip
    refine zaf ?_
    refine zab rfl rfl (zaa rfl) (mv_s (.inr rfl) rfl) ?_
    refine zan ?_
    repeat (first | refine zag ?_ | refine zar ?_ | refine zad ?_ | refine zas ?_ | refine zac ?_)
    (refine zbs ?_; repeat (first | refine zb8 ?_ | refine zb9 ?_))
    exact zcm (.inr rfl) rfl (congrArg eB (cntB_l (by omega)).symm)
  · have hl : c.length = l.length := by omega
    refine zaf ?_
    first | refine zab rfl rfl (zaa rfl) (za6 (.inl rfl) rfl) ?_ | refine zab rfl rfl (zaa rfl) (zbg (.inl rfl) rfl) ?_ | refine zab rfl rfl (zaa rfl) (mv_s (.inl rfl) rfl) ?_ | refine zab rfl rfl (zaa rfl) (za7 (.inl rfl) rfl) ?_
    first | refine zab rfl rfl (zaa rfl) (za4 rfl ts22 rfl) ?_ | refine zab rfl rfl (zaa rfl) (za8 rfl ts22 rfl) ?_ | refine zab rfl rfl (zaa rfl) (za2 rfl ts22 rfl) ?_ | refine zab rfl rfl (zaa rfl) (zbc rfl ts22 rfl) ?_ | refine zab rfl rfl (zaa rfl) (za3 rfl ts22 rfl) ?_
    refine zab rfl rfl (zaa rfl) (mv_s (.inl rfl) rfl) ?_
    refine zan ?_
    repeat (first | refine zag ?_ | refine zar ?_ | refine zad ?_ | refine zas ?_ | refine zac ?_)
    refine zcc (S := Nat) (fun k => [(0, eL eSh l), (1, eL eI c), (12, eL eI c), (13, eI c.length), (14, eI k)]) (fun _ => []) (fun k => k ≤ c.length ∧ ∀ j, j < k → 0 ≤ gti c j ∧ gti c j ≤ (gti l j).most) (fun k => c.length - k) 0 (zck [] (by decide) trivial ⟨.lo _ (by repeat' (first | exact Lo.s _ | exact zaj | refine zae ?_ ?_ | refine zak ?_ | refine Lo.cells ?_ | refine Lo.agg _ ?_ | refine Lo.ref _ ?_ | refine Lo.tup _ ?_ | refine Lo.fn _ _ ?_ | refine Lo.sl _ ?_ | intro _)), .lo _ (by repeat' (first | exact Lo.s _ | exact zaj | refine zae ?_ ?_ | refine zak ?_ | refine Lo.cells ?_ | refine Lo.agg _ ?_ | refine Lo.ref _ ?_ | refine Lo.tup _ ?_ | refine Lo.fn _ _ ?_ | refine Lo.sl _ ?_ | intro _)), .lo _ (by repeat' (first | exact Lo.s _ | exact zaj | refine zae ?_ ?_ | refine zak ?_ | refine Lo.cells ?_ | refine Lo.agg _ ?_ | refine Lo.ref _ ?_ | refine Lo.tup _ ?_ | refine Lo.fn _ _ ?_ | refine Lo.sl _ ?_ | intro _)), .lo _ (by repeat' (first | exact Lo.s _ | exact zaj | refine zae ?_ ?_ | refine zak ?_ | refine Lo.cells ?_ | refine Lo.agg _ ?_ | refine Lo.ref _ ?_ | refine Lo.tup _ ?_ | refine Lo.fn _ _ ?_ | refine Lo.sl _ ?_ | intro _)), .lo _ (by repeat' (first | exact Lo.s _ | exact zaj | refine zae ?_ ?_ | refine zak ?_ | refine Lo.cells ?_ | refine Lo.agg _ ?_ | refine Lo.ref _ ?_ | refine Lo.tup _ ?_ | refine Lo.fn _ _ ?_ | refine Lo.sl _ ?_ | intro _)), trivial⟩) ⟨by omega, fun j hj => by omega⟩ (fun k hk => ?_)
    obtain ⟨hk, hall⟩ := hk
    repeat (first | refine zag ?_ | refine zar ?_ | refine zad ?_ | refine zas ?_ | refine zac ?_)
    all_goals refine zaf ?_
    all_goals (first | refine zbh rfl rfl (zaa rfl) (zbb rfl rfl rfl) (fun h15 => ?_) (fun h15 => ?_) | refine zbi rfl rfl (zaa rfl) (zbb rfl rfl rfl) (fun h15 => ?_) (fun h15 => ?_))
    all_goals refine zan ?_
    all_goals (repeat (first | refine zag ?_ | refine zar ?_ | refine zad ?_ | refine zas ?_ | refine zac ?_))
    all_goals (first | refine zbp rfl ?_ | refine zbm rfl ?_)
    all_goals (repeat (first | refine zag ?_ | refine zar ?_ | refine zad ?_ | refine zas ?_ | refine zac ?_))
    · have hlt : k < c.length := by omega
      have hlt2 : k < l.length := by omega
      refine zaf ?_
      refine zab rfl rfl (zaa rfl) (mv_s (.inl rfl) rfl) ?_
      first | refine zab rfl rfl (zaa rfl) (za1 rfl ts22 ti3 rfl rfl rfl (zb5 (by omega)) rfl) ?_ | refine zab rfl rfl (zaa rfl) (zay rfl ts22 ti3 rfl rfl rfl (by omega)) ?_
      first | refine zab rfl rfl (zaa rfl) (zam rfl ta3 rfl) ?_ | refine zab rfl rfl (zaa rfl) (zap rfl ta3 rfl rfl rfl rfl rfl) ?_
      refine zab rfl rfl (zaa rfl) (mv_s (.inr rfl) rfl) ?_
      refine zab rfl rfl (zaa rfl) (mv_s (.inr rfl) rfl) ?_
      refine zan ?_
      repeat (first | refine zag ?_ | refine zar ?_ | refine zad ?_ | refine zas ?_ | refine zac ?_)
      all_goals refine zaf ?_
      all_goals refine zab rfl rfl (zaa rfl) (mv_s (.inl rfl) rfl) ?_
      all_goals (first | refine zbh rfl rfl (zaa rfl) (zbb rfl rfl rfl) (fun h20 => ?_) (fun h20 => ?_) | refine zbi rfl rfl (zaa rfl) (zbb rfl rfl rfl) (fun h20 => ?_) (fun h20 => ?_))
      all_goals refine zab rfl rfl (zaa rfl) (mv_s (.inl rfl) rfl) ?_
      all_goals (first | refine zab rfl rfl (zah rfl rfl rfl) (mv_s (.inl rfl) rfl) ?_ | refine zaq rfl rfl (zax rfl rfl rfl) ?_ | refine zaq rfl rfl (zav rfl rfl rfl) ?_)
      all_goals (first | refine zab rfl rfl (zah rfl rfl rfl) (za6 (.inl rfl) rfl) ?_ | refine zab rfl rfl (zah rfl rfl rfl) (zbg (.inl rfl) rfl) ?_ | refine zab rfl rfl (zah rfl rfl rfl) (mv_s (.inl rfl) rfl) ?_ | refine zab rfl rfl (zah rfl rfl rfl) (za7 (.inl rfl) rfl) ?_ | refine zaq rfl rfl (zax rfl rfl rfl) ?_ | refine zaq rfl rfl (zav rfl rfl rfl) ?_)
      all_goals (first | refine zab rfl rfl (zah rfl rfl rfl) (mv_s (.inl rfl) rfl) ?_ | refine zaq rfl rfl (zax rfl rfl rfl) ?_ | refine zaq rfl rfl (zav rfl rfl rfl) ?_)
      all_goals (first | refine zab rfl rfl (zah rfl rfl rfl) (za1 rfl ts23 ti36 rfl rfl rfl (zb5 (by omega)) rfl) ?_ | refine zab rfl rfl (zah rfl rfl rfl) (zay rfl ts23 ti36 rfl rfl rfl (by omega)) ?_ | refine zaq rfl rfl (zax rfl rfl rfl) ?_ | refine zaq rfl rfl (zav rfl rfl rfl) ?_)
      all_goals (first | refine zab rfl rfl (zah rfl rfl rfl) (zal rfl tf36_2 (by decide) rfl) ?_ | refine zab rfl rfl (zah rfl rfl rfl) (zai rfl tf36_2 (by decide) rfl) ?_ | refine zaq rfl rfl (zax rfl rfl rfl) ?_ | refine zaq rfl rfl (zav rfl rfl rfl) ?_)
      all_goals (first | refine zab rfl rfl (zah rfl rfl rfl) (zam rfl ta3 rfl) ?_ | refine zab rfl rfl (zah rfl rfl rfl) (zap rfl ta3 rfl rfl rfl rfl rfl) ?_ | refine zaq rfl rfl (zax rfl rfl rfl) ?_ | refine zaq rfl rfl (zav rfl rfl rfl) ?_)
      all_goals (first | refine zbh rfl rfl (zah rfl rfl rfl) (zbw rfl rfl rfl) (fun h28 => ?_) (fun h28 => ?_) | refine zbi rfl rfl (zah rfl rfl rfl) (zbw rfl rfl rfl) (fun h28 => ?_) (fun h28 => ?_) | refine zaq rfl rfl (zax rfl rfl rfl) ?_ | refine zaq rfl rfl (zav rfl rfl rfl) ?_)
      all_goals (first | refine zab rfl rfl (zaa rfl) (zbx rfl rfl rfl) ?_ | refine zab rfl rfl (zaa rfl) (zby rfl rfl rfl) ?_ | refine zab rfl rfl (zaa rfl) (zbk rfl rfl rfl) ?_ | refine zab rfl rfl (zaa rfl) (zbl rfl rfl rfl) ?_)
      all_goals refine zan ?_
      all_goals (repeat (first | refine zag ?_ | refine zar ?_ | refine zad ?_ | refine zas ?_ | refine zac ?_))
      all_goals (first | refine zbp rfl ?_ | refine zbm rfl ?_)
      all_goals (repeat (first | refine zag ?_ | refine zar ?_ | refine zad ?_ | refine zas ?_ | refine zac ?_))
      all_goals first
        | skip
          refine zaf ?_
          refine zab rfl rfl (zaa rfl) (mv_s (.inr rfl) rfl) ?_
          refine zan ?_
          repeat (first | refine zag ?_ | refine zar ?_ | refine zad ?_ | refine zas ?_ | refine zac ?_)
          (refine zbs ?_; repeat (first | refine zb8 ?_ | refine zb9 ?_))
          exact zcm (.inr rfl) rfl (congrArg eB (cntB_f hlt (by omega)).symm)
        | skip
          refine zaf ?_
          refine zab rfl rfl (zaa rfl) (zb2 rfl rfl rfl (IntWalk.i64_in _ (by omega))) ?_
          refine zab rfl rfl (zaa rfl) (mv_s (.inl rfl) rfl) ?_
          refine zan ?_
          repeat (first | refine zag ?_ | refine zar ?_ | refine zad ?_ | refine zas ?_ | refine zac ?_)
          refine ⟨k + 1, ⟨by omega, fun i hi => ?_⟩, by omega, zck [] (by decide) trivial ⟨.lo _ (by repeat' (first | exact Lo.s _ | exact zaj | refine zae ?_ ?_ | refine zak ?_ | refine Lo.cells ?_ | refine Lo.agg _ ?_ | refine Lo.ref _ ?_ | refine Lo.tup _ ?_ | refine Lo.fn _ _ ?_ | refine Lo.sl _ ?_ | intro _)), .lo _ (by repeat' (first | exact Lo.s _ | exact zaj | refine zae ?_ ?_ | refine zak ?_ | refine Lo.cells ?_ | refine Lo.agg _ ?_ | refine Lo.ref _ ?_ | refine Lo.tup _ ?_ | refine Lo.fn _ _ ?_ | refine Lo.sl _ ?_ | intro _)), .lo _ (by repeat' (first | exact Lo.s _ | exact zaj | refine zae ?_ ?_ | refine zak ?_ | refine Lo.cells ?_ | refine Lo.agg _ ?_ | refine Lo.ref _ ?_ | refine Lo.tup _ ?_ | refine Lo.fn _ _ ?_ | refine Lo.sl _ ?_ | intro _)), .lo _ (by repeat' (first | exact Lo.s _ | exact zaj | refine zae ?_ ?_ | refine zak ?_ | refine Lo.cells ?_ | refine Lo.agg _ ?_ | refine Lo.ref _ ?_ | refine Lo.tup _ ?_ | refine Lo.fn _ _ ?_ | refine Lo.sl _ ?_ | intro _)), .lo _ (by repeat' (first | exact Lo.s _ | exact zaj | refine zae ?_ ?_ | refine zak ?_ | refine Lo.cells ?_ | refine Lo.agg _ ?_ | refine Lo.ref _ ?_ | refine Lo.tup _ ?_ | refine Lo.fn _ _ ?_ | refine Lo.sl _ ?_ | intro _)), trivial⟩⟩
          by_cases e : i = k
          · subst e; omega
          · exact hall i (by omega)
    · (refine zcl ?_; repeat (first | refine ath_x ?_ | refine zci ?_ | refine zcb rfl ?_ | refine zas ?_ | refine zar ?_ | refine zag ?_ | refine zad ?_ | refine zac ?_))
      refine zaf ?_
      refine zab rfl rfl (zaa rfl) (mv_s (.inr rfl) rfl) ?_
      refine zan ?_
      repeat (first | refine zag ?_ | refine zar ?_ | refine zad ?_ | refine zas ?_ | refine zac ?_)
      (refine zbs ?_; repeat (first | refine zb8 ?_ | refine zb9 ?_))
      exact zcm (.inr rfl) rfl (congrArg eB (cntB_t hl (fun j hj => hall j (by omega))).symm)
set_option maxHeartbeats 1000000 in
theorem rCounts_pf (l : List Sft) (c : List Int) : Pure P 20 [eL eSh l, eL eI c] (eB (cntB l c)) := by
  refine zc4 (by rw [IsP.eq (P := P)]; exact Tryz.func20) rfl rfl rfl rfl rfl (by repeat' (first | exact Lo.s _ | exact zaj | refine zae ?_ ?_ | refine zak ?_ | refine Lo.cells ?_ | refine Lo.agg _ ?_ | refine Lo.ref _ ?_ | refine Lo.tup _ ?_ | refine Lo.fn _ _ ?_ | refine Lo.sl _ ?_ | intro _)) (by repeat' (first | exact Lo.s _ | exact zaj | refine zae ?_ ?_ | refine zak ?_ | refine Lo.cells ?_ | refine Lo.agg _ ?_ | refine Lo.ref _ ?_ | refine Lo.tup _ ?_ | refine Lo.fn _ _ ?_ | refine Lo.sl _ ?_ | intro _)) (by simp only [argF]; rfl) ?_
  repeat (first | refine zag ?_ | refine zar ?_ | refine zad ?_ | refine zas ?_ | refine zac ?_)
  refine zc5 (d := 1) rfl (fun hm1 => ?_)
  unfold maxLen at hm1
  refine zaf ?_
  refine zab rfl rfl (zaa rfl) (mv_s (.inr rfl) rfl) ?_
  refine zan ?_
  repeat (first | refine zag ?_ | refine zar ?_ | refine zad ?_ | refine zas ?_ | refine zac ?_)
  all_goals refine zaf ?_
  all_goals (first | refine zab rfl rfl (zaa rfl) (za6 (.inl rfl) rfl) ?_ | refine zab rfl rfl (zaa rfl) (zbg (.inl rfl) rfl) ?_ | refine zab rfl rfl (zaa rfl) (mv_s (.inl rfl) rfl) ?_ | refine zab rfl rfl (zaa rfl) (za7 (.inl rfl) rfl) ?_)
  all_goals (first | refine zab rfl rfl (zaa rfl) (za4 rfl ts22 rfl) ?_ | refine zab rfl rfl (zaa rfl) (za8 rfl ts22 rfl) ?_ | refine zab rfl rfl (zaa rfl) (za2 rfl ts22 rfl) ?_ | refine zab rfl rfl (zaa rfl) (zbc rfl ts22 rfl) ?_ | refine zab rfl rfl (zaa rfl) (za3 rfl ts22 rfl) ?_)
  all_goals (first | refine zab rfl rfl (zaa rfl) (za6 (.inl rfl) rfl) ?_ | refine zab rfl rfl (zaa rfl) (zbg (.inl rfl) rfl) ?_ | refine zab rfl rfl (zaa rfl) (mv_s (.inl rfl) rfl) ?_ | refine zab rfl rfl (zaa rfl) (za7 (.inl rfl) rfl) ?_)
  all_goals (first | refine zab rfl rfl (zaa rfl) (za4 rfl ts23 rfl) ?_ | refine zab rfl rfl (zaa rfl) (za8 rfl ts23 rfl) ?_ | refine zab rfl rfl (zaa rfl) (za2 rfl ts23 rfl) ?_ | refine zab rfl rfl (zaa rfl) (zbc rfl ts23 rfl) ?_ | refine zab rfl rfl (zaa rfl) (za3 rfl ts23 rfl) ?_)
  all_goals (first | refine zbh rfl rfl (zaa rfl) (zbv rfl rfl rfl) (fun h10 => ?_) (fun h10 => ?_) | refine zbi rfl rfl (zaa rfl) (zbv rfl rfl rfl) (fun h10 => ?_) (fun h10 => ?_))
  all_goals refine zan ?_
  all_goals (repeat (first | refine zag ?_ | refine zar ?_ | refine zad ?_ | refine zas ?_ | refine zac ?_))
  all_goals (first | refine zbp rfl ?_ | refine zbm rfl ?_)
  all_goals (repeat (first | refine zag ?_ | refine zar ?_ | refine zad ?_ | refine zas ?_ | refine zac ?_))
  · skip
    refine zaf ?_
    refine zab rfl rfl (zaa rfl) (mv_s (.inr rfl) rfl) ?_
    refine zan ?_
    repeat (first | refine zag ?_ | refine zar ?_ | refine zad ?_ | refine zas ?_ | refine zac ?_)
    (refine zbs ?_; repeat (first | refine zb8 ?_ | refine zb9 ?_))
    exact zcm (.inr rfl) rfl (congrArg eB (cntB_l (by omega)).symm)
  · have hl : c.length = l.length := by omega
    refine zaf ?_
    refine zab rfl rfl (zaa rfl) (mv_s (.inr rfl) rfl) ?_
    refine zan ?_
    repeat (first | refine zag ?_ | refine zar ?_ | refine zad ?_ | refine zas ?_ | refine zac ?_)
    refine zcc (S := Nat) (fun k => [(0, eL eSh l), (1, eL eI c), (5, eI k)]) (fun _ => []) (fun k => k ≤ c.length ∧ ∀ j, j < k → 0 ≤ gti c j ∧ gti c j ≤ (gti l j).most) (fun k => c.length - k) 0 (zck [] (by decide) trivial ⟨.lo _ (by repeat' (first | exact Lo.s _ | exact zaj | refine zae ?_ ?_ | refine zak ?_ | refine Lo.cells ?_ | refine Lo.agg _ ?_ | refine Lo.ref _ ?_ | refine Lo.tup _ ?_ | refine Lo.fn _ _ ?_ | refine Lo.sl _ ?_ | intro _)), .lo _ (by repeat' (first | exact Lo.s _ | exact zaj | refine zae ?_ ?_ | refine zak ?_ | refine Lo.cells ?_ | refine Lo.agg _ ?_ | refine Lo.ref _ ?_ | refine Lo.tup _ ?_ | refine Lo.fn _ _ ?_ | refine Lo.sl _ ?_ | intro _)), .lo _ (by repeat' (first | exact Lo.s _ | exact zaj | refine zae ?_ ?_ | refine zak ?_ | refine Lo.cells ?_ | refine Lo.agg _ ?_ | refine Lo.ref _ ?_ | refine Lo.tup _ ?_ | refine Lo.fn _ _ ?_ | refine Lo.sl _ ?_ | intro _)), trivial⟩) ⟨by omega, fun j hj => by omega⟩ (fun k hk => ?_)
    obtain ⟨hk, hall⟩ := hk
    repeat (first | refine zag ?_ | refine zar ?_ | refine zad ?_ | refine zas ?_ | refine zac ?_)
    all_goals refine zaf ?_
    all_goals refine zab rfl rfl (zaa rfl) (mv_s (.inl rfl) rfl) ?_
    all_goals (first | refine zab rfl rfl (zaa rfl) (za6 (.inl rfl) rfl) ?_ | refine zab rfl rfl (zaa rfl) (zbg (.inl rfl) rfl) ?_ | refine zab rfl rfl (zaa rfl) (mv_s (.inl rfl) rfl) ?_ | refine zab rfl rfl (zaa rfl) (za7 (.inl rfl) rfl) ?_)
    all_goals (first | refine zab rfl rfl (zaa rfl) (za4 rfl ts23 rfl) ?_ | refine zab rfl rfl (zaa rfl) (za8 rfl ts23 rfl) ?_ | refine zab rfl rfl (zaa rfl) (za2 rfl ts23 rfl) ?_ | refine zab rfl rfl (zaa rfl) (zbc rfl ts23 rfl) ?_ | refine zab rfl rfl (zaa rfl) (za3 rfl ts23 rfl) ?_)
    all_goals (first | refine zbh rfl rfl (zaa rfl) (zbb rfl rfl rfl) (fun h14 => ?_) (fun h14 => ?_) | refine zbi rfl rfl (zaa rfl) (zbb rfl rfl rfl) (fun h14 => ?_) (fun h14 => ?_))
    all_goals refine zan ?_
    all_goals (repeat (first | refine zag ?_ | refine zar ?_ | refine zad ?_ | refine zas ?_ | refine zac ?_))
    all_goals (first | refine zbp rfl ?_ | refine zbm rfl ?_)
    all_goals (repeat (first | refine zag ?_ | refine zar ?_ | refine zad ?_ | refine zas ?_ | refine zac ?_))
    · have hlt : k < c.length := by omega
      have hlt2 : k < l.length := by omega
      all_goals refine zch hmix ?_
      all_goals refine zco (by kernel_rfl) ?_
      all_goals (first | refine zat rfl rfl (zaa rfl) (za6 (.inl rfl) rfl) ?_ | refine zat rfl rfl (zaa rfl) (zbg (.inl rfl) rfl) ?_ | refine zat rfl rfl (zaa rfl) (mv_s (.inl rfl) rfl) ?_ | refine zat rfl rfl (zaa rfl) (za7 (.inl rfl) rfl) ?_)
      all_goals refine zat rfl rfl (zaa rfl) (mv_s (.inl rfl) rfl) ?_
      all_goals (first | refine zat rfl rfl (zaa rfl) (za1 rfl ts22 ti3 rfl rfl rfl (zb5 (by omega)) rfl) ?_ | refine zat rfl rfl (zaa rfl) (zay rfl ts22 ti3 rfl rfl rfl (by omega)) ?_)
      all_goals (first | refine zat rfl rfl (zaa rfl) (zam rfl ta3 rfl) ?_ | refine zat rfl rfl (zaa rfl) (zap rfl ta3 rfl rfl rfl rfl rfl) ?_)
      all_goals (first | refine zdg rfl rfl (zaa rfl) (zbb rfl rfl rfl) (fun h21 => ?_) (fun h21 => ?_) | refine zdh rfl rfl (zaa rfl) (zbb rfl rfl rfl) (fun h21 => ?_) (fun h21 => ?_))
      all_goals refine zat rfl rfl (zaa rfl) (mv_s (.inl rfl) rfl) ?_
      all_goals (first | refine zat rfl rfl (zah rfl rfl rfl) (za6 (.inl rfl) rfl) ?_ | refine zat rfl rfl (zah rfl rfl rfl) (zbg (.inl rfl) rfl) ?_ | refine zat rfl rfl (zah rfl rfl rfl) (mv_s (.inl rfl) rfl) ?_ | refine zat rfl rfl (zah rfl rfl rfl) (za7 (.inl rfl) rfl) ?_ | refine zaw rfl rfl (zax rfl rfl rfl) ?_ | refine zaw rfl rfl (zav rfl rfl rfl) ?_)
      all_goals (first | refine zat rfl rfl (zah rfl rfl rfl) (mv_s (.inl rfl) rfl) ?_ | refine zaw rfl rfl (zax rfl rfl rfl) ?_ | refine zaw rfl rfl (zav rfl rfl rfl) ?_)
      all_goals (first | refine zat rfl rfl (zah rfl rfl rfl) (za1 rfl ts22 ti3 rfl rfl rfl (zb5 (by omega)) rfl) ?_ | refine zat rfl rfl (zah rfl rfl rfl) (zay rfl ts22 ti3 rfl rfl rfl (by omega)) ?_ | refine zaw rfl rfl (zax rfl rfl rfl) ?_ | refine zaw rfl rfl (zav rfl rfl rfl) ?_)
      all_goals (first | refine zat rfl rfl (zah rfl rfl rfl) (zam rfl ta3 rfl) ?_ | refine zat rfl rfl (zah rfl rfl rfl) (zap rfl ta3 rfl rfl rfl rfl rfl) ?_ | refine zaw rfl rfl (zax rfl rfl rfl) ?_ | refine zaw rfl rfl (zav rfl rfl rfl) ?_)
      all_goals (first | refine zat rfl rfl (zah rfl rfl rfl) (za6 (.inl rfl) rfl) ?_ | refine zat rfl rfl (zah rfl rfl rfl) (zbg (.inl rfl) rfl) ?_ | refine zat rfl rfl (zah rfl rfl rfl) (mv_s (.inl rfl) rfl) ?_ | refine zat rfl rfl (zah rfl rfl rfl) (za7 (.inl rfl) rfl) ?_ | refine zaw rfl rfl (zax rfl rfl rfl) ?_ | refine zaw rfl rfl (zav rfl rfl rfl) ?_)
      all_goals (first | refine zat rfl rfl (zah rfl rfl rfl) (mv_s (.inl rfl) rfl) ?_ | refine zaw rfl rfl (zax rfl rfl rfl) ?_ | refine zaw rfl rfl (zav rfl rfl rfl) ?_)
      all_goals (first | refine zat rfl rfl (zah rfl rfl rfl) (za1 rfl ts23 ti36 rfl rfl rfl (zb5 (by omega)) rfl) ?_ | refine zat rfl rfl (zah rfl rfl rfl) (zay rfl ts23 ti36 rfl rfl rfl (by omega)) ?_ | refine zaw rfl rfl (zax rfl rfl rfl) ?_ | refine zaw rfl rfl (zav rfl rfl rfl) ?_)
      all_goals (first | refine zat rfl rfl (zah rfl rfl rfl) (zal rfl tf36_2 (by decide) rfl) ?_ | refine zat rfl rfl (zah rfl rfl rfl) (zai rfl tf36_2 (by decide) rfl) ?_ | refine zaw rfl rfl (zax rfl rfl rfl) ?_ | refine zaw rfl rfl (zav rfl rfl rfl) ?_)
      all_goals (first | refine zat rfl rfl (zah rfl rfl rfl) (zam rfl ta3 rfl) ?_ | refine zat rfl rfl (zah rfl rfl rfl) (zap rfl ta3 rfl rfl rfl rfl rfl) ?_ | refine zaw rfl rfl (zax rfl rfl rfl) ?_ | refine zaw rfl rfl (zav rfl rfl rfl) ?_)
      all_goals (first | refine zdg rfl rfl (zah rfl rfl rfl) (zbw rfl rfl rfl) (fun h32 => ?_) (fun h32 => ?_) | refine zdh rfl rfl (zah rfl rfl rfl) (zbw rfl rfl rfl) (fun h32 => ?_) (fun h32 => ?_) | refine zaw rfl rfl (zax rfl rfl rfl) ?_ | refine zaw rfl rfl (zav rfl rfl rfl) ?_)
      all_goals (first | refine zat rfl rfl (zaa rfl) (zbx rfl rfl rfl) ?_ | refine zat rfl rfl (zaa rfl) (zby rfl rfl rfl) ?_ | refine zat rfl rfl (zaa rfl) (zbk rfl rfl rfl) ?_ | refine zat rfl rfl (zaa rfl) (zbl rfl rfl rfl) ?_)
      all_goals refine qx_nil ?_
      all_goals (repeat (first | refine zag ?_ | refine zar ?_ | refine zad ?_ | refine zas ?_ | refine zac ?_))
      all_goals (first | refine zbp rfl ?_ | refine zbm rfl ?_)
      all_goals (repeat (first | refine zag ?_ | refine zar ?_ | refine zad ?_ | refine zas ?_ | refine zac ?_))
      all_goals first
        | skip
          refine zaf ?_
          refine zab rfl rfl (zaa rfl) (mv_s (.inr rfl) rfl) ?_
          refine zan ?_
          repeat (first | refine zag ?_ | refine zar ?_ | refine zad ?_ | refine zas ?_ | refine zac ?_)
          (refine zbs ?_; repeat (first | refine zb8 ?_ | refine zb9 ?_))
          exact zcm (.inr rfl) rfl (congrArg eB (cntB_f hlt (by omega)).symm)
        | skip
          refine zaf ?_
          refine zab rfl rfl (zaa rfl) (mv_s (.inl rfl) rfl) ?_
          refine zab rfl rfl (zaa rfl) (zb2 rfl rfl rfl (IntWalk.i64_in _ (by omega))) ?_
          refine zab rfl rfl (zaa rfl) (mv_s (.inr rfl) rfl) ?_
          refine zan ?_
          repeat (first | refine zag ?_ | refine zar ?_ | refine zad ?_ | refine zas ?_ | refine zac ?_)
          refine ⟨k + 1, ⟨by omega, fun i hi => ?_⟩, by omega, zck [] (by decide) trivial ⟨.lo _ (by repeat' (first | exact Lo.s _ | exact zaj | refine zae ?_ ?_ | refine zak ?_ | refine Lo.cells ?_ | refine Lo.agg _ ?_ | refine Lo.ref _ ?_ | refine Lo.tup _ ?_ | refine Lo.fn _ _ ?_ | refine Lo.sl _ ?_ | intro _)), .lo _ (by repeat' (first | exact Lo.s _ | exact zaj | refine zae ?_ ?_ | refine zak ?_ | refine Lo.cells ?_ | refine Lo.agg _ ?_ | refine Lo.ref _ ?_ | refine Lo.tup _ ?_ | refine Lo.fn _ _ ?_ | refine Lo.sl _ ?_ | intro _)), .lo _ (by repeat' (first | exact Lo.s _ | exact zaj | refine zae ?_ ?_ | refine zak ?_ | refine Lo.cells ?_ | refine Lo.agg _ ?_ | refine Lo.ref _ ?_ | refine Lo.tup _ ?_ | refine Lo.fn _ _ ?_ | refine Lo.sl _ ?_ | intro _)), trivial⟩⟩
          by_cases e : i = k
          · subst e; omega
          · exact hall i (by omega)
    · (refine zcl ?_; repeat (first | refine ath_x ?_ | refine zci ?_ | refine zcb rfl ?_ | refine zas ?_ | refine zar ?_ | refine zag ?_ | refine zad ?_ | refine zac ?_))
      refine zaf ?_
      refine zab rfl rfl (zaa rfl) (mv_s (.inr rfl) rfl) ?_
      refine zan ?_
      repeat (first | refine zag ?_ | refine zar ?_ | refine zad ?_ | refine zas ?_ | refine zac ?_)
      (refine zbs ?_; repeat (first | refine zb8 ?_ | refine zb9 ?_))
      exact zcm (.inr rfl) rfl (congrArg eB (cntB_t hl (fun j hj => hall j (by omega))).symm)

/-- whether period p is in a list -/
def inB (l : List Int) (p : Int) : Bool := l.any fun x => decide (x = p)
theorem inB_t {l : List Int} {p : Int} {k : Nat} (hk : k < l.length) (h : gti l k = p) : inB l p = true := by
  unfold inB; rw [List.any_eq_true]; exact ⟨_, gti_mem hk, decide_eq_true h⟩
theorem inB_f {l : List Int} {p : Int} (h : ∀ k, k < l.length → gti l k ≠ p) : inB l p = false := by
  unfold inB
  rw [List.any_eq_false]
  intro a ha
  obtain ⟨j, hj, rfl⟩ := List.mem_iff_getElem.1 ha
  have h2 := zdj hj
  rw [List.getElem?_eq_getElem hj] at h2
  rw [Option.some.inj h2, decide_eq_true_eq]
  exact h j hj
theorem in_pf (s : Sft) (p : Int) : Pure P 33 [eSh s, eI p] (eB (inB s.pd p)) := by
  refine zc4 (by rw [IsP.eq (P := P)]; exact Tryz.func33) rfl rfl rfl rfl rfl (by repeat' (first | exact Lo.s _ | exact zaj | refine zae ?_ ?_ | refine zak ?_ | refine Lo.cells ?_ | refine Lo.agg _ ?_ | refine Lo.ref _ ?_ | refine Lo.tup _ ?_ | refine Lo.fn _ _ ?_ | refine Lo.sl _ ?_ | intro _)) (by repeat' (first | exact Lo.s _ | exact zaj | refine zae ?_ ?_ | refine zak ?_ | refine Lo.cells ?_ | refine Lo.agg _ ?_ | refine Lo.ref _ ?_ | refine Lo.tup _ ?_ | refine Lo.fn _ _ ?_ | refine Lo.sl _ ?_ | intro _)) (by simp only [argF]; rfl) ?_
  repeat (first | refine zag ?_ | refine zar ?_ | refine zad ?_ | refine zas ?_ | refine zac ?_)
  refine zaf ?_
  refine zab rfl rfl (zaa rfl) (zcv rfl rfl rfl rfl) ?_
  refine zbq (zcd (id := 0) rfl) (zbq (zcy (d := 2) rfl rfl rfl) ?_)
  refine zab rfl rfl (zaa rfl) (mv_s (.inr rfl) rfl) ?_
  refine zan ?_
  repeat (first | refine zag ?_ | refine zar ?_ | refine zad ?_ | refine zas ?_ | refine zac ?_)
  refine zaf ?_
  refine zab rfl rfl (zaa rfl) (mv_s (.inr rfl) rfl) ?_
  refine zan ?_
  repeat (first | refine zag ?_ | refine zar ?_ | refine zad ?_ | refine zas ?_ | refine zac ?_)
  refine zcc (S := Nat) (fun k => [(1, eI p), (2, .ref (eSh s).cells), (5, eI k)]) (fun _ => []) (fun k => k ≤ s.pd.length ∧ ∀ j, j < k → gti s.pd j ≠ p) (fun k => s.pd.length - k) 0 (zck [] (by decide) trivial ⟨.lo _ (by repeat' (first | exact Lo.s _ | exact zaj | refine zae ?_ ?_ | refine zak ?_ | refine Lo.cells ?_ | refine Lo.agg _ ?_ | refine Lo.ref _ ?_ | refine Lo.tup _ ?_ | refine Lo.fn _ _ ?_ | refine Lo.sl _ ?_ | intro _)), .lo _ (by repeat' (first | exact Lo.s _ | exact zaj | refine zae ?_ ?_ | refine zak ?_ | refine Lo.cells ?_ | refine Lo.agg _ ?_ | refine Lo.ref _ ?_ | refine Lo.tup _ ?_ | refine Lo.fn _ _ ?_ | refine Lo.sl _ ?_ | intro _)), .lo _ (by repeat' (first | exact Lo.s _ | exact zaj | refine zae ?_ ?_ | refine zak ?_ | refine Lo.cells ?_ | refine Lo.agg _ ?_ | refine Lo.ref _ ?_ | refine Lo.tup _ ?_ | refine Lo.fn _ _ ?_ | refine Lo.sl _ ?_ | intro _)), trivial⟩) ⟨by omega, fun j hj => by omega⟩ (fun k hk => ?_)
  obtain ⟨hk, hall⟩ := hk
  repeat (first | refine zag ?_ | refine zar ?_ | refine zad ?_ | refine zas ?_ | refine zac ?_)
  refine zaf ?_
  refine zab rfl rfl (zaa rfl) (mv_s (.inl rfl) rfl) ?_
  first | refine zab rfl rfl (zaa rfl) (zal rfl zc0 (by decide) rfl) ?_ | refine zab rfl rfl (zaa rfl) (zai rfl zc0 (by decide) rfl) ?_
  first | refine zab rfl rfl (zaa rfl) (zam rfl ta22 rfl) ?_ | refine zab rfl rfl (zaa rfl) (zap rfl ta22 rfl rfl rfl rfl rfl) ?_
  first | refine zab rfl rfl (zaa rfl) (za4 rfl ts22 rfl) ?_ | refine zab rfl rfl (zaa rfl) (za8 rfl ts22 rfl) ?_ | refine zab rfl rfl (zaa rfl) (za2 rfl ts22 rfl) ?_ | refine zab rfl rfl (zaa rfl) (zbc rfl ts22 rfl) ?_ | refine zab rfl rfl (zaa rfl) (za3 rfl ts22 rfl) ?_
  refine zab rfl rfl (zaa rfl) (zbb rfl rfl rfl) ?_
  refine zan ?_
  repeat (first | refine zag ?_ | refine zar ?_ | refine zad ?_ | refine zas ?_ | refine zac ?_)
  refine zc5 (d := 8) rfl (fun hm3 => ?_)
  unfold maxLen at hm3
  refine aw_if rfl (fun h => ?_) (fun h => ?_)
  · repeat (first | refine zag ?_ | refine zar ?_ | refine zad ?_ | refine zas ?_ | refine zac ?_)
    have hlt : k < s.pd.length := by omega
    all_goals refine zaf ?_
    all_goals (first | refine zab rfl rfl (zaa rfl) (zal rfl zc0 (by decide) rfl) ?_ | refine zab rfl rfl (zaa rfl) (zai rfl zc0 (by decide) rfl) ?_)
    all_goals (first | refine zab rfl rfl (zaa rfl) (zam rfl ta22 rfl) ?_ | refine zab rfl rfl (zaa rfl) (zap rfl ta22 rfl rfl rfl rfl rfl) ?_)
    all_goals refine zab rfl rfl (zaa rfl) (mv_s (.inl rfl) rfl) ?_
    all_goals (first | refine zab rfl rfl (zaa rfl) (za1 rfl ts22 ti3 rfl rfl rfl (zb5 (by omega)) rfl) ?_ | refine zab rfl rfl (zaa rfl) (zay rfl ts22 ti3 rfl rfl rfl (by omega)) ?_)
    all_goals (first | refine zab rfl rfl (zaa rfl) (zam rfl ta3 rfl) ?_ | refine zab rfl rfl (zaa rfl) (zap rfl ta3 rfl rfl rfl rfl rfl) ?_)
    all_goals refine zab rfl rfl (zaa rfl) (mv_s (.inl rfl) rfl) ?_
    all_goals (first | refine zbh rfl rfl (zaa rfl) (zcr rfl rfl rfl) (fun h19 => ?_) (fun h19 => ?_) | refine zbi rfl rfl (zaa rfl) (zcr rfl rfl rfl) (fun h19 => ?_) (fun h19 => ?_))
    all_goals refine zan ?_
    all_goals (repeat (first | refine zag ?_ | refine zar ?_ | refine zad ?_ | refine zas ?_ | refine zac ?_))
    all_goals (first | refine zbp rfl ?_ | refine zbm rfl ?_)
    all_goals (repeat (first | refine zag ?_ | refine zar ?_ | refine zad ?_ | refine zas ?_ | refine zac ?_))
    · skip
      refine zaf ?_
      refine zab rfl rfl (zaa rfl) (mv_s (.inr rfl) rfl) ?_
      refine zan ?_
      repeat (first | refine zag ?_ | refine zar ?_ | refine zad ?_ | refine zas ?_ | refine zac ?_)
      (refine zbs ?_; repeat (first | refine zb8 ?_ | refine zb9 ?_))
      exact zcm (.inr rfl) rfl (congrArg eB (inB_t hlt h19).symm)
    · skip
      refine zaf ?_
      refine zab rfl rfl (zaa rfl) (mv_s (.inl rfl) rfl) ?_
      refine zab rfl rfl (zaa rfl) (zb2 rfl rfl rfl (IntWalk.i64_in _ (by omega))) ?_
      refine zab rfl rfl (zaa rfl) (mv_s (.inr rfl) rfl) ?_
      refine zan ?_
      repeat (first | refine zag ?_ | refine zar ?_ | refine zad ?_ | refine zas ?_ | refine zac ?_)
      refine ⟨k + 1, ⟨by omega, fun i hi => ?_⟩, by omega, zck [] (by decide) trivial ⟨.lo _ (by repeat' (first | exact Lo.s _ | exact zaj | refine zae ?_ ?_ | refine zak ?_ | refine Lo.cells ?_ | refine Lo.agg _ ?_ | refine Lo.ref _ ?_ | refine Lo.tup _ ?_ | refine Lo.fn _ _ ?_ | refine Lo.sl _ ?_ | intro _)), .lo _ (by repeat' (first | exact Lo.s _ | exact zaj | refine zae ?_ ?_ | refine zak ?_ | refine Lo.cells ?_ | refine Lo.agg _ ?_ | refine Lo.ref _ ?_ | refine Lo.tup _ ?_ | refine Lo.fn _ _ ?_ | refine Lo.sl _ ?_ | intro _)), .lo _ (by repeat' (first | exact Lo.s _ | exact zaj | refine zae ?_ ?_ | refine zak ?_ | refine Lo.cells ?_ | refine Lo.agg _ ?_ | refine Lo.ref _ ?_ | refine Lo.tup _ ?_ | refine Lo.fn _ _ ?_ | refine Lo.sl _ ?_ | intro _)), trivial⟩⟩
      by_cases e : i = k
      · subst e; exact h19
      · exact hall i (by omega)
  · repeat (first | refine zag ?_ | refine zar ?_ | refine zad ?_ | refine zas ?_ | refine zac ?_)
    (refine zcl ?_; repeat (first | refine ath_x ?_ | refine zci ?_ | refine zcb rfl ?_ | refine zas ?_ | refine zar ?_ | refine zag ?_ | refine zad ?_ | refine zac ?_))
    refine zaf ?_
    refine zab rfl rfl (zaa rfl) (mv_s (.inr rfl) rfl) ?_
    refine zan ?_
    repeat (first | refine zag ?_ | refine zar ?_ | refine zad ?_ | refine zas ?_ | refine zac ?_)
    (refine zbs ?_; repeat (first | refine zb8 ?_ | refine zb9 ?_))
    exact zcm (.inr rfl) rfl (congrArg eB (inB_f (fun j hj => hall j (by omega))).symm)
end Go.Proofs.YtmoipmnhgdmkpaaGreat.Aw
end
